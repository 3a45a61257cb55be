/- Go functions of the given program as plain Lean functions, each with a proof that the machine's call answers so; no statement of the seed is proved here. -/
import Derived.Test.YtggaefklcpbfnaaPa0
import Derived.Test.YtggaefklcpbfnaaPaBournelaw2awake
import Derived.Test.YtggaefklcpbfnaaPaFold
import Derived.Test.YtggaefklcpbfnaaPaItem2
import Derived.Test.YtggaefklcpbfnaaPaLeaf
import Derived.Test.YtggaefklcpbfnaaPaLowValue
namespace Go.Proofs.Ytggaefklcpbfnaa.Pa
open Go.RowKit Go.Proofs.YtggaefklcpbfnaaW.PrintWords Go.Proofs.YtggaefklcpbfnaaW.PrintLast Go.Proofs.YtggaefklcpbfnaaW.PrintMore
attribute [local go_sem] max2_int min2_int max_two min_two max_three min_three max_four min_four   -- for this text's walks alone
set_option linter.unusedVariables false
set_option linter.unusedSimpArgs false

/-! ### bournelaw2_LowPlain: function 4 -/
mutual
def bournelaw2_LowPlain.j1 : Nat → List (S26) → Int → Int → Int → Option (Bool)
  | 0, _, _, _, _ => none
  | k + 1, x3, x4, x5, x6 => if (x3.length : Int) = 0 then (some true) else ((bournelaw2_fold.f k x3 ([] : List Int)).bind fun bt644 => (if 0 < (x3.length : Int) then (if 0 ≤ (wrap64 ((x3.length : Int) - 1)) then (if (wrap64 ((x3.length : Int) - 1)) < (x3.length : Int) then (bournelaw2_LowPlain.l1 k (([(x3.length : Int), x4, x5, x6, (rd_T26 x3 0).f3, (rd_T26 x3 (wrap64 ((x3.length : Int) - 1))).f3] : List Int)) 0 bt644.1 bt644.2.1 bt644.2.2.1 bt644.2.2.2.1 bt644.2.2.2.2.1 bt644.2.2.2.2.2.1 bt644.2.2.2.2.2.2.1 bt644.2.2.2.2.2.2.2.1 bt644.2.2.2.2.2.2.2.2.1 bt644.2.2.2.2.2.2.2.2.2.1 bt644.2.2.2.2.2.2.2.2.2.2.1 bt644.2.2.2.2.2.2.2.2.2.2.2.1 bt644.2.2.2.2.2.2.2.2.2.2.2.2) else (none)) else (none)) else (none)))
def bournelaw2_LowPlain.l1 : Nat → List Int → Int → Int → Int → Int → Int → Int → Int → Int → Int → Int → Int → Int → Int → List Int → Option (Bool)
  | 0, _, _, _, _, _, _, _, _, _, _, _, _, _, _, _ => none
  | k + 1, x10, x11, x660000, x660001, x660002, x660003, x660004, x660005, x660006, x660007, x660008, x660009, x660010, x660011, x660012 => if x11 < 6 then ((low_Value.f 0 x11 0 0 ([] : List Int) 0 x660000 x660001 x660002 x660003 x660004 x660005 x660006 x660007 x660008 x660009 x660010 x660011 x660012).bind fun bt665 => ((bournelaw0_Num.f bt665.2.2.2).bind fun t672 => (if t672 = 0 then (if 0 ≤ x11 then (if x11 < (x10.length : Int) then ((bournelaw0_SameOut.f k bt665.1 bt665.2.1 bt665.2.2.1 (rd x10 x11) false ([] : List Int)).bind fun t674 => (if t674 = true then (bournelaw2_LowPlain.l1 k x10 (wrap64 (x11 + 1)) x660000 x660001 x660002 x660003 x660004 x660005 x660006 x660007 x660008 x660009 x660010 x660011 x660012) else (some false))) else (none)) else (none)) else (some false)))) else (some true)
def bournelaw2_LowPlain.l0 : Nat → List Int → List (S26) → Int → Int → Int → Int → Option (Bool)
  | 0, _, _, _, _, _, _ => none
  | k + 1, x0, x3, x4, x5, x6, x7 => if x7 < (x0.length : Int) then (if x7 < 30 then (if 0 ≤ x7 then ((bournelaw2_item.f 0 (wrap64 (Int.tdiv x7 2)) (wrap64 (x7 + 1)) (wrap64 ((Go.bits .and .i64 (rd x0 x7) 1023) - 500))).bind fun bt637 => (if x3.length < 4398046511104 then (bournelaw2_LowPlain.l0 k x0 (x3 ++ [(⟨bt637.1, bt637.2.1, bt637.2.2.1, bt637.2.2.2⟩ : S26)]) (wrap64 (x4 + (wrap64 ((Go.bits .and .i64 (rd x0 x7) 1023) - 500)))) (mn x5 (wrap64 ((Go.bits .and .i64 (rd x0 x7) 1023) - 500))) (mx x6 (wrap64 ((Go.bits .and .i64 (rd x0 x7) 1023) - 500))) (wrap64 (x7 + 1))) else (none))) else (none)) else (bournelaw2_LowPlain.j1 k x3 x4 x5 x6)) else (bournelaw2_LowPlain.j1 k x3 x4 x5 x6)
end
def bournelaw2_LowPlain.f (k : Nat) (l0 : List Int) : Option (Bool) := (bournelaw2_awake.f).bind fun t635 => (if t635 = true then (bournelaw2_LowPlain.l0 k l0 ([] : List (S26)) 0 1099511627776 (-1099511627776) 0) else (some false))
theorem bournelaw2_LowPlain.mono_l : ∀ k, (∀ y0 y1 y2 y3, LeO (bournelaw2_LowPlain.j1 k y0 y1 y2 y3) (bournelaw2_LowPlain.j1 (k + 1) y0 y1 y2 y3)) ∧ (∀ y0 y1 y2 y3 y4 y5 y6 y7 y8 y9 y10 y11 y12 y13 y14, LeO (bournelaw2_LowPlain.l1 k y0 y1 y2 y3 y4 y5 y6 y7 y8 y9 y10 y11 y12 y13 y14) (bournelaw2_LowPlain.l1 (k + 1) y0 y1 y2 y3 y4 y5 y6 y7 y8 y9 y10 y11 y12 y13 y14)) ∧ (∀ y0 y1 y2 y3 y4 y5, LeO (bournelaw2_LowPlain.l0 k y0 y1 y2 y3 y4 y5) (bournelaw2_LowPlain.l0 (k + 1) y0 y1 y2 y3 y4 y5))
  | 0 => ⟨fun _ _ _ _ r h => by simp [bournelaw2_LowPlain.j1] at h, fun _ _ _ _ _ _ _ _ _ _ _ _ _ _ _ r h => by simp [bournelaw2_LowPlain.l1] at h, fun _ _ _ _ _ _ r h => by simp [bournelaw2_LowPlain.l0] at h⟩
  | k + 1 => by
    obtain ⟨ih0, ih1, ih2⟩ := bournelaw2_LowPlain.mono_l k
    refine ⟨?_, ?_, ?_⟩
    · intro y0 y1 y2 y3
      unfold bournelaw2_LowPlain.j1
      repeat' first
      | (with_reducible exact ih0 _ _ _ _)
      | (with_reducible exact ih1 _ _ _ _ _ _ _ _ _ _ _ _ _ _ _)
      | (with_reducible exact ih2 _ _ _ _ _ _)
      | (with_reducible exact bournelaw0_SameOut.mono _ _ _ _ _ _ _)
      | (with_reducible exact bournelaw2_fold.mono _ _ _)
      | (with_reducible exact LeO.refl _)
      | (with_reducible exact LeO.none _)
      | (with_reducible refine LeO.ite ?_ ?_)
      | (with_reducible refine LeO.bind ?_ (fun _ => ?_))
      | exact ih0 _ _ _ _
      | exact ih1 _ _ _ _ _ _ _ _ _ _ _ _ _ _ _
      | exact ih2 _ _ _ _ _ _
      | exact bournelaw0_SameOut.mono _ _ _ _ _ _ _
      | exact bournelaw2_fold.mono _ _ _
      | exact LeO.none _
      | refine LeO.ite ?_ ?_
      | refine LeO.bind ?_ (fun _ => ?_)
    · intro y0 y1 y2 y3 y4 y5 y6 y7 y8 y9 y10 y11 y12 y13 y14
      unfold bournelaw2_LowPlain.l1
      repeat' first
      | (with_reducible exact ih0 _ _ _ _)
      | (with_reducible exact ih1 _ _ _ _ _ _ _ _ _ _ _ _ _ _ _)
      | (with_reducible exact ih2 _ _ _ _ _ _)
      | (with_reducible exact bournelaw0_SameOut.mono _ _ _ _ _ _ _)
      | (with_reducible exact bournelaw2_fold.mono _ _ _)
      | (with_reducible exact LeO.refl _)
      | (with_reducible exact LeO.none _)
      | (with_reducible refine LeO.ite ?_ ?_)
      | (with_reducible refine LeO.bind ?_ (fun _ => ?_))
      | exact ih0 _ _ _ _
      | exact ih1 _ _ _ _ _ _ _ _ _ _ _ _ _ _ _
      | exact ih2 _ _ _ _ _ _
      | exact bournelaw0_SameOut.mono _ _ _ _ _ _ _
      | exact bournelaw2_fold.mono _ _ _
      | exact LeO.none _
      | refine LeO.ite ?_ ?_
      | refine LeO.bind ?_ (fun _ => ?_)
    · intro y0 y1 y2 y3 y4 y5
      unfold bournelaw2_LowPlain.l0
      repeat' first
      | (with_reducible exact ih0 _ _ _ _)
      | (with_reducible exact ih1 _ _ _ _ _ _ _ _ _ _ _ _ _ _ _)
      | (with_reducible exact ih2 _ _ _ _ _ _)
      | (with_reducible exact bournelaw0_SameOut.mono _ _ _ _ _ _ _)
      | (with_reducible exact bournelaw2_fold.mono _ _ _)
      | (with_reducible exact LeO.refl _)
      | (with_reducible exact LeO.none _)
      | (with_reducible refine LeO.ite ?_ ?_)
      | (with_reducible refine LeO.bind ?_ (fun _ => ?_))
      | exact ih0 _ _ _ _
      | exact ih1 _ _ _ _ _ _ _ _ _ _ _ _ _ _ _
      | exact ih2 _ _ _ _ _ _
      | exact bournelaw0_SameOut.mono _ _ _ _ _ _ _
      | exact bournelaw2_fold.mono _ _ _
      | exact LeO.none _
      | refine LeO.ite ?_ ?_
      | refine LeO.bind ?_ (fun _ => ?_)
theorem bournelaw2_LowPlain.mono : ∀ a0 k, LeO (bournelaw2_LowPlain.f k a0) (bournelaw2_LowPlain.f (k + 1) a0) := by
  intro a0 k
  obtain ⟨ih0, ih1, ih2⟩ := bournelaw2_LowPlain.mono_l k
  unfold bournelaw2_LowPlain.f
  repeat' first
      | (with_reducible exact ih0 _ _ _ _)
      | (with_reducible exact ih1 _ _ _ _ _ _ _ _ _ _ _ _ _ _ _)
      | (with_reducible exact ih2 _ _ _ _ _ _)
      | (with_reducible exact bournelaw0_SameOut.mono _ _ _ _ _ _ _)
      | (with_reducible exact bournelaw2_fold.mono _ _ _)
      | (with_reducible exact LeO.refl _)
      | (with_reducible exact LeO.none _)
      | (with_reducible refine LeO.ite ?_ ?_)
      | (with_reducible refine LeO.bind ?_ (fun _ => ?_))
      | exact ih0 _ _ _ _
      | exact ih1 _ _ _ _ _ _ _ _ _ _ _ _ _ _ _
      | exact ih2 _ _ _ _ _ _
      | exact bournelaw0_SameOut.mono _ _ _ _ _ _ _
      | exact bournelaw2_fold.mono _ _ _
      | exact LeO.none _
      | refine LeO.ite ?_ ?_
      | refine LeO.bind ?_ (fun _ => ?_)
def bournelaw2_LowPlain.T16 : Bool × List (List Nat × List Nat) := (true, [([], []), ([0], [0]), ([], []), ([], []), ([], []), ([], []), ([5], [5]), ([6], [6]), ([7], [7]), ([], []), ([], []), ([10], [10]), ([11], [11]), ([9, 12], [9, 12]), ([13], [13]), ([14], [14]), ([1, 2, 3, 4, 8, 15], [1, 2, 3, 4, 8, 15]), ([16, 0, 1, 2, 3, 4, 5, 6, 7, 8, 9, 10, 11, 12, 13, 14, 15, 16], [16])])
def bournelaw2_LowPlain.B16 : List Nat := [0, 1, 0, 0, 0, 0, 32, 96, 224, 0, 0, 1024, 3072, 7680, 15872, 32256, 65535, 131071]
theorem bournelaw2_LowPlain.tab16 : rtab .any (opsOf Try.f4 16) = bournelaw2_LowPlain.T16 := by kernel_rfl
theorem bournelaw2_LowPlain.bits16 : waitsOk bournelaw2_LowPlain.T16.2 bournelaw2_LowPlain.B16 = true := by kernel_rfl
def bournelaw2_LowPlain.T21 : Bool × List (List Nat × List Nat) := (true, [([], []), ([0], [0]), ([1], [1]), ([2, 1], [2]), ([3], [3]), ([3], [3]), ([3], [3]), ([5, 6, 3], [3, 5, 6]), ([7, 3], [3, 7]), ([8, 3], [3, 8]), ([4, 9, 3, 3], [3, 4, 9]), ([10, 3], [3, 10]), ([3, 11], [3, 11])])
def bournelaw2_LowPlain.B21 : List Nat := [0, 1, 3, 7, 15, 15, 15, 111, 239, 495, 1023, 2047, 4095]
theorem bournelaw2_LowPlain.tab21 : rtab .any (opsOf Try.f4 21) = bournelaw2_LowPlain.T21 := by kernel_rfl
theorem bournelaw2_LowPlain.bits21 : waitsOk bournelaw2_LowPlain.T21.2 bournelaw2_LowPlain.B21 = true := by kernel_rfl
set_option maxHeartbeats 8000000 in
set_option maxRecDepth 100000 in
theorem bournelaw2_LowPlain.calls (k : Nat) (A0 : Option Addr) (c0 : Nat) (l0 : List Int) (r : Bool) (w : World) (hr0 : Kd.C (Kd.int .i64) w A0 l0.length l0) (hc0 : l0.length ≤ c0) (h : bournelaw2_LowPlain.f k l0 = some r) :
    Calls Try.prog 4 #[.slice A0 l0.length c0] w fun e w' => e = .returned (.bool r) ∧ Below w.heap.size w w' := by
  have hu28 := Try.underlying28
  have hu24 := Try.underlying24
  have hu31 := Try.underlying31
  have HR0 := Aside0.mk hr0
  have HC0 := Aside0.mk hc0
  clear hr0 hc0
  have HB := Aside0.mk (Below.refl w.heap.size w)
  have H : ((bournelaw2_awake.f).bind fun t635 => (if t635 = true then (bournelaw2_LowPlain.l0 k l0 ([] : List (S26)) 0 1099511627776 (-1099511627776) 0) else (some false))) = some r := h
  clear h
  replace H := Option.bind_eq_some_iff.mp H
  obtain ⟨t635, A20, H⟩ := H
  replace H : (if t635 = true then (bournelaw2_LowPlain.l0 k l0 ([] : List (S26)) 0 1099511627776 (-1099511627776) 0) else (some false)) = some r := H
  have A2 := Aside0.mk A20
  clear A20
  by_cases c3 : t635 = true
  · subst c3
    have H1 : (bournelaw2_LowPlain.l0 k l0 ([] : List (S26)) 0 1099511627776 (-1099511627776) 0) = some r := by rw [if_pos rfl] at H; exact H
    clear H
    have H := H1
    clear H1
    have HC4 := Aside0.mk H
    clear H
    go_enter Try.func4, Try.ntmps4
    go_upto_block 0 with (first | ((with_reducible refine gate_callee (f := 23) rfl ?_); refine goesL_ (some 14) rfl rfl Try.func23 (by kernel_rfl) rfl #[] rfl (by (try simp only [List.map_toArray, List.map_cons, List.map_nil]); first | done | rfl | (simp only [List.length_drop, List.length_take]; rfl)) ?_; (with_reducible refine (bournelaw2_awake.calls  true _ A2.out).mono ?_); rintro e w5 ⟨rfl, hb⟩; refine ⟨_, rfl, ?_⟩; have n0_ := Aside0.mk (below_step (by repeat (first | (with_reducible first | exact HB.out | apply below_alloc | apply pw_below_drewN | apply below_drew1) | exact HB.out)) hb); clear HB; have HB := n0_; clear n0_; (try clear hb); (try clear hb2); (try clear hk); (try clear hi)))
    (try simp only [Act.put, List.setIfInBounds_toArray, List.set_cons_zero, List.set_cons_succ])
    go_cut [3, 4, 5, 6] (fun v3 v4 v5 v6 wc => ∃ (kq : Nat) (x3_3 : List (S26)) (x4_3 : Int) (x5_3 : Int) (x6_3 : Int), v4 = .int .i64 x4_3 ∧ v5 = .int .i64 x5_3 ∧ v6 = .int .i64 x6_3 ∧ Aside0 (bournelaw2_LowPlain.j1 kq x3_3 x4_3 x5_3 x6_3 = some r) ∧ Aside0 (kq ≤ k) ∧ Aside0 (Kd.R k26 26 wc w.heap.size (fun _ => True) v3 x3_3) ∧ Aside0 (Below w.heap.size w wc))
    case first =>
      have H := HC4.out
      clear HC4
      have H' := Aside0.mk H
      clear H
      go_wp2
      go_loopg [3, 4, 5, 6, 7] k (fun kq v3 v4 v5 v6 v7 w' => ∃ (x3_1 : List (S26)) (x4_1 : Int) (x5_1 : Int) (x6_1 : Int) (x7_1 : Int), v4 = .int .i64 x4_1 ∧ v5 = .int .i64 x5_1 ∧ v6 = .int .i64 x6_1 ∧ v7 = .int .i64 x7_1 ∧ Aside0 (bournelaw2_LowPlain.l0 kq l0 x3_1 x4_1 x5_1 x6_1 x7_1 = some r) ∧ Aside0 (kq ≤ k) ∧ Aside0 (Kd.R k26 26 w' w.heap.size (fun _ => True) v3 x3_1) ∧ Aside0 (Below w.heap.size w w'))
      case atStart => exact ⟨(([] : List (S26))), (0), (1099511627776), ((-1099511627776)), (0), (by first | rfl | (simp; done) | (simp [*]; done)), (by first | rfl | (simp; done) | (simp [*]; done)), (by first | rfl | (simp; done) | (simp [*]; done)), (by first | rfl | (simp; done) | (simp [*]; done)), H', ⟨Nat.le_refl _⟩, ⟨by first | exact Kd.R_nil _ _ _ _ _ | exact Kd.N_nil _ _ _ _ _ | exact Kd.V_nil _ _ _ _ _ | exact Kd.Q_nil _ _ _ _ _ | exact Kd.S_nil _ _ _ _ _⟩, ⟨by repeat (first | (with_reducible first | exact HB.out | apply below_alloc | apply pw_below_drewN | apply below_drew1) | exact HB.out)⟩⟩
      case round =>
        clear H'
        try clear c2
        try clear p2
        try clear c3
        try clear c4
        obtain ⟨x3_1, x4_1, x5_1, x6_1, x7_1, rfl, rfl, rfl, rfl, HA, HK1, HO_3, HB⟩ := hrel
        cases gk with
        | zero => exact absurd HA.out (by simp [bournelaw2_LowPlain.l0])
        | succ k1 =>
          have H := HA.out
          clear HA
          simp only [bournelaw2_LowPlain.l0] at H
          by_cases c6 : x7_1 < (l0.length : Int)
          · rw [if_pos c6] at H
            have c6b0 : decide (x7_1 < (l0.length : Int)) = true := decide_eq_true c6
            clear c6
            (first | rw [c6b0] | (simp only [i64_w, i32_w]; rw [c6b0]) | skip)
            by_cases c7 : x7_1 < 30
            · rw [if_pos c7] at H
              have c7b0 : decide (x7_1 < 30) = true := decide_eq_true c7
              clear c7
              by_cases c8 : 0 ≤ x7_1
              · rw [if_pos c8] at H
                have c8b0 : decide (0 ≤ x7_1) = true := decide_eq_true c8
                clear c8
                replace H := Option.bind_eq_some_iff.mp H
                obtain ⟨⟨t637, t638, t639, t640⟩, A90, H⟩ := H
                replace H : (if x3_1.length < 4398046511104 then (bournelaw2_LowPlain.l0 k1 l0 (x3_1 ++ [(⟨t637, t638, t639, t640⟩ : S26)]) (wrap64 (x4_1 + (wrap64 ((Go.bits .and .i64 (rd l0 x7_1) 1023) - 500)))) (mn x5_1 (wrap64 ((Go.bits .and .i64 (rd l0 x7_1) 1023) - 500))) (mx x6_1 (wrap64 ((Go.bits .and .i64 (rd l0 x7_1) 1023) - 500))) (wrap64 (x7_1 + 1))) else (none)) = some r := H
                have A9 := Aside0.mk A90
                clear A90
                by_cases c10 : x3_1.length < 4398046511104
                · rw [if_pos c10] at H
                  have LMc10 := Aside0.mk c10
                  clear c10
                  obtain ⟨y641, hy641⟩ : ∃ y_ : List (S26), y_ = (x3_1 ++ [(⟨t637, t638, t639, t640⟩ : S26)]) := ⟨_, rfl⟩
                  replace H : (bournelaw2_LowPlain.l0 k1 l0 y641 (wrap64 (x4_1 + (wrap64 ((Go.bits .and .i64 (rd l0 x7_1) 1023) - 500)))) (mn x5_1 (wrap64 ((Go.bits .and .i64 (rd l0 x7_1) 1023) - 500))) (mx x6_1 (wrap64 ((Go.bits .and .i64 (rd l0 x7_1) 1023) - 500))) (wrap64 (x7_1 + 1))) = some r := by first | (rw [hy641]; with_reducible exact H) | (have H2_ := (Option.bind_some _ _).symm.trans H; rw [hy641]; with_reducible exact H2_) | (have H2_ := (Option.bind_some _ _).symm.trans H; with_reducible exact H2_) | with_reducible exact H | (rw [hy641]; exact H) | exact H
                  have Ny641 := Aside0.mk hy641
                  clear hy641
                  obtain ⟨ji11, hji11⟩ : ∃ j_ : Int, (mn x5_1 (wrap64 ((Go.bits .and .i64 (rd l0 x7_1) 1023) - 500))) = j_ := ⟨_, rfl⟩
                  replace H : (bournelaw2_LowPlain.l0 k1 l0 y641 (wrap64 (x4_1 + (wrap64 ((Go.bits .and .i64 (rd l0 x7_1) 1023) - 500)))) ji11 (mx x6_1 (wrap64 ((Go.bits .and .i64 (rd l0 x7_1) 1023) - 500))) (wrap64 (x7_1 + 1))) = some r := by first | (rw [hji11] at H; exact H) | (simp only [hji11] at H ⊢; exact H)
                  (try rw [hji11] at A9)
                  have hji11_ : (if (wrap64 ((Go.bits .and .i64 (rd l0 x7_1) 1023) - 500)) < x5_1 then (wrap64 ((Go.bits .and .i64 (rd l0 x7_1) 1023) - 500)) else x5_1) = ji11 := hji11
                  obtain ⟨ji12, hji12⟩ : ∃ j_ : Int, (mx x6_1 (wrap64 ((Go.bits .and .i64 (rd l0 x7_1) 1023) - 500))) = j_ := ⟨_, rfl⟩
                  replace H : (bournelaw2_LowPlain.l0 k1 l0 y641 (wrap64 (x4_1 + (wrap64 ((Go.bits .and .i64 (rd l0 x7_1) 1023) - 500)))) ji11 ji12 (wrap64 (x7_1 + 1))) = some r := by first | (rw [hji12] at H; exact H) | (simp only [hji12] at H ⊢; exact H)
                  (try rw [hji12] at A9)
                  have hji12_ : (if x6_1 < (wrap64 ((Go.bits .and .i64 (rd l0 x7_1) 1023) - 500)) then (wrap64 ((Go.bits .and .i64 (rd l0 x7_1) 1023) - 500)) else x6_1) = ji12 := hji12
                  have H' := Aside0.mk H
                  clear H
                  have p636 : 0 ≤ (x7_1 : Int) := of_decide_eq_true (by first | (with_reducible assumption) | assumption)
                  have q636 : x7_1 < (l0.length : Int) := of_decide_eq_true (by first | (with_reducible assumption) | assumption)
                  obtain ⟨ad636, e636, hx636_0⟩ := Kd.at_int HR0.out x7_1 p636 q636
                  cases e636
                  replace hx636_0 := (HB.out.cell (World.block_lt_of_cell? w _ hx636_0)).trans hx636_0
                  replace p636 := eq_true p636
                  replace q636 := eq_true q636
                  go_wp2_with (first | ((with_reducible refine gate_callee (f := 24) rfl ?_); refine goesL_ (some 38) rfl rfl Try.func24 (by kernel_rfl) rfl #[.int .i64 0, .int .i64 (wrap64 (Int.tdiv x7_1 2)), .int .i64 (wrap64 (x7_1 + 1)), .int .i64 (wrap64 ((Go.bits .and .i64 (rd l0 x7_1) 1023) - 500))] rfl (by (try simp only [List.map_toArray, List.map_cons, List.map_nil]); first | done | rfl | (simp only [List.length_drop, List.length_take]; rfl)) ?_; (with_reducible refine (bournelaw2_item.calls 0 (wrap64 (Int.tdiv x7_1 2)) (wrap64 (x7_1 + 1)) (wrap64 ((Go.bits .and .i64 (rd l0 x7_1) 1023) - 500)) t637 t638 t639 t640 _ A9.out).mono ?_); rintro e w13 ⟨rfl, hb⟩; refine ⟨_, rfl, ?_⟩; have n0_ := Aside0.mk (Kd.R_below (by (with_reducible repeat (first | apply Kd.R_alloc | apply Kd.R_drewN | apply Kd.R_drew)); exact HO_3.out) hb); have n1_ := Aside0.mk (below_step (by repeat (first | (with_reducible first | exact HB.out | apply below_alloc | apply pw_below_drewN | apply below_drew1) | exact HB.out)) hb); clear HO_3; clear HB; have HO_3 := n0_; have HB := n1_; clear n0_ n1_; (try clear hb); (try clear hb2); (try clear hk); (try clear hi)) | ((with_reducible refine gate_builtin (b := .append) (xs := #[.tmp 32, .tmp 39]) rfl ?_); at_builtin; refine Kd.R_append k26 (w0 := w) w.heap.size rfl (.tmp 32) (.tmp 39) 43 26 (.agg #[(.int .i64 0), (.int .i64 0), (.int .i64 0), (.int .i64 0)]) 32 rfl Try.underlying43 info26 rfl (by decide) (by omega) u3 x3_1 (⟨t637, t638, t639, t640⟩ : S26) [.int .i64 t637, .int .i64 t638, .int .i64 t639, .int .i64 t640] (fun _ => True) (fun _ => False) rfl rfl ?aP (fun _ hk => hk.elim) ?aF ?aO ?aB ?aS ?aL ?_; (case aP => exact k26_mkM _ _ _ (⟨t637, t638, t639, t640⟩ : S26)); (case aB => exact (by repeat (first | (with_reducible first | exact HB.out | apply below_alloc | apply pw_below_drewN | apply below_drew1) | exact HB.out))); (case aF => exact (fun _ _ => trivial)); (case aO => exact (by (with_reducible repeat (first | apply Kd.R_alloc | apply Kd.R_drewN | apply Kd.R_drew)); exact HO_3.out)); (case aS => exact (below_size (by repeat (first | (with_reducible first | exact HB.out | apply below_alloc | apply pw_below_drewN | apply below_drew1) | exact HB.out)))); (case aL => have := LMc10.out; omega); intro v642 w14 ho hb hg hat; rw [← Ny641.out] at ho; have n0_ := Aside0.mk (hb); have n1_ := Aside0.mk (ho); clear HB; clear HO_3; have HB := n0_; have HO643 := n1_; clear n0_ n1_; clear ho hb hg hat))
                  go_roundg k1
                  case measure => have := HK1.out; omega
                  case rel => exact ⟨(y641), (wrap64 (x4_1 + (wrap64 ((Go.bits .and .i64 (rd l0 x7_1) 1023) - 500)))), (ji11), (ji12), (wrap64 (x7_1 + 1)), (by first | rfl | (simp; done) | (simp [*]; done)), (by first | rfl | (simp; done) | (simp only [← hji11] <;> (first | rfl | simp)) | (simp [*]; done)), (by first | rfl | (simp; done) | (simp only [← hji12] <;> (first | rfl | simp)) | (simp [*]; done)), (by first | rfl | (simp; done) | (simp [*]; done)), H', ⟨by have := HK1.out; omega⟩, ⟨by (with_reducible repeat (first | apply Kd.R_alloc | apply Kd.R_drewN | apply Kd.R_drew)); exact HO643.out⟩, ⟨by repeat (first | (with_reducible first | exact HB.out | apply below_alloc | apply pw_below_drewN | apply below_drew1) | exact HB.out)⟩⟩
                · rw [if_neg c10] at H
                  exact absurd H (by simp)
              · rw [if_neg c8] at H
                exact absurd H (by simp)
            · rw [if_neg c7] at H
              have c7b0 : decide (x7_1 < 30) = false := decide_eq_false c7
              clear c7
              have H' := Aside0.mk H
              clear H
              go_wp2
              go_meet
              case rel => exact ⟨_, (x3_1), (x4_1), (x5_1), (x6_1), (by first | rfl | (simp; done) | (simp [*]; done)), (by first | rfl | (simp; done) | (simp [*]; done)), (by first | rfl | (simp; done) | (simp [*]; done)), H', ⟨by have := HK1.out; first | omega | exact Nat.le_refl _⟩, ⟨by (with_reducible repeat (first | apply Kd.R_alloc | apply Kd.R_drewN | apply Kd.R_drew)); exact HO_3.out⟩, ⟨by repeat (first | (with_reducible first | exact HB.out | apply below_alloc | apply pw_below_drewN | apply below_drew1) | exact HB.out)⟩⟩
          · rw [if_neg c6] at H
            have c6b0 : decide (x7_1 < (l0.length : Int)) = false := decide_eq_false c6
            clear c6
            (first | rw [c6b0] | (simp only [i64_w, i32_w]; rw [c6b0]) | skip)
            have H' := Aside0.mk H
            clear H
            go_wp2
            go_meet
            case rel => exact ⟨_, (x3_1), (x4_1), (x5_1), (x6_1), (by first | rfl | (simp; done) | (simp [*]; done)), (by first | rfl | (simp; done) | (simp [*]; done)), (by first | rfl | (simp; done) | (simp [*]; done)), H', ⟨by have := HK1.out; first | omega | exact Nat.le_refl _⟩, ⟨by (with_reducible repeat (first | apply Kd.R_alloc | apply Kd.R_drewN | apply Kd.R_drew)); exact HO_3.out⟩, ⟨by repeat (first | (with_reducible first | exact HB.out | apply below_alloc | apply pw_below_drewN | apply below_drew1) | exact HB.out)⟩⟩
    case rest =>
      clear HC4
      try clear c1
      try clear c2
      try clear p2
      try clear c3
      try clear c4
      try clear c6
      try clear c6b0
      try clear p6
      try clear q6
      try clear hx6
      try clear c7
      try clear c7b0
      try clear c8
      try clear c8b0
      try clear c10
      try clear hx636_0
      try clear p2
      try clear p636
      try clear q636
      obtain ⟨kq, x3_3, x4_3, x5_3, x6_3, rfl, rfl, rfl, HA, HJ3, HO_3, HB⟩ := hcut
      cases kq with
      | zero => exact absurd HA.out (by simp [bournelaw2_LowPlain.j1])
      | succ kj3 =>
        have H := HA.out
        clear HA
        simp only [bournelaw2_LowPlain.j1] at H
        by_cases c15 : (x3_3.length : Int) = 0
        · rw [if_pos c15] at H
          have c15b0 : ((x3_3.length : Int) == 0) = true := beq_iff_eq.mpr c15
          have c15b1 : ((x3_3.length : Int) != 0) = false := bne_eq_false_iff_eq.mpr c15
          clear c15
          obtain rfl := Option.some.inj H
          obtain ⟨Ao16, co16, eo16⟩ := Kd.R_slice HO_3.out
          subst eo16
          go_wp2
          go_ret
          exact ⟨by first | rfl | (simp [errW_none, errW_some] <;> rfl) | (simp [*, errW_none, errW_some] <;> rfl), by repeat (first | (with_reducible first | exact HB.out | apply below_alloc | apply pw_below_drewN | apply below_drew1) | exact HB.out)⟩
        · rw [if_neg c15] at H
          have c15b0 : ((x3_3.length : Int) == 0) = false := beq_eq_false_iff_ne.mpr c15
          have c15b1 : ((x3_3.length : Int) != 0) = true := bne_iff_ne.mpr c15
          have c15b2 : ¬ (x3_3 = []) := fun h_ => c15 (by rw [h_]; rfl)
          replace H := Option.bind_eq_some_iff.mp H
          obtain ⟨⟨t644, t645, t646, t647, t648, t649, t650, t651, t652, t653, t654, t655, t656⟩, A170, H⟩ := H
          replace H : (if 0 < (x3_3.length : Int) then (if 0 ≤ (wrap64 ((x3_3.length : Int) - 1)) then (if (wrap64 ((x3_3.length : Int) - 1)) < (x3_3.length : Int) then (bournelaw2_LowPlain.l1 kj3 (([(x3_3.length : Int), x4_3, x5_3, x6_3, (rd_T26 x3_3 0).f3, (rd_T26 x3_3 (wrap64 ((x3_3.length : Int) - 1))).f3] : List Int)) 0 t644 t645 t646 t647 t648 t649 t650 t651 t652 t653 t654 t655 t656) else (none)) else (none)) else (none)) = some r := H
          have A17 := Aside0.mk A170
          clear A170
          by_cases c18 : 0 < (x3_3.length : Int)
          · rw [if_pos c18] at H
            have c18b0 : decide (0 < (x3_3.length : Int)) = true := decide_eq_true c18
            have c18b1 : decide (0 < x3_3.length) = true := decide_eq_true (by omega)
            clear c18
            obtain ⟨ji19, hji19⟩ : ∃ j_ : Int, (wrap64 ((x3_3.length : Int) - 1)) = j_ := ⟨_, rfl⟩
            replace H : (if 0 ≤ (ji19) then (if (ji19) < (x3_3.length : Int) then (bournelaw2_LowPlain.l1 kj3 (([(x3_3.length : Int), x4_3, x5_3, x6_3, (rd_T26 x3_3 0).f3, (rd_T26 x3_3 (ji19)).f3] : List Int)) 0 t644 t645 t646 t647 t648 t649 t650 t651 t652 t653 t654 t655 t656) else (none)) else (none)) = some r := by first | (rw [hji19] at H; exact H) | (simp only [hji19] at H ⊢; exact H)
            (try rw [hji19] at A17)
            have hji19w : (IntKind.i64.wrap ((x3_3.length : Int) - 1)) = ji19 := (i64_w _).trans hji19
            by_cases c20 : 0 ≤ (ji19)
            · rw [if_pos c20] at H
              have c20b0 : decide (0 ≤ (ji19)) = true := decide_eq_true c20
              clear c20
              by_cases c21 : (ji19) < (x3_3.length : Int)
              · rw [if_pos c21] at H
                have c21b0 : decide ((ji19) < (x3_3.length : Int)) = true := decide_eq_true c21
                clear c21
                obtain ⟨y662, hy662⟩ : ∃ y_ : List Int, y_ = (([(x3_3.length : Int), x4_3, x5_3, x6_3, (rd_T26 x3_3 0).f3, (rd_T26 x3_3 (ji19)).f3] : List Int)) := ⟨_, rfl⟩
                replace H : (bournelaw2_LowPlain.l1 kj3 y662 0 t644 t645 t646 t647 t648 t649 t650 t651 t652 t653 t654 t655 t656) = some r := by first | (rw [hy662]; with_reducible exact H) | (have H2_ := (Option.bind_some _ _).symm.trans H; rw [hy662]; with_reducible exact H2_) | (have H2_ := (Option.bind_some _ _).symm.trans H; with_reducible exact H2_) | with_reducible exact H | (rw [hy662]; exact H) | exact H
                have Ny662 := Aside0.mk hy662
                clear hy662
                have H' := Aside0.mk H
                clear H
                obtain ⟨Ao22, co22, eo22⟩ := Kd.R_slice HO_3.out
                subst eo22
                try go_wp2_with (first | ((with_reducible refine gate_callee (f := 25) rfl ?_); refine goesL_ (some 54) rfl rfl Try.func25 (by kernel_rfl) rfl #[.slice Ao22 x3_3.length co22, .slice none 0 0] rfl (by (try simp only [List.map_toArray, List.map_cons, List.map_nil]); first | done | rfl | (simp only [List.length_drop, List.length_take]; rfl)) ?_; (refine (bournelaw2_fold.calls kj3 _ _ x3_3 _ _ ([] : List Int) t644 t645 t646 t647 t648 t649 t650 t651 t652 t653 t654 t655 t656 _ ?side1 ?side2 ?side3 ?side4 A17.out).mono ?_); (case side1 => repeat (first | exact (Kd.R_reads' HO_3.out).2.2 | (with_reducible refine Kd.C_alloc ?_ _) | (with_reducible refine Kd.C_drewN ?_ _) | (with_reducible refine Kd.C_drew ?_))); (case side2 => exact (Kd.R_reads' HO_3.out).2.1); (case side3 => exact Kd.C_nil _ _); (case side4 => exact Nat.le_refl _); rintro e w23 ⟨v657, rfl, ho0, hb⟩; refine ⟨_, rfl, ?_⟩; have n0_ := Aside0.mk (Kd.R_below (by (with_reducible repeat (first | apply Kd.R_alloc | apply Kd.R_drewN | apply Kd.R_drew)); exact HO_3.out) hb); have n1_ := Aside0.mk (Kd.R_lower ho0 (below_size (by repeat (first | (with_reducible first | exact HB.out | apply below_alloc | apply pw_below_drewN | apply below_drew1) | exact HB.out)))); have n2_ := Aside0.mk (below_step (by repeat (first | (with_reducible first | exact HB.out | apply below_alloc | apply pw_below_drewN | apply below_drew1) | exact HB.out)) hb); clear HO_3; clear HB; have HO_3 := n0_; have HO658 := n1_; have HB := n2_; clear n0_ n1_ n2_; (try clear hb); (try clear hb2); (try clear hk); (try clear hi); (try clear ho0)) | ((with_reducible refine gate_dst (N := 9) rfl ?_); refine box_event ?hg (N := 9) ?hd (cs := #[.int .i64 0, .int .i64 0, .int .i64 0, .int .i64 0, .int .i64 0, .int .i64 0, .int .i64 0, .int .i64 0, .int .i64 0, .int .i64 0, .int .i64 0, .int .i64 0, .slice none 0 0]) (t := 28) ?hr ?_; (case hd => rfl); (case hg => rfl); (case hr => first | (go_simp; done) | (go_simp; rfl)); intro gb659 hg w24 hbox hb; have n0_ := Aside0.mk (Kd.R_below (by (with_reducible repeat (first | apply Kd.R_alloc | apply Kd.R_drewN | apply Kd.R_drew)); exact HO_3.out) hb); have n1_ := Aside0.mk (Kd.R_below (by (with_reducible repeat (first | apply Kd.R_alloc | apply Kd.R_drewN | apply Kd.R_drew)); exact HO658.out) hb); have n2_ := Aside0.mk (below_step (by repeat (first | (with_reducible first | exact HB.out | apply below_alloc | apply pw_below_drewN | apply below_drew1) | exact HB.out)) hb); have n3_ := Aside0.mk (hbox); have n4_ := Aside0.mk ((by rw [hg]; exact (below_size (by repeat (first | (with_reducible first | exact HB.out | apply below_alloc | apply pw_below_drewN | apply below_drew1) | exact HB.out))) : w.heap.size ≤ gb659)); have n5_ := Aside0.mk ((by rw [hg]; exact (below_size (by repeat (first | (with_reducible first | exact HB.out | apply below_alloc | apply pw_below_drewN | apply below_drew1) | exact HB.out))) : w.heap.size ≤ gb659)); clear HO_3; clear HO658; clear HB; have HO_3 := n0_; have HO658 := n1_; have HB := n2_; have BK659 := n3_; have GW659 := n4_; have GE659 := n5_; clear n0_ n1_ n2_ n3_ n4_ n5_; clear hb hbox hg; have hcz25_0 : w24.cell? ⟨gb659, 0, none⟩ = some (.int .i64 0) := (blk_cell BK659.out 0).trans rfl; have hcz25_1 : w24.cell? ⟨gb659, 1, none⟩ = some (.int .i64 0) := (blk_cell BK659.out 1).trans rfl; have hcz25_2 : w24.cell? ⟨gb659, 2, none⟩ = some (.int .i64 0) := (blk_cell BK659.out 2).trans rfl; have hcz25_3 : w24.cell? ⟨gb659, 3, none⟩ = some (.int .i64 0) := (blk_cell BK659.out 3).trans rfl; have hcz25_4 : w24.cell? ⟨gb659, 4, none⟩ = some (.int .i64 0) := (blk_cell BK659.out 4).trans rfl; have hcz25_5 : w24.cell? ⟨gb659, 5, none⟩ = some (.int .i64 0) := (blk_cell BK659.out 5).trans rfl; have hcz25_6 : w24.cell? ⟨gb659, 6, none⟩ = some (.int .i64 0) := (blk_cell BK659.out 6).trans rfl; have hcz25_7 : w24.cell? ⟨gb659, 7, none⟩ = some (.int .i64 0) := (blk_cell BK659.out 7).trans rfl; have hcz25_8 : w24.cell? ⟨gb659, 8, none⟩ = some (.int .i64 0) := (blk_cell BK659.out 8).trans rfl; have hcz25_9 : w24.cell? ⟨gb659, 9, none⟩ = some (.int .i64 0) := (blk_cell BK659.out 9).trans rfl; have hcz25_10 : w24.cell? ⟨gb659, 10, none⟩ = some (.int .i64 0) := (blk_cell BK659.out 10).trans rfl; have hcz25_11 : w24.cell? ⟨gb659, 11, none⟩ = some (.int .i64 0) := (blk_cell BK659.out 11).trans rfl; have hcz25_12 : w24.cell? ⟨gb659, 12, none⟩ = some (.slice none 0 0) := (blk_cell BK659.out 12).trans rfl; have hfz25_0 := blk_frozen BK659.out 0; have hfz25_1 := blk_frozen BK659.out 1; have hfz25_2 := blk_frozen BK659.out 2; have hfz25_3 := blk_frozen BK659.out 3; have hfz25_4 := blk_frozen BK659.out 4; have hfz25_5 := blk_frozen BK659.out 5; have hfz25_6 := blk_frozen BK659.out 6; have hfz25_7 := blk_frozen BK659.out 7; have hfz25_8 := blk_frozen BK659.out 8; have hfz25_9 := blk_frozen BK659.out 9; have hfz25_10 := blk_frozen BK659.out 10; have hfz25_11 := blk_frozen BK659.out 11; have hfz25_12 := blk_frozen BK659.out 12; obtain ⟨Ao26, co26, eo26⟩ := Kd.R_slice HO658.out; subst eo26))
                have n0_ : Aside0 (Kd.R k26 26 (((((((((((((w24.setCell ⟨gb659, 0, none⟩ (.int .i64 t644)).setCell ⟨gb659, 1, none⟩ (.int .i64 t645)).setCell ⟨gb659, 2, none⟩ (.int .i64 t646)).setCell ⟨gb659, 3, none⟩ (.int .i64 t647)).setCell ⟨gb659, 4, none⟩ (.int .i64 t648)).setCell ⟨gb659, 5, none⟩ (.int .i64 t649)).setCell ⟨gb659, 6, none⟩ (.int .i64 t650)).setCell ⟨gb659, 7, none⟩ (.int .i64 t651)).setCell ⟨gb659, 8, none⟩ (.int .i64 t652)).setCell ⟨gb659, 9, none⟩ (.int .i64 t653)).setCell ⟨gb659, 10, none⟩ (.int .i64 t654)).setCell ⟨gb659, 11, none⟩ (.int .i64 t655)).setCell ⟨gb659, 12, none⟩ (.slice Ao26 t656.length co26)) w.heap.size (fun _ => True) (.slice Ao22 x3_3.length co22) x3_3) := ⟨by (with_reducible repeat (first | apply Kd.R_alloc | apply Kd.R_drewN | apply Kd.R_drew)); exact Kd.R_mono (Kd.R_far (p := ⟨gb659, 12, none⟩) (Kd.R_far (p := ⟨gb659, 11, none⟩) (Kd.R_far (p := ⟨gb659, 10, none⟩) (Kd.R_far (p := ⟨gb659, 9, none⟩) (Kd.R_far (p := ⟨gb659, 8, none⟩) (Kd.R_far (p := ⟨gb659, 7, none⟩) (Kd.R_far (p := ⟨gb659, 6, none⟩) (Kd.R_far (p := ⟨gb659, 5, none⟩) (Kd.R_far (p := ⟨gb659, 4, none⟩) (Kd.R_far (p := ⟨gb659, 3, none⟩) (Kd.R_far (p := ⟨gb659, 2, none⟩) (Kd.R_far (p := ⟨gb659, 1, none⟩) (Kd.R_far (p := ⟨gb659, 0, none⟩) (Kd.R_types HO_3.out BK659.out (by decide)) (fun _ hk => hk.2) (.int .i64 t644)) (fun _ hk => hk.2) (.int .i64 t645)) (fun _ hk => hk.2) (.int .i64 t646)) (fun _ hk => hk.2) (.int .i64 t647)) (fun _ hk => hk.2) (.int .i64 t648)) (fun _ hk => hk.2) (.int .i64 t649)) (fun _ hk => hk.2) (.int .i64 t650)) (fun _ hk => hk.2) (.int .i64 t651)) (fun _ hk => hk.2) (.int .i64 t652)) (fun _ hk => hk.2) (.int .i64 t653)) (fun _ hk => hk.2) (.int .i64 t654)) (fun _ hk => hk.2) (.int .i64 t655)) (fun _ hk => hk.2) (.slice Ao26 t656.length co26)) (fun _ hk => trivial)⟩
                have n1_ : Aside0 (Kd.R (Kd.int .i64) 3 (((((((((((((w24.setCell ⟨gb659, 0, none⟩ (.int .i64 t644)).setCell ⟨gb659, 1, none⟩ (.int .i64 t645)).setCell ⟨gb659, 2, none⟩ (.int .i64 t646)).setCell ⟨gb659, 3, none⟩ (.int .i64 t647)).setCell ⟨gb659, 4, none⟩ (.int .i64 t648)).setCell ⟨gb659, 5, none⟩ (.int .i64 t649)).setCell ⟨gb659, 6, none⟩ (.int .i64 t650)).setCell ⟨gb659, 7, none⟩ (.int .i64 t651)).setCell ⟨gb659, 8, none⟩ (.int .i64 t652)).setCell ⟨gb659, 9, none⟩ (.int .i64 t653)).setCell ⟨gb659, 10, none⟩ (.int .i64 t654)).setCell ⟨gb659, 11, none⟩ (.int .i64 t655)).setCell ⟨gb659, 12, none⟩ (.slice Ao26 t656.length co26)) w.heap.size (fun _ => True) (.slice Ao26 t656.length co26) t656) := ⟨by (with_reducible repeat (first | apply Kd.R_alloc | apply Kd.R_drewN | apply Kd.R_drew)); exact Kd.R_mono (Kd.R_far (p := ⟨gb659, 12, none⟩) (Kd.R_far (p := ⟨gb659, 11, none⟩) (Kd.R_far (p := ⟨gb659, 10, none⟩) (Kd.R_far (p := ⟨gb659, 9, none⟩) (Kd.R_far (p := ⟨gb659, 8, none⟩) (Kd.R_far (p := ⟨gb659, 7, none⟩) (Kd.R_far (p := ⟨gb659, 6, none⟩) (Kd.R_far (p := ⟨gb659, 5, none⟩) (Kd.R_far (p := ⟨gb659, 4, none⟩) (Kd.R_far (p := ⟨gb659, 3, none⟩) (Kd.R_far (p := ⟨gb659, 2, none⟩) (Kd.R_far (p := ⟨gb659, 1, none⟩) (Kd.R_far (p := ⟨gb659, 0, none⟩) (Kd.R_types HO658.out BK659.out (by decide)) (fun _ hk => hk.2) (.int .i64 t644)) (fun _ hk => hk.2) (.int .i64 t645)) (fun _ hk => hk.2) (.int .i64 t646)) (fun _ hk => hk.2) (.int .i64 t647)) (fun _ hk => hk.2) (.int .i64 t648)) (fun _ hk => hk.2) (.int .i64 t649)) (fun _ hk => hk.2) (.int .i64 t650)) (fun _ hk => hk.2) (.int .i64 t651)) (fun _ hk => hk.2) (.int .i64 t652)) (fun _ hk => hk.2) (.int .i64 t653)) (fun _ hk => hk.2) (.int .i64 t654)) (fun _ hk => hk.2) (.int .i64 t655)) (fun _ hk => hk.2) (.slice Ao26 t656.length co26)) (fun _ hk => trivial)⟩
                have n2_ : Aside0 ((((((((((((((w24.setCell ⟨gb659, 0, none⟩ (.int .i64 t644)).setCell ⟨gb659, 1, none⟩ (.int .i64 t645)).setCell ⟨gb659, 2, none⟩ (.int .i64 t646)).setCell ⟨gb659, 3, none⟩ (.int .i64 t647)).setCell ⟨gb659, 4, none⟩ (.int .i64 t648)).setCell ⟨gb659, 5, none⟩ (.int .i64 t649)).setCell ⟨gb659, 6, none⟩ (.int .i64 t650)).setCell ⟨gb659, 7, none⟩ (.int .i64 t651)).setCell ⟨gb659, 8, none⟩ (.int .i64 t652)).setCell ⟨gb659, 9, none⟩ (.int .i64 t653)).setCell ⟨gb659, 10, none⟩ (.int .i64 t654)).setCell ⟨gb659, 11, none⟩ (.int .i64 t655)).setCell ⟨gb659, 12, none⟩ (.slice Ao26 t656.length co26)).heap[gb659]? = some (.cells #[.int .i64 t644, .int .i64 t645, .int .i64 t646, .int .i64 t647, .int .i64 t648, .int .i64 t649, .int .i64 t650, .int .i64 t651, .int .i64 t652, .int .i64 t653, .int .i64 t654, .int .i64 t655, .slice Ao26 t656.length co26] 28 (0, 0))) := ⟨by (with_reducible repeat (first | refine blk_drewN ?_ _ | refine blk_drew ?_ | refine blk_alloc ?_ _)); refine blk_put (cs := #[.int .i64 t644, .int .i64 t645, .int .i64 t646, .int .i64 t647, .int .i64 t648, .int .i64 t649, .int .i64 t650, .int .i64 t651, .int .i64 t652, .int .i64 t653, .int .i64 t654, .int .i64 t655, .slice none 0 0]) ?_ 12 _ rfl; (with_reducible repeat (first | refine blk_drewN ?_ _ | refine blk_drew ?_ | refine blk_alloc ?_ _)); refine blk_put (cs := #[.int .i64 t644, .int .i64 t645, .int .i64 t646, .int .i64 t647, .int .i64 t648, .int .i64 t649, .int .i64 t650, .int .i64 t651, .int .i64 t652, .int .i64 t653, .int .i64 t654, .int .i64 0, .slice none 0 0]) ?_ 11 _ rfl; (with_reducible repeat (first | refine blk_drewN ?_ _ | refine blk_drew ?_ | refine blk_alloc ?_ _)); refine blk_put (cs := #[.int .i64 t644, .int .i64 t645, .int .i64 t646, .int .i64 t647, .int .i64 t648, .int .i64 t649, .int .i64 t650, .int .i64 t651, .int .i64 t652, .int .i64 t653, .int .i64 0, .int .i64 0, .slice none 0 0]) ?_ 10 _ rfl; (with_reducible repeat (first | refine blk_drewN ?_ _ | refine blk_drew ?_ | refine blk_alloc ?_ _)); refine blk_put (cs := #[.int .i64 t644, .int .i64 t645, .int .i64 t646, .int .i64 t647, .int .i64 t648, .int .i64 t649, .int .i64 t650, .int .i64 t651, .int .i64 t652, .int .i64 0, .int .i64 0, .int .i64 0, .slice none 0 0]) ?_ 9 _ rfl; (with_reducible repeat (first | refine blk_drewN ?_ _ | refine blk_drew ?_ | refine blk_alloc ?_ _)); refine blk_put (cs := #[.int .i64 t644, .int .i64 t645, .int .i64 t646, .int .i64 t647, .int .i64 t648, .int .i64 t649, .int .i64 t650, .int .i64 t651, .int .i64 0, .int .i64 0, .int .i64 0, .int .i64 0, .slice none 0 0]) ?_ 8 _ rfl; (with_reducible repeat (first | refine blk_drewN ?_ _ | refine blk_drew ?_ | refine blk_alloc ?_ _)); refine blk_put (cs := #[.int .i64 t644, .int .i64 t645, .int .i64 t646, .int .i64 t647, .int .i64 t648, .int .i64 t649, .int .i64 t650, .int .i64 0, .int .i64 0, .int .i64 0, .int .i64 0, .int .i64 0, .slice none 0 0]) ?_ 7 _ rfl; (with_reducible repeat (first | refine blk_drewN ?_ _ | refine blk_drew ?_ | refine blk_alloc ?_ _)); refine blk_put (cs := #[.int .i64 t644, .int .i64 t645, .int .i64 t646, .int .i64 t647, .int .i64 t648, .int .i64 t649, .int .i64 0, .int .i64 0, .int .i64 0, .int .i64 0, .int .i64 0, .int .i64 0, .slice none 0 0]) ?_ 6 _ rfl; (with_reducible repeat (first | refine blk_drewN ?_ _ | refine blk_drew ?_ | refine blk_alloc ?_ _)); refine blk_put (cs := #[.int .i64 t644, .int .i64 t645, .int .i64 t646, .int .i64 t647, .int .i64 t648, .int .i64 0, .int .i64 0, .int .i64 0, .int .i64 0, .int .i64 0, .int .i64 0, .int .i64 0, .slice none 0 0]) ?_ 5 _ rfl; (with_reducible repeat (first | refine blk_drewN ?_ _ | refine blk_drew ?_ | refine blk_alloc ?_ _)); refine blk_put (cs := #[.int .i64 t644, .int .i64 t645, .int .i64 t646, .int .i64 t647, .int .i64 0, .int .i64 0, .int .i64 0, .int .i64 0, .int .i64 0, .int .i64 0, .int .i64 0, .int .i64 0, .slice none 0 0]) ?_ 4 _ rfl; (with_reducible repeat (first | refine blk_drewN ?_ _ | refine blk_drew ?_ | refine blk_alloc ?_ _)); refine blk_put (cs := #[.int .i64 t644, .int .i64 t645, .int .i64 t646, .int .i64 0, .int .i64 0, .int .i64 0, .int .i64 0, .int .i64 0, .int .i64 0, .int .i64 0, .int .i64 0, .int .i64 0, .slice none 0 0]) ?_ 3 _ rfl; (with_reducible repeat (first | refine blk_drewN ?_ _ | refine blk_drew ?_ | refine blk_alloc ?_ _)); refine blk_put (cs := #[.int .i64 t644, .int .i64 t645, .int .i64 0, .int .i64 0, .int .i64 0, .int .i64 0, .int .i64 0, .int .i64 0, .int .i64 0, .int .i64 0, .int .i64 0, .int .i64 0, .slice none 0 0]) ?_ 2 _ rfl; (with_reducible repeat (first | refine blk_drewN ?_ _ | refine blk_drew ?_ | refine blk_alloc ?_ _)); refine blk_put (cs := #[.int .i64 t644, .int .i64 0, .int .i64 0, .int .i64 0, .int .i64 0, .int .i64 0, .int .i64 0, .int .i64 0, .int .i64 0, .int .i64 0, .int .i64 0, .int .i64 0, .slice none 0 0]) ?_ 1 _ rfl; (with_reducible repeat (first | refine blk_drewN ?_ _ | refine blk_drew ?_ | refine blk_alloc ?_ _)); refine blk_put (cs := #[.int .i64 0, .int .i64 0, .int .i64 0, .int .i64 0, .int .i64 0, .int .i64 0, .int .i64 0, .int .i64 0, .int .i64 0, .int .i64 0, .int .i64 0, .int .i64 0, .slice none 0 0]) ?_ 0 _ rfl; (with_reducible repeat (first | refine blk_drewN ?_ _ | refine blk_drew ?_ | refine blk_alloc ?_ _)); exact BK659.out⟩
                have n3_ : Aside0 (Below w.heap.size w (((((((((((((w24.setCell ⟨gb659, 0, none⟩ (.int .i64 t644)).setCell ⟨gb659, 1, none⟩ (.int .i64 t645)).setCell ⟨gb659, 2, none⟩ (.int .i64 t646)).setCell ⟨gb659, 3, none⟩ (.int .i64 t647)).setCell ⟨gb659, 4, none⟩ (.int .i64 t648)).setCell ⟨gb659, 5, none⟩ (.int .i64 t649)).setCell ⟨gb659, 6, none⟩ (.int .i64 t650)).setCell ⟨gb659, 7, none⟩ (.int .i64 t651)).setCell ⟨gb659, 8, none⟩ (.int .i64 t652)).setCell ⟨gb659, 9, none⟩ (.int .i64 t653)).setCell ⟨gb659, 10, none⟩ (.int .i64 t654)).setCell ⟨gb659, 11, none⟩ (.int .i64 t655)).setCell ⟨gb659, 12, none⟩ (.slice Ao26 t656.length co26))) := ⟨by repeat (first | (with_reducible first | exact HB.out | apply below_alloc | apply pw_below_drewN | apply below_drew1 | refine below_set ?_ GE659.out) | exact HB.out)⟩
                (try clear HO_3)
                (try clear HO658)
                (try clear BK659)
                (try clear HB)
                generalize (((((((((((((w24.setCell ⟨gb659, 0, none⟩ (.int .i64 t644)).setCell ⟨gb659, 1, none⟩ (.int .i64 t645)).setCell ⟨gb659, 2, none⟩ (.int .i64 t646)).setCell ⟨gb659, 3, none⟩ (.int .i64 t647)).setCell ⟨gb659, 4, none⟩ (.int .i64 t648)).setCell ⟨gb659, 5, none⟩ (.int .i64 t649)).setCell ⟨gb659, 6, none⟩ (.int .i64 t650)).setCell ⟨gb659, 7, none⟩ (.int .i64 t651)).setCell ⟨gb659, 8, none⟩ (.int .i64 t652)).setCell ⟨gb659, 9, none⟩ (.int .i64 t653)).setCell ⟨gb659, 10, none⟩ (.int .i64 t654)).setCell ⟨gb659, 11, none⟩ (.int .i64 t655)).setCell ⟨gb659, 12, none⟩ (.slice Ao26 t656.length co26)) = w27 at n0_ n1_ n2_ n3_ ⊢
                have HO_3 := n0_
                have HO658 := n1_
                have BK659 := n2_
                have HB := n3_
                clear n0_ n1_ n2_ n3_
                have n0_ := Aside0.mk (Kd.R_drew HO_3.out)
                have n1_ := Aside0.mk (Kd.R_drew HO658.out)
                have n2_ := Aside0.mk (blk_drew BK659.out)
                have n3_ := Aside0.mk (below_drew1 HB.out)
                clear HO_3
                clear HO658
                clear BK659
                clear HB
                have HO_3 := n0_
                have HO658 := n1_
                have BK659 := n2_
                have HB := n3_
                clear n0_ n1_ n2_ n3_
                have p660 : 0 ≤ (0 : Int) := (by omega)
                have q660 : 0 < (x3_3.length : Int) := of_decide_eq_true (by first | (with_reducible assumption) | assumption)
                obtain ⟨ad660, e660, hx660_0, hx660_1, hx660_2, hx660_3⟩ := at_T26 (Kd.R_reads' HO_3.out).2.2 0 p660 q660
                cases e660
                have qi660 : (0 < x3_3.length) = True := eq_true (by omega)
                (try rw [show ((0 : Int)).toNat = 0 from rfl] at hx660_0)
                (try rw [show 0 * 4 = 0 from rfl] at hx660_0)
                (try rw [Addr.add_zero'] at hx660_0)
                (try rw [show ((0 : Int)).toNat = 0 from rfl] at hx660_1)
                (try rw [show 0 * 4 = 0 from rfl] at hx660_1)
                (try rw [Addr.add_zero'] at hx660_1)
                (try rw [show ((0 : Int)).toNat = 0 from rfl] at hx660_2)
                (try rw [show 0 * 4 = 0 from rfl] at hx660_2)
                (try rw [Addr.add_zero'] at hx660_2)
                (try rw [show ((0 : Int)).toNat = 0 from rfl] at hx660_3)
                (try rw [show 0 * 4 = 0 from rfl] at hx660_3)
                (try rw [Addr.add_zero'] at hx660_3)
                replace p660 := eq_true p660
                replace q660 := eq_true q660
                have p661 : 0 ≤ ((ji19) : Int) := of_decide_eq_true (by first | (with_reducible assumption) | assumption)
                have q661 : (ji19) < (x3_3.length : Int) := of_decide_eq_true (by first | (with_reducible assumption) | assumption)
                obtain ⟨ad661, e661, hx661_0, hx661_1, hx661_2, hx661_3⟩ := at_T26 (Kd.R_reads' HO_3.out).2.2 (ji19) p661 q661
                obtain rfl : ad660 = ad661 := (by injection e661)
                replace p661 := eq_true p661
                replace q661 := eq_true q661
                refine start_ (n := 18) (S := fun w' => w'.cell? ad660 = some (.int .i64 ((rd_T26 x3_3 0).f0)) ∧ w'.cell? ⟨ad660.block, ad660.off + 1, none⟩ = some (.int .i64 ((rd_T26 x3_3 0).f1)) ∧ w'.cell? ⟨ad660.block, ad660.off + 2, none⟩ = some (.int .i64 ((rd_T26 x3_3 0).f2)) ∧ w'.cell? ⟨ad660.block, ad660.off + 3, none⟩ = some (.int .i64 ((rd_T26 x3_3 0).f3)) ∧ w'.cell? (ad660.add (((ji19)).toNat * 4)) = some (.int .i64 ((rd_T26 x3_3 (ji19)).f0)) ∧ w'.cell? ⟨(ad660.add (((ji19)).toNat * 4)).block, (ad660.add (((ji19)).toNat * 4)).off + 1, none⟩ = some (.int .i64 ((rd_T26 x3_3 (ji19)).f1)) ∧ w'.cell? ⟨(ad660.add (((ji19)).toNat * 4)).block, (ad660.add (((ji19)).toNat * 4)).off + 2, none⟩ = some (.int .i64 ((rd_T26 x3_3 (ji19)).f2)) ∧ w'.cell? ⟨(ad660.add (((ji19)).toNat * 4)).block, (ad660.add (((ji19)).toNat * 4)).off + 3, none⟩ = some (.int .i64 ((rd_T26 x3_3 (ji19)).f3))) (ds := []) #[false, false, false, false, false, false, false, false, false, false, false, false, false, false, false, false, false, false] (by kernel_rfl) rfl rfl ⟨hx660_0, hx660_1, hx660_2, hx660_3, hx661_0, hx661_1, hx661_2, hx661_3⟩ (fun hHeld => ?_); refine with_tabW bournelaw2_LowPlain.tab16 bournelaw2_LowPlain.bits16 (fun HT_ HW_ => ?_)
                generalize w27.drew = w28 at HO_3 HO658 BK659 HB hx660_0 hx660_1 hx660_2 hx660_3 hx661_0 hx661_1 hx661_2 hx661_3 hHeld ⊢
                refine pure_ (i := 0) (N := some 55) (v := ?_) (a' := ?_) #[true, false, false, false, false, false, false, false, false, false, false, false, false, false, false, false, false, false] rfl rfl (any_of HT_.out (by kernel_rfl)) (fun _ _ _ h => h) (Or.inl ⟨by rfl, ?_⟩) ?_ ?_
                rotate_left
                · intro w'
                  go_simp
                  with_reducible rfl
                rotate_left
                · simp only [Act.put, List.setIfInBounds_toArray, List.set_cons_zero, List.set_cons_succ, i64_w, i32_w]
                  rfl
                refine pure_ (i := 1) (N := some 56) (v := ?_) (a' := ?_) #[true, true, false, false, false, false, false, false, false, false, false, false, false, false, false, false, false, false] rfl rfl (any_of HT_.out (by kernel_rfl)) (fun _ _ _ h => h) (Or.inl ⟨by rfl, ?_⟩) ?_ ?_
                rotate_left
                · intro w'
                  go_simp
                  with_reducible rfl
                rotate_left
                · simp only [Act.put, List.setIfInBounds_toArray, List.set_cons_zero, List.set_cons_succ, i64_w, i32_w]
                  rfl
                refine pure_ (i := 2) (N := some 57) (v := ?_) (a' := ?_) #[true, true, true, false, false, false, false, false, false, false, false, false, false, false, false, false, false, false] rfl rfl (any_of HT_.out (by kernel_rfl)) (fun _ _ _ h => h) (Or.inl ⟨by rfl, ?_⟩) ?_ ?_
                rotate_left
                · intro w'
                  go_simp
                  with_reducible rfl
                rotate_left
                · simp only [Act.put, List.setIfInBounds_toArray, List.set_cons_zero, List.set_cons_succ, i64_w, i32_w]
                  rfl
                refine pure_ (i := 3) (N := some 58) (v := ?_) (a' := ?_) #[true, true, true, true, false, false, false, false, false, false, false, false, false, false, false, false, false, false] rfl rfl (any_of HT_.out (by kernel_rfl)) (fun _ _ _ h => h) (Or.inl ⟨by rfl, ?_⟩) ?_ ?_
                rotate_left
                · intro w'
                  go_simp
                  with_reducible rfl
                rotate_left
                · simp only [Act.put, List.setIfInBounds_toArray, List.set_cons_zero, List.set_cons_succ, i64_w, i32_w]
                  rfl
                refine pure_ (i := 4) (N := some 59) (v := ?_) (a' := ?_) #[true, true, true, true, true, false, false, false, false, false, false, false, false, false, false, false, false, false] rfl rfl (any_of HT_.out (by kernel_rfl)) (fun _ _ _ h => h) (Or.inl ⟨by rfl, ?_⟩) ?_ ?_
                rotate_left
                · intro w'
                  go_simp
                  with_reducible rfl
                rotate_left
                · simp only [Act.put, List.setIfInBounds_toArray, List.set_cons_zero, List.set_cons_succ, i64_w, i32_w]
                  rfl
                refine pure_ (i := 5) (N := some 60) (v := ?_) (a' := ?_) #[true, true, true, true, true, true, false, false, false, false, false, false, false, false, false, false, false, false] rfl rfl (any_of HT_.out (by kernel_rfl)) (fun _ _ _ h => h) (Or.inl ⟨by rfl, ?_⟩) ?_ ?_
                rotate_left
                · intro w'
                  go_simp
                  with_reducible rfl
                rotate_left
                · simp only [Act.put, List.setIfInBounds_toArray, List.set_cons_zero, List.set_cons_succ, i64_w, i32_w]
                  rfl
                refine pure_ (i := 6) (N := some 61) (v := ?_) (a' := ?_) #[true, true, true, true, true, true, true, false, false, false, false, false, false, false, false, false, false, false] rfl rfl (any_of HT_.out (by kernel_rfl)) (fun _ _ _ h => h) (Or.inl ⟨by rfl, ?_⟩) ?_ ?_
                rotate_left
                · intro w'
                  go_simp
                  with_reducible rfl
                rotate_left
                · simp only [Act.put, List.setIfInBounds_toArray, List.set_cons_zero, List.set_cons_succ, i64_w, i32_w]
                  rfl
                refine pure_ (i := 7) (N := some 62) (v := ?_) (a' := ?_) #[true, true, true, true, true, true, true, true, false, false, false, false, false, false, false, false, false, false] rfl rfl (any_of HT_.out (by kernel_rfl)) (fun _ _ _ h => h) (Or.inl ⟨by rfl, ?_⟩) ?_ ?_
                rotate_left
                · intro w'
                  go_simp
                  with_reducible rfl
                rotate_left
                · simp only [Act.put, List.setIfInBounds_toArray, List.set_cons_zero, List.set_cons_succ, i64_w, i32_w]
                  rfl
                refine pure_ (i := 9) (N := some 64) (v := ?_) (a' := ?_) #[true, true, true, true, true, true, true, true, false, true, false, false, false, false, false, false, false, false] rfl rfl (any_of HT_.out (by kernel_rfl)) (fun _ _ _ h => h) (Or.inl ⟨by rfl, ?_⟩) ?_ ?_
                rotate_left
                · intro w'
                  go_simp
                  with_reducible rfl
                rotate_left
                · simp only [Act.put, List.setIfInBounds_toArray, List.set_cons_zero, List.set_cons_succ, i64_w, i32_w]
                  rfl
                refine pure_ (i := 10) (N := some 65) (v := ?_) (a' := ?_) #[true, true, true, true, true, true, true, true, false, true, true, false, false, false, false, false, false, false] rfl rfl (any_of HT_.out (by kernel_rfl)) (fun _ _ _ h => h) (Or.inl ⟨by rfl, ?_⟩) ?_ ?_
                rotate_left
                · intro w'
                  go_simp
                  with_reducible rfl
                rotate_left
                · simp only [Act.put, List.setIfInBounds_toArray, List.set_cons_zero, List.set_cons_succ, i64_w, i32_w]
                  rfl
                refine pure_ (i := 11) (N := some 66) (v := ?_) (a' := ?_) #[true, true, true, true, true, true, true, true, false, true, true, true, false, false, false, false, false, false] rfl rfl (any_of HT_.out (by kernel_rfl)) (fun _ _ _ h => h) (Or.inl ⟨by rfl, ?_⟩) ?_ ?_
                rotate_left
                · intro w'
                  go_simp
                  with_reducible rfl
                rotate_left
                · simp only [Act.put, List.setIfInBounds_toArray, List.set_cons_zero, List.set_cons_succ, i64_w, i32_w]
                  rfl
                refine pure_ (i := 12) (N := some 67) (v := ?_) (a' := ?_) #[true, true, true, true, true, true, true, true, false, true, true, true, true, false, false, false, false, false] rfl rfl (any_of HT_.out (by kernel_rfl)) (fun _ _ _ h => h) (Or.inl ⟨by rfl, ?_⟩) ?_ ?_
                rotate_left
                · intro w'
                  go_simp
                  with_reducible rfl
                rotate_left
                · simp only [Act.put, List.setIfInBounds_toArray, List.set_cons_zero, List.set_cons_succ, i64_w, i32_w]
                  rfl
                refine pure_ (i := 13) (N := some 68) (v := ?_) (a' := ?_) #[true, true, true, true, true, true, true, true, false, true, true, true, true, true, false, false, false, false] rfl rfl (any_of HT_.out (by kernel_rfl)) (fun _ _ _ h => h) (Or.inl ⟨by rfl, ?_⟩) ?_ ?_
                rotate_left
                · intro w'
                  go_simp
                  with_reducible rfl
                rotate_left
                · simp only [Act.put, List.setIfInBounds_toArray, List.set_cons_zero, List.set_cons_succ, i64_w, i32_w]
                  rfl
                refine pure_ (i := 14) (N := some 69) (v := ?_) (a' := ?_) #[true, true, true, true, true, true, true, true, false, true, true, true, true, true, true, false, false, false] rfl rfl (any_of HT_.out (by kernel_rfl)) (fun _ _ _ h => h) (Or.inl ⟨by rfl, ?_⟩) ?_ ?_
                rotate_left
                · intro w'
                  go_simp
                  with_reducible rfl
                rotate_left
                · simp only [Act.put, List.setIfInBounds_toArray, List.set_cons_zero, List.set_cons_succ, i64_w, i32_w]
                  rfl
                refine take_ (i := 8) (N := some 63) (v := ?_) (a' := ?_) #[true, true, true, true, true, true, true, true, true, true, true, true, true, true, true, false, false, false] rfl rfl (take_ofW HT_.out HW_.out (by kernel_rfl)) (fun _ _ _ h => h) (Or.inl ⟨by rfl, ?_⟩) hHeld ?_ ?_
                rotate_left
                · rintro w' ⟨s0, s1, s2, s3, s4, s5, s6, s7⟩
                  go_simp
                  with_reducible rfl
                rotate_left
                · simp only [Act.put, List.setIfInBounds_toArray, List.set_cons_zero, List.set_cons_succ, i64_w, i32_w]
                  rfl
                refine take_ (i := 15) (N := some 70) (v := ?_) (a' := ?_) #[true, true, true, true, true, true, true, true, true, true, true, true, true, true, true, true, false, false] rfl rfl (take_ofW HT_.out HW_.out (by kernel_rfl)) (fun _ _ _ h => h) (Or.inl ⟨by rfl, ?_⟩) hHeld ?_ ?_
                rotate_left
                · rintro w' ⟨s0, s1, s2, s3, s4, s5, s6, s7⟩
                  go_simp
                  with_reducible rfl
                rotate_left
                · simp only [Act.put, List.setIfInBounds_toArray, List.set_cons_zero, List.set_cons_succ, i64_w, i32_w]
                  rfl
                refine one_ (i := 16) (N := some 71) #[true, true, true, true, true, true, true, true, true, true, true, true, true, true, true, true, true, false] rfl rfl (one_of HT_.out (by kernel_rfl)) (by decide) (fun K hK => ?_)
                refine Kd.R_lit_step (Kd.int .i64) _ 3 ?hg (N := 71) ?hd (xs := ([(x3_3.length : Int), x4_3, x5_3, x6_3, (rd_T26 x3_3 0).f3, (rd_T26 x3_3 (ji19)).f3] : List Int)) (inner := [.int .i64 (x3_3.length : Int), .int .i64 x4_3, .int .i64 x5_3, .int .i64 x6_3, .int .i64 ((rd_T26 x3_3 0).f3), .int .i64 ((rd_T26 x3_3 (ji19)).f3)]) (ok := fun _ => True) (okp := fun _ => True) ?hr ?hp (fun _ hk => hk) trivial (Below.refl _ _) (Nat.le_refl _) (by simp) ?_; (case hd => rfl); (case hg => rfl); (case hr => first | (go_simp; done) | (go_simp; rfl)); (case hp => exact (Reps.one (show Kd.M (Kd.int .i64) _ _ _ (x3_3.length : Int) [.int .i64 (x3_3.length : Int)] from rfl) (Reps.one (show Kd.M (Kd.int .i64) _ _ _ x4_3 [.int .i64 x4_3] from rfl) (Reps.one (show Kd.M (Kd.int .i64) _ _ _ x5_3 [.int .i64 x5_3] from rfl) (Reps.one (show Kd.M (Kd.int .i64) _ _ _ x6_3 [.int .i64 x6_3] from rfl) (Reps.one (show Kd.M (Kd.int .i64) _ _ _ ((rd_T26 x3_3 0).f3) [.int .i64 ((rd_T26 x3_3 0).f3)] from rfl) (Reps.one (show Kd.M (Kd.int .i64) _ _ _ ((rd_T26 x3_3 (ji19)).f3) [.int .i64 ((rd_T26 x3_3 (ji19)).f3)] from rfl) (Reps.none _ _))))))))
                intro v663 w29 ho30 hb hg_ hnew_
                have HS0_ := (hb.cell (World.block_lt_of_cell? _ _ (hHeld.1))).trans (hHeld.1)
                have HS1_ := (hb.cell (World.block_lt_of_cell? _ _ (hHeld.2.1))).trans (hHeld.2.1)
                have HS2_ := (hb.cell (World.block_lt_of_cell? _ _ (hHeld.2.2.1))).trans (hHeld.2.2.1)
                have HS3_ := (hb.cell (World.block_lt_of_cell? _ _ (hHeld.2.2.2.1))).trans (hHeld.2.2.2.1)
                have HS4_ := (hb.cell (World.block_lt_of_cell? _ _ (hHeld.2.2.2.2.1))).trans (hHeld.2.2.2.2.1)
                have HS5_ := (hb.cell (World.block_lt_of_cell? _ _ (hHeld.2.2.2.2.2.1))).trans (hHeld.2.2.2.2.2.1)
                have HS6_ := (hb.cell (World.block_lt_of_cell? _ _ (hHeld.2.2.2.2.2.2.1))).trans (hHeld.2.2.2.2.2.2.1)
                have HS7_ := (hb.cell (World.block_lt_of_cell? _ _ (hHeld.2.2.2.2.2.2.2))).trans (hHeld.2.2.2.2.2.2.2)
                clear hg_ hnew_
                (first | rw [← Ny662.out] at ho30 | (simp only [Int.reduceToNat] at ho30; rw [← Ny662.out] at ho30))
                have n0_ := Aside0.mk (Kd.R_below (by (with_reducible repeat (first | apply Kd.R_alloc | apply Kd.R_drewN | apply Kd.R_drew)); exact HO_3.out) hb)
                have n1_ := Aside0.mk (Kd.R_elder' (by (with_reducible repeat (first | apply Kd.R_alloc | apply Kd.R_drewN | apply Kd.R_drew)); exact HO658.out) (Kd.R_base ho30) hb)
                have n2_ := Aside0.mk (Kd.R_lower (Kd.R_new' ho30 (Kd.R_lt (by (with_reducible repeat (first | apply Kd.R_alloc | apply Kd.R_drewN | apply Kd.R_drew)); exact HO658.out))) (below_size (by repeat (first | (with_reducible first | exact HB.out | apply below_alloc | apply pw_below_drewN | apply below_drew1 | refine below_set ?_ GE659.out) | exact HB.out))))
                have n3_ := Aside0.mk (blk_below (g := gb659) (o := .cells #[.int .i64 t644, .int .i64 t645, .int .i64 t646, .int .i64 t647, .int .i64 t648, .int .i64 t649, .int .i64 t650, .int .i64 t651, .int .i64 t652, .int .i64 t653, .int .i64 t654, .int .i64 t655, .slice Ao26 t656.length co26] 28 (0, 0)) (by (with_reducible repeat (first | refine blk_drewN ?_ _ | refine blk_drew ?_ | refine blk_alloc ?_ _)); exact BK659.out) hb)
                have n4_ := Aside0.mk (below_step (by repeat (first | (with_reducible first | exact HB.out | apply below_alloc | apply pw_below_drewN | apply below_drew1 | refine below_set ?_ GE659.out) | exact HB.out)) hb)
                clear HO_3
                clear HO658
                clear BK659
                clear HB
                have HO_3 := n0_
                have HO658 := n1_
                have HO664 := n2_
                have BK659 := n3_
                have HB := n4_
                clear n0_ n1_ n2_ n3_ n4_
                clear hb ho30
                refine hK.out _ _ ⟨HS0_, HS1_, HS2_, HS3_, HS4_, HS5_, HS6_, HS7_⟩ (fun hHeld => ?_)
                clear hK K
                refine norm_ (a' := ?_) ?_ ?_
                rotate_left
                · show Act.put _ (some 71) _ = _
                  simp only [Act.put, List.setIfInBounds_toArray, List.set_cons_zero, List.set_cons_succ, i64_w, i32_w]
                  rfl
                refine pure_ (i := 17) (N := some 10) (v := ?_) (a' := ?_) #[true, true, true, true, true, true, true, true, true, true, true, true, true, true, true, true, true, true] rfl rfl (any_of HT_.out (by kernel_rfl)) (fun _ _ _ h => h) (Or.inl ⟨by rfl, ?_⟩) ?_ ?_
                rotate_left
                · intro w'
                  go_simp
                  with_reducible rfl
                rotate_left
                · simp only [Act.put, List.setIfInBounds_toArray, List.set_cons_zero, List.set_cons_succ, i64_w, i32_w]
                  rfl
                refine done_ (done_of HT_.out (by kernel_rfl)) ?_
                try go_wp2
                go_loopg [11] kj3 (fun kq v11 w' => ∃ (x11_2 : Int), v11 = .int .i64 x11_2 ∧ Aside0 (bournelaw2_LowPlain.l1 kq y662 x11_2 t644 t645 t646 t647 t648 t649 t650 t651 t652 t653 t654 t655 t656 = some r) ∧ Aside0 (kq ≤ kj3) ∧ Aside0 (Kd.R (Kd.int .i64) 3 w' w.heap.size (fun k_ => some k_ ≠ ((.slice Ao26 t656.length co26) : Value).ownBlock) v663 y662) ∧ Aside0 (Kd.R (Kd.int .i64) 3 w' w.heap.size (fun k_ => some k_ ≠ (v663 : Value).ownBlock) (.slice Ao26 t656.length co26) t656) ∧ Aside0 (w'.heap[gb659]? = some (.cells #[.int .i64 t644, .int .i64 t645, .int .i64 t646, .int .i64 t647, .int .i64 t648, .int .i64 t649, .int .i64 t650, .int .i64 t651, .int .i64 t652, .int .i64 t653, .int .i64 t654, .int .i64 t655, (.slice Ao26 t656.length co26)] 28 (0, 0))) ∧ Aside0 (Below w.heap.size w w'))
                case atStart => exact ⟨(0), (by first | rfl | (simp; done) | (simp [*]; done)), H', ⟨Nat.le_refl _⟩, ⟨by (with_reducible repeat (first | apply Kd.R_alloc | apply Kd.R_drewN | apply Kd.R_drew)); exact Kd.R_mono HO664.out (fun _ hk => hk.2)⟩, ⟨by (with_reducible repeat (first | apply Kd.R_alloc | apply Kd.R_drewN | apply Kd.R_drew)); exact Kd.R_mono HO658.out (fun _ hk => hk.2)⟩, ⟨by (with_reducible repeat (first | refine blk_drewN ?_ _ | refine blk_drew ?_ | refine blk_alloc ?_ _)); exact BK659.out⟩, ⟨by repeat (first | (with_reducible first | exact HB.out | apply below_alloc | apply pw_below_drewN | apply below_drew1 | refine below_set ?_ GE659.out) | exact HB.out)⟩⟩
                case round =>
                  clear H'
                  try clear c1
                  try clear c2
                  try clear p2
                  try clear c3
                  try clear c4
                  try clear c6
                  try clear c6b0
                  try clear p6
                  try clear q6
                  try clear hx6
                  try clear qi6
                  try clear c7
                  try clear c7b0
                  try clear c8
                  try clear c8b0
                  try clear c10
                  try clear c15
                  try clear c15b0
                  try clear c15b1
                  try clear c15b2
                  try clear c18
                  try clear c18b0
                  try clear c18b1
                  try clear c20
                  try clear c20b0
                  try clear c21
                  try clear c21b0
                  try clear c23
                  try clear c24
                  try clear c25
                  try clear hcz25_0
                  try clear hcz25_1
                  try clear hcz25_10
                  try clear hcz25_11
                  try clear hcz25_12
                  try clear hcz25_2
                  try clear hcz25_3
                  try clear hcz25_4
                  try clear hcz25_5
                  try clear hcz25_6
                  try clear hcz25_7
                  try clear hcz25_8
                  try clear hcz25_9
                  try clear hfz25_0
                  try clear hfz25_1
                  try clear hfz25_10
                  try clear hfz25_11
                  try clear hfz25_12
                  try clear hfz25_2
                  try clear hfz25_3
                  try clear hfz25_4
                  try clear hfz25_5
                  try clear hfz25_6
                  try clear hfz25_7
                  try clear hfz25_8
                  try clear hfz25_9
                  try clear hx636_0
                  try clear hx660_0
                  try clear hx660_1
                  try clear hx660_2
                  try clear hx660_3
                  try clear hx661_0
                  try clear hx661_1
                  try clear hx661_2
                  try clear hx661_3
                  try clear p2
                  try clear p6
                  try clear p636
                  try clear p660
                  try clear p661
                  try clear q6
                  try clear q636
                  try clear q660
                  try clear q661
                  obtain ⟨x11_2, rfl, HA, HK2, HO_10, HO_660012, BK659, HB⟩ := hrel
                  cases gk with
                  | zero => exact absurd HA.out (by simp [bournelaw2_LowPlain.l1])
                  | succ k2 =>
                    have H := HA.out
                    clear HA
                    simp only [bournelaw2_LowPlain.l1] at H
                    by_cases c31 : x11_2 < 6
                    · rw [if_pos c31] at H
                      have c31b0 : decide (x11_2 < 6) = true := decide_eq_true c31
                      clear c31
                      replace H := Option.bind_eq_some_iff.mp H
                      obtain ⟨⟨t665, t666, t667, t670⟩, A320, H⟩ := H
                      replace H : ((bournelaw0_Num.f t670).bind fun t672 => (if t672 = 0 then (if 0 ≤ x11_2 then (if x11_2 < (y662.length : Int) then ((bournelaw0_SameOut.f k2 t665 t666 t667 (rd y662 x11_2) false ([] : List Int)).bind fun t674 => (if t674 = true then (bournelaw2_LowPlain.l1 k2 y662 (wrap64 (x11_2 + 1)) t644 t645 t646 t647 t648 t649 t650 t651 t652 t653 t654 t655 t656) else (some false))) else (none)) else (none)) else (some false))) = some r := H
                      have A32 := Aside0.mk A320
                      clear A320
                      replace H := Option.bind_eq_some_iff.mp H
                      obtain ⟨t672, A330, H⟩ := H
                      replace H : (if t672 = 0 then (if 0 ≤ x11_2 then (if x11_2 < (y662.length : Int) then ((bournelaw0_SameOut.f k2 t665 t666 t667 (rd y662 x11_2) false ([] : List Int)).bind fun t674 => (if t674 = true then (bournelaw2_LowPlain.l1 k2 y662 (wrap64 (x11_2 + 1)) t644 t645 t646 t647 t648 t649 t650 t651 t652 t653 t654 t655 t656) else (some false))) else (none)) else (none)) else (some false)) = some r := H
                      have A33 := Aside0.mk A330
                      clear A330
                      by_cases c34 : t672 = 0
                      · rw [if_pos c34] at H
                        have c34b0 : (t672 == 0) = true := beq_iff_eq.mpr c34
                        have c34b1 : (t672 != 0) = false := bne_eq_false_iff_eq.mpr c34
                        clear c34
                        by_cases c35 : 0 ≤ x11_2
                        · rw [if_pos c35] at H
                          have c35b0 : decide (0 ≤ x11_2) = true := decide_eq_true c35
                          clear c35
                          by_cases c36 : x11_2 < (y662.length : Int)
                          · rw [if_pos c36] at H
                            have c36b0 : decide (x11_2 < (y662.length : Int)) = true := decide_eq_true c36
                            clear c36
                            replace H := Option.bind_eq_some_iff.mp H
                            obtain ⟨t674, A370, H⟩ := H
                            replace H : (if t674 = true then (bournelaw2_LowPlain.l1 k2 y662 (wrap64 (x11_2 + 1)) t644 t645 t646 t647 t648 t649 t650 t651 t652 t653 t654 t655 t656) else (some false)) = some r := H
                            have A37 := Aside0.mk A370
                            clear A370
                            by_cases c38 : t674 = true
                            · subst c38
                              have H1 : (bournelaw2_LowPlain.l1 k2 y662 (wrap64 (x11_2 + 1)) t644 t645 t646 t647 t648 t649 t650 t651 t652 t653 t654 t655 t656) = some r := by rw [if_pos rfl] at H; exact H
                              clear H
                              have H := H1
                              clear H1
                              have H' := Aside0.mk H
                              clear H
                              have hcz39_0 : wr.cell? ⟨gb659, 0, none⟩ = some (.int .i64 t644) := (blk_cell BK659.out 0).trans rfl
                              have hcz39_1 : wr.cell? ⟨gb659, 1, none⟩ = some (.int .i64 t645) := (blk_cell BK659.out 1).trans rfl
                              have hcz39_2 : wr.cell? ⟨gb659, 2, none⟩ = some (.int .i64 t646) := (blk_cell BK659.out 2).trans rfl
                              have hcz39_3 : wr.cell? ⟨gb659, 3, none⟩ = some (.int .i64 t647) := (blk_cell BK659.out 3).trans rfl
                              have hcz39_4 : wr.cell? ⟨gb659, 4, none⟩ = some (.int .i64 t648) := (blk_cell BK659.out 4).trans rfl
                              have hcz39_5 : wr.cell? ⟨gb659, 5, none⟩ = some (.int .i64 t649) := (blk_cell BK659.out 5).trans rfl
                              have hcz39_6 : wr.cell? ⟨gb659, 6, none⟩ = some (.int .i64 t650) := (blk_cell BK659.out 6).trans rfl
                              have hcz39_7 : wr.cell? ⟨gb659, 7, none⟩ = some (.int .i64 t651) := (blk_cell BK659.out 7).trans rfl
                              have hcz39_8 : wr.cell? ⟨gb659, 8, none⟩ = some (.int .i64 t652) := (blk_cell BK659.out 8).trans rfl
                              have hcz39_9 : wr.cell? ⟨gb659, 9, none⟩ = some (.int .i64 t653) := (blk_cell BK659.out 9).trans rfl
                              have hcz39_10 : wr.cell? ⟨gb659, 10, none⟩ = some (.int .i64 t654) := (blk_cell BK659.out 10).trans rfl
                              have hcz39_11 : wr.cell? ⟨gb659, 11, none⟩ = some (.int .i64 t655) := (blk_cell BK659.out 11).trans rfl
                              have hcz39_12 : wr.cell? ⟨gb659, 12, none⟩ = some (.slice Ao26 t656.length co26) := (blk_cell BK659.out 12).trans rfl
                              have hfz39_0 := blk_frozen BK659.out 0
                              have hfz39_1 := blk_frozen BK659.out 1
                              have hfz39_2 := blk_frozen BK659.out 2
                              have hfz39_3 := blk_frozen BK659.out 3
                              have hfz39_4 := blk_frozen BK659.out 4
                              have hfz39_5 := blk_frozen BK659.out 5
                              have hfz39_6 := blk_frozen BK659.out 6
                              have hfz39_7 := blk_frozen BK659.out 7
                              have hfz39_8 := blk_frozen BK659.out 8
                              have hfz39_9 := blk_frozen BK659.out 9
                              have hfz39_10 := blk_frozen BK659.out 10
                              have hfz39_11 := blk_frozen BK659.out 11
                              have hfz39_12 := blk_frozen BK659.out 12
                              try go_wp2_with (first | ((with_reducible refine gate_callee (f := 17) rfl ?_); refine goesL_ (some 80) rfl rfl Try.func17 (by kernel_rfl) rfl #[.agg #[.int .i64 0, .int .i64 x11_2, .int .i64 0, .int .i64 0, .slice none 0 0, .int .i64 0], .agg #[.int .i64 t644, .int .i64 t645, .int .i64 t646, .int .i64 t647, .int .i64 t648, .int .i64 t649, .int .i64 t650, .int .i64 t651, .int .i64 t652, .int .i64 t653, .int .i64 t654, .int .i64 t655, .slice Ao26 t656.length co26]] rfl (by (try simp only [List.map_toArray, List.map_cons, List.map_nil]); first | done | rfl | (simp only [List.length_drop, List.length_take]; rfl)) ?_; (refine (low_Value.calls 0 x11_2 0 0 _ _ ([] : List Int) 0 t644 t645 t646 t647 t648 t649 t650 t651 t652 t653 t654 t655 _ _ t656 t665 t666 t667 t670 _ ?side1 ?side2 ?side3 ?side4 A32.out).mono ?_); (case side1 => exact Kd.C_nil _ _); (case side2 => exact Nat.le_refl _); (case side3 => repeat (first | exact (Kd.R_reads' HO_660012.out).2.2 | (with_reducible refine Kd.C_alloc ?_ _) | (with_reducible refine Kd.C_drewN ?_ _) | (with_reducible refine Kd.C_drew ?_))); (case side4 => exact (Kd.R_reads' HO_660012.out).2.1); rintro e w40 ⟨v668, rfl, ho0, hb⟩; refine ⟨_, rfl, ?_⟩; have n0_ := Aside0.mk (Kd.R_elder' (by (with_reducible repeat (first | apply Kd.R_alloc | apply Kd.R_drewN | apply Kd.R_drew)); exact HO_10.out) (Kd.R_base ho0) hb); have n1_ := Aside0.mk (Kd.R_elder' (by (with_reducible repeat (first | apply Kd.R_alloc | apply Kd.R_drewN | apply Kd.R_drew)); exact HO_660012.out) (Kd.R_base ho0) hb); have n2_ := Aside0.mk (Kd.R_lower (Kd.R_new' (Kd.R_new' ho0 (Kd.R_lt (by (with_reducible repeat (first | apply Kd.R_alloc | apply Kd.R_drewN | apply Kd.R_drew)); exact HO_10.out))) (Kd.R_lt (by (with_reducible repeat (first | apply Kd.R_alloc | apply Kd.R_drewN | apply Kd.R_drew)); exact HO_660012.out))) (below_size (by repeat (first | (with_reducible first | exact HB.out | apply below_alloc | apply pw_below_drewN | apply below_drew1 | refine below_set ?_ GE659.out) | exact HB.out)))); have n3_ := Aside0.mk (blk_below (g := gb659) (o := .cells #[.int .i64 t644, .int .i64 t645, .int .i64 t646, .int .i64 t647, .int .i64 t648, .int .i64 t649, .int .i64 t650, .int .i64 t651, .int .i64 t652, .int .i64 t653, .int .i64 t654, .int .i64 t655, .slice Ao26 t656.length co26] 28 (0, 0)) (by (with_reducible repeat (first | refine blk_drewN ?_ _ | refine blk_drew ?_ | refine blk_alloc ?_ _)); exact BK659.out) hb); have n4_ := Aside0.mk (below_step (by repeat (first | (with_reducible first | exact HB.out | apply below_alloc | apply pw_below_drewN | apply below_drew1 | refine below_set ?_ GE659.out) | exact HB.out)) hb); clear HO_10; clear HO_660012; clear BK659; clear HB; have HO_10 := n0_; have HO_660012 := n1_; have HO669 := n2_; have BK659 := n3_; have HB := n4_; clear n0_ n1_ n2_ n3_ n4_; (try clear hb); (try clear hb2); (try clear hk); (try clear hi); (try clear ho0)) | ((with_reducible refine gate_dst (N := 12) rfl ?_); refine box_event ?hg (N := 12) ?hd (cs := #[.int .i64 0, .bool false, .slice none 0 0]) (t := 31) ?hr ?_; (case hd => rfl); (case hg => rfl); (case hr => first | (go_simp; done) | (go_simp; rfl)); intro gb671 hg w41 hbox hb; have n0_ := Aside0.mk (Kd.R_below (by (with_reducible repeat (first | apply Kd.R_alloc | apply Kd.R_drewN | apply Kd.R_drew)); exact HO_10.out) hb); have n1_ := Aside0.mk (Kd.R_below (by (with_reducible repeat (first | apply Kd.R_alloc | apply Kd.R_drewN | apply Kd.R_drew)); exact HO_660012.out) hb); have n2_ := Aside0.mk (Kd.R_below (by (with_reducible repeat (first | apply Kd.R_alloc | apply Kd.R_drewN | apply Kd.R_drew)); exact HO669.out) hb); have n3_ := Aside0.mk (blk_below (g := gb659) (o := .cells #[.int .i64 t644, .int .i64 t645, .int .i64 t646, .int .i64 t647, .int .i64 t648, .int .i64 t649, .int .i64 t650, .int .i64 t651, .int .i64 t652, .int .i64 t653, .int .i64 t654, .int .i64 t655, .slice Ao26 t656.length co26] 28 (0, 0)) (by (with_reducible repeat (first | refine blk_drewN ?_ _ | refine blk_drew ?_ | refine blk_alloc ?_ _)); exact BK659.out) hb); have n4_ := Aside0.mk (below_step (by repeat (first | (with_reducible first | exact HB.out | apply below_alloc | apply pw_below_drewN | apply below_drew1 | refine below_set ?_ GE659.out) | exact HB.out)) hb); have n5_ := Aside0.mk (hbox); have n6_ := Aside0.mk ((by rw [hg]; exact (below_size (by repeat (first | (with_reducible first | exact HB.out | apply below_alloc | apply pw_below_drewN | apply below_drew1 | refine below_set ?_ GE659.out) | exact HB.out))) : w.heap.size ≤ gb671)); have n7_ := Aside0.mk ((by rw [hg]; exact (below_size (by repeat (first | (with_reducible first | exact HB.out | apply below_alloc | apply pw_below_drewN | apply below_drew1 | refine below_set ?_ GE659.out) | exact HB.out))) : w.heap.size ≤ gb671)); have n8_ := Aside0.mk ((by rw [hg]; exact Nat.ne_of_lt (blk_lt (g := gb659) (o := .cells #[.int .i64 t644, .int .i64 t645, .int .i64 t646, .int .i64 t647, .int .i64 t648, .int .i64 t649, .int .i64 t650, .int .i64 t651, .int .i64 t652, .int .i64 t653, .int .i64 t654, .int .i64 t655, .slice Ao26 t656.length co26] 28 (0, 0)) (by (with_reducible repeat (first | refine blk_drewN ?_ _ | refine blk_drew ?_ | refine blk_alloc ?_ _)); exact BK659.out)) : gb659 ≠ gb671)); have n9_ := Aside0.mk ((by rw [hg]; exact Nat.ne_of_gt (blk_lt (g := gb659) (o := .cells #[.int .i64 t644, .int .i64 t645, .int .i64 t646, .int .i64 t647, .int .i64 t648, .int .i64 t649, .int .i64 t650, .int .i64 t651, .int .i64 t652, .int .i64 t653, .int .i64 t654, .int .i64 t655, .slice Ao26 t656.length co26] 28 (0, 0)) (by (with_reducible repeat (first | refine blk_drewN ?_ _ | refine blk_drew ?_ | refine blk_alloc ?_ _)); exact BK659.out)) : gb671 ≠ gb659)); clear HO_10; clear HO_660012; clear HO669; clear BK659; clear HB; have HO_10 := n0_; have HO_660012 := n1_; have HO669 := n2_; have BK659 := n3_; have HB := n4_; have BK671 := n5_; have GW671 := n6_; have GE671 := n7_; have NB659_671 := n8_; have NB671_659 := n9_; clear n0_ n1_ n2_ n3_ n4_ n5_ n6_ n7_ n8_ n9_; clear hb hbox hg; have hnb42 := NB671_659.out; have hnc42 := NB659_671.out; have hcz43_0 : w41.cell? ⟨gb671, 0, none⟩ = some (.int .i64 0) := (blk_cell BK671.out 0).trans rfl; have hcz43_1 : w41.cell? ⟨gb671, 1, none⟩ = some (.bool false) := (blk_cell BK671.out 1).trans rfl; have hcz43_2 : w41.cell? ⟨gb671, 2, none⟩ = some (.slice none 0 0) := (blk_cell BK671.out 2).trans rfl; have hfz43_0 := blk_frozen BK671.out 0; have hfz43_1 := blk_frozen BK671.out 1; have hfz43_2 := blk_frozen BK671.out 2; obtain ⟨Ao44, co44, eo44⟩ := Kd.R_slice HO669.out; subst eo44))
                              obtain ⟨Ao45, co45, eo45⟩ := Kd.R_slice HO_10.out
                              subst eo45
                              have n0_ : Aside0 (Kd.R (Kd.int .i64) 3 (((w41.setCell ⟨gb671, 0, none⟩ (.int .i64 t665)).setCell ⟨gb671, 1, none⟩ (.bool t666)).setCell ⟨gb671, 2, none⟩ (.slice Ao44 t667.length co44)) w.heap.size (fun k_ => some k_ ≠ (.slice Ao26 t656.length co26 : Value).ownBlock ∧ some k_ ≠ (.slice Ao44 t667.length co44 : Value).ownBlock) (.slice Ao45 y662.length co45) y662) := ⟨by (with_reducible repeat (first | apply Kd.R_alloc | apply Kd.R_drewN | apply Kd.R_drew)); exact Kd.R_mono (Kd.R_far (p := ⟨gb671, 2, none⟩) (Kd.R_far (p := ⟨gb671, 1, none⟩) (Kd.R_far (p := ⟨gb671, 0, none⟩) (Kd.R_types HO_10.out BK671.out (by decide)) (fun _ hk => hk.2) (.int .i64 t665)) (fun _ hk => hk.2) (.bool t666)) (fun _ hk => hk.2) (.slice Ao44 t667.length co44)) (fun _ hk => ⟨hk.1.1, hk.1.2⟩)⟩
                              have n1_ : Aside0 (Kd.R (Kd.int .i64) 3 (((w41.setCell ⟨gb671, 0, none⟩ (.int .i64 t665)).setCell ⟨gb671, 1, none⟩ (.bool t666)).setCell ⟨gb671, 2, none⟩ (.slice Ao44 t667.length co44)) w.heap.size (fun k_ => some k_ ≠ (.slice Ao45 y662.length co45 : Value).ownBlock ∧ some k_ ≠ (.slice Ao44 t667.length co44 : Value).ownBlock) (.slice Ao26 t656.length co26) t656) := ⟨by (with_reducible repeat (first | apply Kd.R_alloc | apply Kd.R_drewN | apply Kd.R_drew)); exact Kd.R_mono (Kd.R_far (p := ⟨gb671, 2, none⟩) (Kd.R_far (p := ⟨gb671, 1, none⟩) (Kd.R_far (p := ⟨gb671, 0, none⟩) (Kd.R_types HO_660012.out BK671.out (by decide)) (fun _ hk => hk.2) (.int .i64 t665)) (fun _ hk => hk.2) (.bool t666)) (fun _ hk => hk.2) (.slice Ao44 t667.length co44)) (fun _ hk => ⟨hk.1.1, hk.1.2⟩)⟩
                              have n2_ : Aside0 (Kd.R (Kd.int .i64) 3 (((w41.setCell ⟨gb671, 0, none⟩ (.int .i64 t665)).setCell ⟨gb671, 1, none⟩ (.bool t666)).setCell ⟨gb671, 2, none⟩ (.slice Ao44 t667.length co44)) w.heap.size (fun k_ => some k_ ≠ (.slice Ao45 y662.length co45 : Value).ownBlock ∧ some k_ ≠ (.slice Ao26 t656.length co26 : Value).ownBlock) (.slice Ao44 t667.length co44) t667) := ⟨by (with_reducible repeat (first | apply Kd.R_alloc | apply Kd.R_drewN | apply Kd.R_drew)); exact Kd.R_mono (Kd.R_far (p := ⟨gb671, 2, none⟩) (Kd.R_far (p := ⟨gb671, 1, none⟩) (Kd.R_far (p := ⟨gb671, 0, none⟩) (Kd.R_types HO669.out BK671.out (by decide)) (fun _ hk => hk.2) (.int .i64 t665)) (fun _ hk => hk.2) (.bool t666)) (fun _ hk => hk.2) (.slice Ao44 t667.length co44)) (fun _ hk => ⟨hk.1.1.2, hk.1.2⟩)⟩
                              have n3_ : Aside0 ((((w41.setCell ⟨gb671, 0, none⟩ (.int .i64 t665)).setCell ⟨gb671, 1, none⟩ (.bool t666)).setCell ⟨gb671, 2, none⟩ (.slice Ao44 t667.length co44)).heap[gb659]? = some (.cells #[.int .i64 t644, .int .i64 t645, .int .i64 t646, .int .i64 t647, .int .i64 t648, .int .i64 t649, .int .i64 t650, .int .i64 t651, .int .i64 t652, .int .i64 t653, .int .i64 t654, .int .i64 t655, .slice Ao26 t656.length co26] 28 (0, 0))) := ⟨by (with_reducible repeat (first | refine blk_drewN ?_ _ | refine blk_drew ?_ | refine blk_alloc ?_ _)); refine blk_far ?_ NB659_671.out _; (with_reducible repeat (first | refine blk_drewN ?_ _ | refine blk_drew ?_ | refine blk_alloc ?_ _)); refine blk_far ?_ NB659_671.out _; (with_reducible repeat (first | refine blk_drewN ?_ _ | refine blk_drew ?_ | refine blk_alloc ?_ _)); refine blk_far ?_ NB659_671.out _; (with_reducible repeat (first | refine blk_drewN ?_ _ | refine blk_drew ?_ | refine blk_alloc ?_ _)); exact BK659.out⟩
                              have n4_ : Aside0 ((((w41.setCell ⟨gb671, 0, none⟩ (.int .i64 t665)).setCell ⟨gb671, 1, none⟩ (.bool t666)).setCell ⟨gb671, 2, none⟩ (.slice Ao44 t667.length co44)).heap[gb671]? = some (.cells #[.int .i64 t665, .bool t666, .slice Ao44 t667.length co44] 31 (0, 0))) := ⟨by (with_reducible repeat (first | refine blk_drewN ?_ _ | refine blk_drew ?_ | refine blk_alloc ?_ _)); refine blk_put (cs := #[.int .i64 t665, .bool t666, .slice none 0 0]) ?_ 2 _ rfl; (with_reducible repeat (first | refine blk_drewN ?_ _ | refine blk_drew ?_ | refine blk_alloc ?_ _)); refine blk_put (cs := #[.int .i64 t665, .bool false, .slice none 0 0]) ?_ 1 _ rfl; (with_reducible repeat (first | refine blk_drewN ?_ _ | refine blk_drew ?_ | refine blk_alloc ?_ _)); refine blk_put (cs := #[.int .i64 0, .bool false, .slice none 0 0]) ?_ 0 _ rfl; (with_reducible repeat (first | refine blk_drewN ?_ _ | refine blk_drew ?_ | refine blk_alloc ?_ _)); exact BK671.out⟩
                              have n5_ : Aside0 (Below w.heap.size w (((w41.setCell ⟨gb671, 0, none⟩ (.int .i64 t665)).setCell ⟨gb671, 1, none⟩ (.bool t666)).setCell ⟨gb671, 2, none⟩ (.slice Ao44 t667.length co44))) := ⟨by repeat (first | (with_reducible first | exact HB.out | apply below_alloc | apply pw_below_drewN | apply below_drew1 | refine below_set ?_ GE659.out | refine below_set ?_ GE671.out) | exact HB.out)⟩
                              (try clear HO_10)
                              (try clear HO_660012)
                              (try clear HO669)
                              (try clear BK659)
                              (try clear BK671)
                              (try clear HB)
                              generalize (((w41.setCell ⟨gb671, 0, none⟩ (.int .i64 t665)).setCell ⟨gb671, 1, none⟩ (.bool t666)).setCell ⟨gb671, 2, none⟩ (.slice Ao44 t667.length co44)) = w46 at n0_ n1_ n2_ n3_ n4_ n5_ ⊢
                              have HO_10 := n0_
                              have HO_660012 := n1_
                              have HO669 := n2_
                              have BK659 := n3_
                              have BK671 := n4_
                              have HB := n5_
                              clear n0_ n1_ n2_ n3_ n4_ n5_
                              have n0_ := Aside0.mk (Kd.R_drew HO_10.out)
                              have n1_ := Aside0.mk (Kd.R_drew HO_660012.out)
                              have n2_ := Aside0.mk (Kd.R_drew HO669.out)
                              have n3_ := Aside0.mk (blk_drew BK659.out)
                              have n4_ := Aside0.mk (blk_drew BK671.out)
                              have n5_ := Aside0.mk (below_drew1 HB.out)
                              clear HO_10
                              clear HO_660012
                              clear HO669
                              clear BK659
                              clear BK671
                              clear HB
                              have HO_10 := n0_
                              have HO_660012 := n1_
                              have HO669 := n2_
                              have BK659 := n3_
                              have BK671 := n4_
                              have HB := n5_
                              clear n0_ n1_ n2_ n3_ n4_ n5_
                              have p673 : 0 ≤ (x11_2 : Int) := of_decide_eq_true (by first | (with_reducible assumption) | assumption)
                              have q673 : x11_2 < (y662.length : Int) := of_decide_eq_true (by first | (with_reducible assumption) | assumption)
                              obtain ⟨ad673, e673, hx673_0⟩ := Kd.at_int (Kd.R_reads' HO_10.out).2.2 x11_2 p673 q673
                              cases e673
                              replace p673 := eq_true p673
                              replace q673 := eq_true q673
                              refine start_ (n := 13) (S := fun w' => w'.cell? ⟨gb671, 0, none⟩ = some (.int .i64 t665) ∧ w'.cell? ⟨gb671, 1, none⟩ = some (.bool t666) ∧ w'.cell? ⟨gb671, 2, none⟩ = some (.slice Ao44 t667.length co44) ∧ w'.cell? (ad673.add (x11_2).toNat) = some (.int .i64 (rd y662 x11_2))) (ds := []) #[false, false, false, false, false, false, false, false, false, false, false, false, false] (by kernel_rfl) rfl rfl ⟨(blk_cell BK671.out 0).trans rfl, (blk_cell BK671.out 1).trans rfl, (blk_cell BK671.out 2).trans rfl, hx673_0⟩ (fun hHeld => ?_); refine with_tabW bournelaw2_LowPlain.tab21 bournelaw2_LowPlain.bits21 (fun HT_ HW_ => ?_)
                              generalize w46.drew = w47 at HO_10 HO_660012 HO669 BK659 BK671 HB hx673_0 hHeld ⊢
                              refine pure_ (i := 0) (N := some 83) (v := ?_) (a' := ?_) #[true, false, false, false, false, false, false, false, false, false, false, false, false] rfl rfl (any_of HT_.out (by kernel_rfl)) (fun _ _ _ h => h) (Or.inl ⟨by rfl, ?_⟩) ?_ ?_
                              rotate_left
                              · intro w'
                                go_simp
                                with_reducible rfl
                              rotate_left
                              · simp only [Act.put, List.setIfInBounds_toArray, List.set_cons_zero, List.set_cons_succ, i64_w, i32_w]
                                rfl
                              refine one_ (i := 1) (N := some 84) #[true, true, false, false, false, false, false, false, false, false, false, false, false] rfl rfl (one_of HT_.out (by kernel_rfl)) (by decide) (fun K hK => ?_)
                              refine goes_ Try.func20 (by kernel_rfl) rfl #[.int .i64 t670] (by rfl) rfl rfl (by (try simp only [List.map_toArray, List.map_cons, List.map_nil]); first | done | rfl | (simp only [List.length_drop, List.length_take]; rfl)) ?_
                              with_reducible refine (bournelaw0_Num.calls t670 t672 _ A33.out).mono ?_
                              rintro e w' ⟨rfl, ⟨nd, rfl⟩⟩
                              refine ⟨_, rfl, ?_⟩
                              refine hK.out _ _ ⟨(blk_cell BK671.out 0).trans rfl, (blk_cell BK671.out 1).trans rfl, (blk_cell BK671.out 2).trans rfl, hHeld.2.2.2⟩ (fun hHeld => ?_)
                              clear hK K
                              refine norm_ (a' := ?_) ?_ ?_
                              rotate_left
                              · show Act.put _ (some 84) _ = _
                                simp only [Act.put, List.setIfInBounds_toArray, List.set_cons_zero, List.set_cons_succ, i64_w, i32_w]
                                rfl
                              refine pure_ (i := 2) (N := some 85) (v := ?_) (a' := ?_) #[true, true, true, false, false, false, false, false, false, false, false, false, false] rfl rfl (any_of HT_.out (by kernel_rfl)) (fun _ _ _ h => h) (Or.inl ⟨by rfl, ?_⟩) ?_ ?_
                              rotate_left
                              · intro w'
                                go_simp
                                with_reducible rfl
                              rotate_left
                              · simp only [Act.put, List.setIfInBounds_toArray, List.set_cons_zero, List.set_cons_succ, i64_w, i32_w]
                                rfl
                              refine pure_ (i := 3) (N := some 86) (v := ?_) (a' := ?_) #[true, true, true, true, false, false, false, false, false, false, false, false, false] rfl rfl (any_of HT_.out (by kernel_rfl)) (fun _ _ _ h => h) (Or.inl ⟨by rfl, ?_⟩) ?_ ?_
                              rotate_left
                              · intro w'
                                go_simp
                                with_reducible rfl
                              rotate_left
                              · simp only [Act.put, List.setIfInBounds_toArray, List.set_cons_zero, List.set_cons_succ, i64_w, i32_w]
                                rfl
                              refine pure_ (i := 5) (N := some 88) (v := ?_) (a' := ?_) #[true, true, true, true, false, true, false, false, false, false, false, false, false] rfl rfl (any_of HT_.out (by kernel_rfl)) (fun _ _ _ h => h) (Or.inl ⟨by rfl, ?_⟩) ?_ ?_
                              rotate_left
                              · intro w'
                                go_simp
                                with_reducible rfl
                              rotate_left
                              · simp only [Act.put, List.setIfInBounds_toArray, List.set_cons_zero, List.set_cons_succ, i64_w, i32_w]
                                rfl
                              refine pure_ (i := 6) (N := some 89) (v := ?_) (a' := ?_) #[true, true, true, true, false, true, true, false, false, false, false, false, false] rfl rfl (any_of HT_.out (by kernel_rfl)) (fun _ _ _ h => h) (Or.inl ⟨by rfl, ?_⟩) ?_ ?_
                              rotate_left
                              · intro w'
                                go_simp
                                with_reducible rfl
                              rotate_left
                              · simp only [Act.put, List.setIfInBounds_toArray, List.set_cons_zero, List.set_cons_succ, i64_w, i32_w]
                                rfl
                              refine pure_ (i := 7) (N := some 90) (v := ?_) (a' := ?_) #[true, true, true, true, false, true, true, true, false, false, false, false, false] rfl rfl (any_of HT_.out (by kernel_rfl)) (fun _ _ _ h => h) (Or.inl ⟨by rfl, ?_⟩) ?_ ?_
                              rotate_left
                              · intro w'
                                go_simp
                                with_reducible rfl
                              rotate_left
                              · simp only [Act.put, List.setIfInBounds_toArray, List.set_cons_zero, List.set_cons_succ, i64_w, i32_w]
                                rfl
                              refine take_ (i := 4) (N := some 87) (v := ?_) (a' := ?_) #[true, true, true, true, true, true, true, true, false, false, false, false, false] rfl rfl (take_ofW HT_.out HW_.out (by kernel_rfl)) (fun _ _ _ h => h) (Or.inl ⟨by rfl, ?_⟩) hHeld ?_ ?_
                              rotate_left
                              · rintro w' ⟨s0, s1, s2, s3⟩
                                go_simp
                                with_reducible rfl
                              rotate_left
                              · simp only [Act.put, List.setIfInBounds_toArray, List.set_cons_zero, List.set_cons_succ, i64_w, i32_w]
                                rfl
                              refine take_ (i := 8) (N := some 91) (v := ?_) (a' := ?_) #[true, true, true, true, true, true, true, true, true, false, false, false, false] rfl rfl (take_ofW HT_.out HW_.out (by kernel_rfl)) (fun _ _ _ h => h) (Or.inl ⟨by rfl, ?_⟩) hHeld ?_ ?_
                              rotate_left
                              · rintro w' ⟨s0, s1, s2, s3⟩
                                go_simp
                                with_reducible rfl
                              rotate_left
                              · simp only [Act.put, List.setIfInBounds_toArray, List.set_cons_zero, List.set_cons_succ, i64_w, i32_w]
                                rfl
                              refine pure_ (i := 9) (N := some 92) (v := ?_) (a' := ?_) #[true, true, true, true, true, true, true, true, true, true, false, false, false] rfl rfl (any_of HT_.out (by kernel_rfl)) (fun _ _ _ h => h) (Or.inl ⟨by rfl, ?_⟩) ?_ ?_
                              rotate_left
                              · intro w'
                                go_simp
                                with_reducible rfl
                              rotate_left
                              · simp only [Act.put, List.setIfInBounds_toArray, List.set_cons_zero, List.set_cons_succ, i64_w, i32_w]
                                rfl
                              refine one_ (i := 10) (N := some 93) #[true, true, true, true, true, true, true, true, true, true, true, false, false] rfl rfl (one_of HT_.out (by kernel_rfl)) (by decide) (fun K hK => ?_)
                              refine goes_ Try.func19 (by kernel_rfl) rfl #[.agg #[.int .i64 t665, .bool t666, .slice Ao44 t667.length co44], .agg #[.int .i64 (rd y662 x11_2), .bool false, .slice none 0 0]] (by rfl) rfl rfl (by (try simp only [List.map_toArray, List.map_cons, List.map_nil]); first | done | rfl | (simp only [List.length_drop, List.length_take]; rfl)) ?_
                              refine (bournelaw0_SameOut.calls k2 t665 t666 _ _ t667 (rd y662 x11_2) false _ _ ([] : List Int) true _ ?side1 ?side2 ?side3 ?side4 A37.out).mono ?_
                              (case side1 => repeat (first | exact (Kd.R_reads' HO669.out).2.2 | (with_reducible refine Kd.C_alloc ?_ _) | (with_reducible refine Kd.C_drewN ?_ _) | (with_reducible refine Kd.C_drew ?_)))
                              (case side2 => exact (Kd.R_reads' HO669.out).2.1)
                              (case side3 => exact Kd.C_nil _ _)
                              (case side4 => exact Nat.le_refl _)
                              rintro e w48 ⟨rfl, hb⟩
                              have HS3_ := (hb.cell (World.block_lt_of_cell? _ _ (hHeld.2.2.2))).trans (hHeld.2.2.2)
                              refine ⟨_, rfl, ?_⟩
                              have n0_ := Aside0.mk (Kd.R_below (by (with_reducible repeat (first | apply Kd.R_alloc | apply Kd.R_drewN | apply Kd.R_drew)); exact HO_10.out) hb)
                              have n1_ := Aside0.mk (Kd.R_below (by (with_reducible repeat (first | apply Kd.R_alloc | apply Kd.R_drewN | apply Kd.R_drew)); exact HO_660012.out) hb)
                              have n2_ := Aside0.mk (Kd.R_below (by (with_reducible repeat (first | apply Kd.R_alloc | apply Kd.R_drewN | apply Kd.R_drew)); exact HO669.out) hb)
                              have n3_ := Aside0.mk (blk_below (g := gb659) (o := .cells #[.int .i64 t644, .int .i64 t645, .int .i64 t646, .int .i64 t647, .int .i64 t648, .int .i64 t649, .int .i64 t650, .int .i64 t651, .int .i64 t652, .int .i64 t653, .int .i64 t654, .int .i64 t655, .slice Ao26 t656.length co26] 28 (0, 0)) (by (with_reducible repeat (first | refine blk_drewN ?_ _ | refine blk_drew ?_ | refine blk_alloc ?_ _)); exact BK659.out) hb)
                              have n4_ := Aside0.mk (blk_below (g := gb671) (o := .cells #[.int .i64 t665, .bool t666, .slice Ao44 t667.length co44] 31 (0, 0)) (by (with_reducible repeat (first | refine blk_drewN ?_ _ | refine blk_drew ?_ | refine blk_alloc ?_ _)); exact BK671.out) hb)
                              have n5_ := Aside0.mk (below_step (by repeat (first | (with_reducible first | exact HB.out | apply below_alloc | apply pw_below_drewN | apply below_drew1 | refine below_set ?_ GE659.out | refine below_set ?_ GE671.out) | exact HB.out)) hb)
                              clear HO_10
                              clear HO_660012
                              clear HO669
                              clear BK659
                              clear BK671
                              clear HB
                              have HO_10 := n0_
                              have HO_660012 := n1_
                              have HO669 := n2_
                              have BK659 := n3_
                              have BK671 := n4_
                              have HB := n5_
                              clear n0_ n1_ n2_ n3_ n4_ n5_
                              (try clear hb)
                              (try clear hb2)
                              (try clear hk)
                              (try clear hi)
                              refine hK.out _ _ ⟨(blk_cell BK671.out 0).trans rfl, (blk_cell BK671.out 1).trans rfl, (blk_cell BK671.out 2).trans rfl, HS3_⟩ (fun hHeld => ?_)
                              clear hK K
                              refine norm_ (a' := ?_) ?_ ?_
                              rotate_left
                              · show Act.put _ (some 93) _ = _
                                simp only [Act.put, List.setIfInBounds_toArray, List.set_cons_zero, List.set_cons_succ, i64_w, i32_w]
                                rfl
                              refine pure_ (i := 11) (N := some 94) (v := ?_) (a' := ?_) #[true, true, true, true, true, true, true, true, true, true, true, true, false] rfl rfl (any_of HT_.out (by kernel_rfl)) (fun _ _ _ h => h) (Or.inl ⟨by rfl, ?_⟩) ?_ ?_
                              rotate_left
                              · intro w'
                                go_simp
                                with_reducible rfl
                              rotate_left
                              · simp only [Act.put, List.setIfInBounds_toArray, List.set_cons_zero, List.set_cons_succ, i64_w, i32_w]
                                rfl
                              refine pure_ (i := 12) (N := some 95) (v := ?_) (a' := ?_) #[true, true, true, true, true, true, true, true, true, true, true, true, true] rfl rfl (any_of HT_.out (by kernel_rfl)) (fun _ _ _ h => h) (Or.inl ⟨by rfl, ?_⟩) ?_ ?_
                              rotate_left
                              · intro w'
                                go_simp
                                with_reducible rfl
                              rotate_left
                              · simp only [Act.put, List.setIfInBounds_toArray, List.set_cons_zero, List.set_cons_succ, i64_w, i32_w]
                                rfl
                              refine done_ (done_of HT_.out (by kernel_rfl)) ?_
                              try go_wp2
                              go_roundg k2
                              case measure => have := HJ3.out; have := HK2.out; omega
                              case rel => exact ⟨(wrap64 (x11_2 + 1)), (by first | rfl | (simp; done) | (simp [*]; done)), H', ⟨by have := HJ3.out; have := HK2.out; omega⟩, ⟨by (with_reducible repeat (first | apply Kd.R_alloc | apply Kd.R_drewN | apply Kd.R_drew)); exact Kd.R_mono HO_10.out (fun _ hk => hk.1)⟩, ⟨by (with_reducible repeat (first | apply Kd.R_alloc | apply Kd.R_drewN | apply Kd.R_drew)); exact Kd.R_mono HO_660012.out (fun _ hk => hk.1)⟩, ⟨by (with_reducible repeat (first | refine blk_drewN ?_ _ | refine blk_drew ?_ | refine blk_alloc ?_ _)); exact BK659.out⟩, ⟨by repeat (first | (with_reducible first | exact HB.out | apply below_alloc | apply pw_below_drewN | apply below_drew1 | refine below_set ?_ GE659.out | refine below_set ?_ GE671.out) | exact HB.out)⟩⟩
                            · replace c38 := Bool.eq_false_iff.mpr c38
                              subst c38
                              have H1 : (some false) = some r := by rw [if_neg (show ¬ (false = true) by decide)] at H; exact H
                              clear H
                              have H := H1
                              clear H1
                              obtain rfl := Option.some.inj H
                              have hcz49_0 : wr.cell? ⟨gb659, 0, none⟩ = some (.int .i64 t644) := (blk_cell BK659.out 0).trans rfl
                              have hcz49_1 : wr.cell? ⟨gb659, 1, none⟩ = some (.int .i64 t645) := (blk_cell BK659.out 1).trans rfl
                              have hcz49_2 : wr.cell? ⟨gb659, 2, none⟩ = some (.int .i64 t646) := (blk_cell BK659.out 2).trans rfl
                              have hcz49_3 : wr.cell? ⟨gb659, 3, none⟩ = some (.int .i64 t647) := (blk_cell BK659.out 3).trans rfl
                              have hcz49_4 : wr.cell? ⟨gb659, 4, none⟩ = some (.int .i64 t648) := (blk_cell BK659.out 4).trans rfl
                              have hcz49_5 : wr.cell? ⟨gb659, 5, none⟩ = some (.int .i64 t649) := (blk_cell BK659.out 5).trans rfl
                              have hcz49_6 : wr.cell? ⟨gb659, 6, none⟩ = some (.int .i64 t650) := (blk_cell BK659.out 6).trans rfl
                              have hcz49_7 : wr.cell? ⟨gb659, 7, none⟩ = some (.int .i64 t651) := (blk_cell BK659.out 7).trans rfl
                              have hcz49_8 : wr.cell? ⟨gb659, 8, none⟩ = some (.int .i64 t652) := (blk_cell BK659.out 8).trans rfl
                              have hcz49_9 : wr.cell? ⟨gb659, 9, none⟩ = some (.int .i64 t653) := (blk_cell BK659.out 9).trans rfl
                              have hcz49_10 : wr.cell? ⟨gb659, 10, none⟩ = some (.int .i64 t654) := (blk_cell BK659.out 10).trans rfl
                              have hcz49_11 : wr.cell? ⟨gb659, 11, none⟩ = some (.int .i64 t655) := (blk_cell BK659.out 11).trans rfl
                              have hcz49_12 : wr.cell? ⟨gb659, 12, none⟩ = some (.slice Ao26 t656.length co26) := (blk_cell BK659.out 12).trans rfl
                              have hfz49_0 := blk_frozen BK659.out 0
                              have hfz49_1 := blk_frozen BK659.out 1
                              have hfz49_2 := blk_frozen BK659.out 2
                              have hfz49_3 := blk_frozen BK659.out 3
                              have hfz49_4 := blk_frozen BK659.out 4
                              have hfz49_5 := blk_frozen BK659.out 5
                              have hfz49_6 := blk_frozen BK659.out 6
                              have hfz49_7 := blk_frozen BK659.out 7
                              have hfz49_8 := blk_frozen BK659.out 8
                              have hfz49_9 := blk_frozen BK659.out 9
                              have hfz49_10 := blk_frozen BK659.out 10
                              have hfz49_11 := blk_frozen BK659.out 11
                              have hfz49_12 := blk_frozen BK659.out 12
                              try go_wp2_with (first | ((with_reducible refine gate_callee (f := 17) rfl ?_); refine goesL_ (some 80) rfl rfl Try.func17 (by kernel_rfl) rfl #[.agg #[.int .i64 0, .int .i64 x11_2, .int .i64 0, .int .i64 0, .slice none 0 0, .int .i64 0], .agg #[.int .i64 t644, .int .i64 t645, .int .i64 t646, .int .i64 t647, .int .i64 t648, .int .i64 t649, .int .i64 t650, .int .i64 t651, .int .i64 t652, .int .i64 t653, .int .i64 t654, .int .i64 t655, .slice Ao26 t656.length co26]] rfl (by (try simp only [List.map_toArray, List.map_cons, List.map_nil]); first | done | rfl | (simp only [List.length_drop, List.length_take]; rfl)) ?_; (refine (low_Value.calls 0 x11_2 0 0 _ _ ([] : List Int) 0 t644 t645 t646 t647 t648 t649 t650 t651 t652 t653 t654 t655 _ _ t656 t665 t666 t667 t670 _ ?side1 ?side2 ?side3 ?side4 A32.out).mono ?_); (case side1 => exact Kd.C_nil _ _); (case side2 => exact Nat.le_refl _); (case side3 => repeat (first | exact (Kd.R_reads' HO_660012.out).2.2 | (with_reducible refine Kd.C_alloc ?_ _) | (with_reducible refine Kd.C_drewN ?_ _) | (with_reducible refine Kd.C_drew ?_))); (case side4 => exact (Kd.R_reads' HO_660012.out).2.1); rintro e w50 ⟨v668, rfl, ho0, hb⟩; refine ⟨_, rfl, ?_⟩; have n0_ := Aside0.mk (Kd.R_elder' (by (with_reducible repeat (first | apply Kd.R_alloc | apply Kd.R_drewN | apply Kd.R_drew)); exact HO_10.out) (Kd.R_base ho0) hb); have n1_ := Aside0.mk (Kd.R_elder' (by (with_reducible repeat (first | apply Kd.R_alloc | apply Kd.R_drewN | apply Kd.R_drew)); exact HO_660012.out) (Kd.R_base ho0) hb); have n2_ := Aside0.mk (Kd.R_lower (Kd.R_new' (Kd.R_new' ho0 (Kd.R_lt (by (with_reducible repeat (first | apply Kd.R_alloc | apply Kd.R_drewN | apply Kd.R_drew)); exact HO_10.out))) (Kd.R_lt (by (with_reducible repeat (first | apply Kd.R_alloc | apply Kd.R_drewN | apply Kd.R_drew)); exact HO_660012.out))) (below_size (by repeat (first | (with_reducible first | exact HB.out | apply below_alloc | apply pw_below_drewN | apply below_drew1 | refine below_set ?_ GE659.out) | exact HB.out)))); have n3_ := Aside0.mk (blk_below (g := gb659) (o := .cells #[.int .i64 t644, .int .i64 t645, .int .i64 t646, .int .i64 t647, .int .i64 t648, .int .i64 t649, .int .i64 t650, .int .i64 t651, .int .i64 t652, .int .i64 t653, .int .i64 t654, .int .i64 t655, .slice Ao26 t656.length co26] 28 (0, 0)) (by (with_reducible repeat (first | refine blk_drewN ?_ _ | refine blk_drew ?_ | refine blk_alloc ?_ _)); exact BK659.out) hb); have n4_ := Aside0.mk (below_step (by repeat (first | (with_reducible first | exact HB.out | apply below_alloc | apply pw_below_drewN | apply below_drew1 | refine below_set ?_ GE659.out) | exact HB.out)) hb); clear HO_10; clear HO_660012; clear BK659; clear HB; have HO_10 := n0_; have HO_660012 := n1_; have HO669 := n2_; have BK659 := n3_; have HB := n4_; clear n0_ n1_ n2_ n3_ n4_; (try clear hb); (try clear hb2); (try clear hk); (try clear hi); (try clear ho0)) | ((with_reducible refine gate_dst (N := 12) rfl ?_); refine box_event ?hg (N := 12) ?hd (cs := #[.int .i64 0, .bool false, .slice none 0 0]) (t := 31) ?hr ?_; (case hd => rfl); (case hg => rfl); (case hr => first | (go_simp; done) | (go_simp; rfl)); intro gb671 hg w51 hbox hb; have n0_ := Aside0.mk (Kd.R_below (by (with_reducible repeat (first | apply Kd.R_alloc | apply Kd.R_drewN | apply Kd.R_drew)); exact HO_10.out) hb); have n1_ := Aside0.mk (Kd.R_below (by (with_reducible repeat (first | apply Kd.R_alloc | apply Kd.R_drewN | apply Kd.R_drew)); exact HO_660012.out) hb); have n2_ := Aside0.mk (Kd.R_below (by (with_reducible repeat (first | apply Kd.R_alloc | apply Kd.R_drewN | apply Kd.R_drew)); exact HO669.out) hb); have n3_ := Aside0.mk (blk_below (g := gb659) (o := .cells #[.int .i64 t644, .int .i64 t645, .int .i64 t646, .int .i64 t647, .int .i64 t648, .int .i64 t649, .int .i64 t650, .int .i64 t651, .int .i64 t652, .int .i64 t653, .int .i64 t654, .int .i64 t655, .slice Ao26 t656.length co26] 28 (0, 0)) (by (with_reducible repeat (first | refine blk_drewN ?_ _ | refine blk_drew ?_ | refine blk_alloc ?_ _)); exact BK659.out) hb); have n4_ := Aside0.mk (below_step (by repeat (first | (with_reducible first | exact HB.out | apply below_alloc | apply pw_below_drewN | apply below_drew1 | refine below_set ?_ GE659.out) | exact HB.out)) hb); have n5_ := Aside0.mk (hbox); have n6_ := Aside0.mk ((by rw [hg]; exact (below_size (by repeat (first | (with_reducible first | exact HB.out | apply below_alloc | apply pw_below_drewN | apply below_drew1 | refine below_set ?_ GE659.out) | exact HB.out))) : w.heap.size ≤ gb671)); have n7_ := Aside0.mk ((by rw [hg]; exact (below_size (by repeat (first | (with_reducible first | exact HB.out | apply below_alloc | apply pw_below_drewN | apply below_drew1 | refine below_set ?_ GE659.out) | exact HB.out))) : w.heap.size ≤ gb671)); have n8_ := Aside0.mk ((by rw [hg]; exact Nat.ne_of_lt (blk_lt (g := gb659) (o := .cells #[.int .i64 t644, .int .i64 t645, .int .i64 t646, .int .i64 t647, .int .i64 t648, .int .i64 t649, .int .i64 t650, .int .i64 t651, .int .i64 t652, .int .i64 t653, .int .i64 t654, .int .i64 t655, .slice Ao26 t656.length co26] 28 (0, 0)) (by (with_reducible repeat (first | refine blk_drewN ?_ _ | refine blk_drew ?_ | refine blk_alloc ?_ _)); exact BK659.out)) : gb659 ≠ gb671)); have n9_ := Aside0.mk ((by rw [hg]; exact Nat.ne_of_gt (blk_lt (g := gb659) (o := .cells #[.int .i64 t644, .int .i64 t645, .int .i64 t646, .int .i64 t647, .int .i64 t648, .int .i64 t649, .int .i64 t650, .int .i64 t651, .int .i64 t652, .int .i64 t653, .int .i64 t654, .int .i64 t655, .slice Ao26 t656.length co26] 28 (0, 0)) (by (with_reducible repeat (first | refine blk_drewN ?_ _ | refine blk_drew ?_ | refine blk_alloc ?_ _)); exact BK659.out)) : gb671 ≠ gb659)); clear HO_10; clear HO_660012; clear HO669; clear BK659; clear HB; have HO_10 := n0_; have HO_660012 := n1_; have HO669 := n2_; have BK659 := n3_; have HB := n4_; have BK671 := n5_; have GW671 := n6_; have GE671 := n7_; have NB659_671 := n8_; have NB671_659 := n9_; clear n0_ n1_ n2_ n3_ n4_ n5_ n6_ n7_ n8_ n9_; clear hb hbox hg; have hnb52 := NB671_659.out; have hnc52 := NB659_671.out; have hcz53_0 : w51.cell? ⟨gb671, 0, none⟩ = some (.int .i64 0) := (blk_cell BK671.out 0).trans rfl; have hcz53_1 : w51.cell? ⟨gb671, 1, none⟩ = some (.bool false) := (blk_cell BK671.out 1).trans rfl; have hcz53_2 : w51.cell? ⟨gb671, 2, none⟩ = some (.slice none 0 0) := (blk_cell BK671.out 2).trans rfl; have hfz53_0 := blk_frozen BK671.out 0; have hfz53_1 := blk_frozen BK671.out 1; have hfz53_2 := blk_frozen BK671.out 2; obtain ⟨Ao54, co54, eo54⟩ := Kd.R_slice HO669.out; subst eo54))
                              obtain ⟨Ao55, co55, eo55⟩ := Kd.R_slice HO_10.out
                              subst eo55
                              have n0_ : Aside0 (Kd.R (Kd.int .i64) 3 (((w51.setCell ⟨gb671, 0, none⟩ (.int .i64 t665)).setCell ⟨gb671, 1, none⟩ (.bool t666)).setCell ⟨gb671, 2, none⟩ (.slice Ao54 t667.length co54)) w.heap.size (fun k_ => some k_ ≠ (.slice Ao26 t656.length co26 : Value).ownBlock ∧ some k_ ≠ (.slice Ao54 t667.length co54 : Value).ownBlock) (.slice Ao55 y662.length co55) y662) := ⟨by (with_reducible repeat (first | apply Kd.R_alloc | apply Kd.R_drewN | apply Kd.R_drew)); exact Kd.R_mono (Kd.R_far (p := ⟨gb671, 2, none⟩) (Kd.R_far (p := ⟨gb671, 1, none⟩) (Kd.R_far (p := ⟨gb671, 0, none⟩) (Kd.R_types HO_10.out BK671.out (by decide)) (fun _ hk => hk.2) (.int .i64 t665)) (fun _ hk => hk.2) (.bool t666)) (fun _ hk => hk.2) (.slice Ao54 t667.length co54)) (fun _ hk => ⟨hk.1.1, hk.1.2⟩)⟩
                              have n1_ : Aside0 (Kd.R (Kd.int .i64) 3 (((w51.setCell ⟨gb671, 0, none⟩ (.int .i64 t665)).setCell ⟨gb671, 1, none⟩ (.bool t666)).setCell ⟨gb671, 2, none⟩ (.slice Ao54 t667.length co54)) w.heap.size (fun k_ => some k_ ≠ (.slice Ao55 y662.length co55 : Value).ownBlock ∧ some k_ ≠ (.slice Ao54 t667.length co54 : Value).ownBlock) (.slice Ao26 t656.length co26) t656) := ⟨by (with_reducible repeat (first | apply Kd.R_alloc | apply Kd.R_drewN | apply Kd.R_drew)); exact Kd.R_mono (Kd.R_far (p := ⟨gb671, 2, none⟩) (Kd.R_far (p := ⟨gb671, 1, none⟩) (Kd.R_far (p := ⟨gb671, 0, none⟩) (Kd.R_types HO_660012.out BK671.out (by decide)) (fun _ hk => hk.2) (.int .i64 t665)) (fun _ hk => hk.2) (.bool t666)) (fun _ hk => hk.2) (.slice Ao54 t667.length co54)) (fun _ hk => ⟨hk.1.1, hk.1.2⟩)⟩
                              have n2_ : Aside0 (Kd.R (Kd.int .i64) 3 (((w51.setCell ⟨gb671, 0, none⟩ (.int .i64 t665)).setCell ⟨gb671, 1, none⟩ (.bool t666)).setCell ⟨gb671, 2, none⟩ (.slice Ao54 t667.length co54)) w.heap.size (fun k_ => some k_ ≠ (.slice Ao55 y662.length co55 : Value).ownBlock ∧ some k_ ≠ (.slice Ao26 t656.length co26 : Value).ownBlock) (.slice Ao54 t667.length co54) t667) := ⟨by (with_reducible repeat (first | apply Kd.R_alloc | apply Kd.R_drewN | apply Kd.R_drew)); exact Kd.R_mono (Kd.R_far (p := ⟨gb671, 2, none⟩) (Kd.R_far (p := ⟨gb671, 1, none⟩) (Kd.R_far (p := ⟨gb671, 0, none⟩) (Kd.R_types HO669.out BK671.out (by decide)) (fun _ hk => hk.2) (.int .i64 t665)) (fun _ hk => hk.2) (.bool t666)) (fun _ hk => hk.2) (.slice Ao54 t667.length co54)) (fun _ hk => ⟨hk.1.1.2, hk.1.2⟩)⟩
                              have n3_ : Aside0 ((((w51.setCell ⟨gb671, 0, none⟩ (.int .i64 t665)).setCell ⟨gb671, 1, none⟩ (.bool t666)).setCell ⟨gb671, 2, none⟩ (.slice Ao54 t667.length co54)).heap[gb659]? = some (.cells #[.int .i64 t644, .int .i64 t645, .int .i64 t646, .int .i64 t647, .int .i64 t648, .int .i64 t649, .int .i64 t650, .int .i64 t651, .int .i64 t652, .int .i64 t653, .int .i64 t654, .int .i64 t655, .slice Ao26 t656.length co26] 28 (0, 0))) := ⟨by (with_reducible repeat (first | refine blk_drewN ?_ _ | refine blk_drew ?_ | refine blk_alloc ?_ _)); refine blk_far ?_ NB659_671.out _; (with_reducible repeat (first | refine blk_drewN ?_ _ | refine blk_drew ?_ | refine blk_alloc ?_ _)); refine blk_far ?_ NB659_671.out _; (with_reducible repeat (first | refine blk_drewN ?_ _ | refine blk_drew ?_ | refine blk_alloc ?_ _)); refine blk_far ?_ NB659_671.out _; (with_reducible repeat (first | refine blk_drewN ?_ _ | refine blk_drew ?_ | refine blk_alloc ?_ _)); exact BK659.out⟩
                              have n4_ : Aside0 ((((w51.setCell ⟨gb671, 0, none⟩ (.int .i64 t665)).setCell ⟨gb671, 1, none⟩ (.bool t666)).setCell ⟨gb671, 2, none⟩ (.slice Ao54 t667.length co54)).heap[gb671]? = some (.cells #[.int .i64 t665, .bool t666, .slice Ao54 t667.length co54] 31 (0, 0))) := ⟨by (with_reducible repeat (first | refine blk_drewN ?_ _ | refine blk_drew ?_ | refine blk_alloc ?_ _)); refine blk_put (cs := #[.int .i64 t665, .bool t666, .slice none 0 0]) ?_ 2 _ rfl; (with_reducible repeat (first | refine blk_drewN ?_ _ | refine blk_drew ?_ | refine blk_alloc ?_ _)); refine blk_put (cs := #[.int .i64 t665, .bool false, .slice none 0 0]) ?_ 1 _ rfl; (with_reducible repeat (first | refine blk_drewN ?_ _ | refine blk_drew ?_ | refine blk_alloc ?_ _)); refine blk_put (cs := #[.int .i64 0, .bool false, .slice none 0 0]) ?_ 0 _ rfl; (with_reducible repeat (first | refine blk_drewN ?_ _ | refine blk_drew ?_ | refine blk_alloc ?_ _)); exact BK671.out⟩
                              have n5_ : Aside0 (Below w.heap.size w (((w51.setCell ⟨gb671, 0, none⟩ (.int .i64 t665)).setCell ⟨gb671, 1, none⟩ (.bool t666)).setCell ⟨gb671, 2, none⟩ (.slice Ao54 t667.length co54))) := ⟨by repeat (first | (with_reducible first | exact HB.out | apply below_alloc | apply pw_below_drewN | apply below_drew1 | refine below_set ?_ GE659.out | refine below_set ?_ GE671.out) | exact HB.out)⟩
                              (try clear HO_10)
                              (try clear HO_660012)
                              (try clear HO669)
                              (try clear BK659)
                              (try clear BK671)
                              (try clear HB)
                              generalize (((w51.setCell ⟨gb671, 0, none⟩ (.int .i64 t665)).setCell ⟨gb671, 1, none⟩ (.bool t666)).setCell ⟨gb671, 2, none⟩ (.slice Ao54 t667.length co54)) = w56 at n0_ n1_ n2_ n3_ n4_ n5_ ⊢
                              have HO_10 := n0_
                              have HO_660012 := n1_
                              have HO669 := n2_
                              have BK659 := n3_
                              have BK671 := n4_
                              have HB := n5_
                              clear n0_ n1_ n2_ n3_ n4_ n5_
                              have n0_ := Aside0.mk (Kd.R_drew HO_10.out)
                              have n1_ := Aside0.mk (Kd.R_drew HO_660012.out)
                              have n2_ := Aside0.mk (Kd.R_drew HO669.out)
                              have n3_ := Aside0.mk (blk_drew BK659.out)
                              have n4_ := Aside0.mk (blk_drew BK671.out)
                              have n5_ := Aside0.mk (below_drew1 HB.out)
                              clear HO_10
                              clear HO_660012
                              clear HO669
                              clear BK659
                              clear BK671
                              clear HB
                              have HO_10 := n0_
                              have HO_660012 := n1_
                              have HO669 := n2_
                              have BK659 := n3_
                              have BK671 := n4_
                              have HB := n5_
                              clear n0_ n1_ n2_ n3_ n4_ n5_
                              have p673 : 0 ≤ (x11_2 : Int) := of_decide_eq_true (by first | (with_reducible assumption) | assumption)
                              have q673 : x11_2 < (y662.length : Int) := of_decide_eq_true (by first | (with_reducible assumption) | assumption)
                              obtain ⟨ad673, e673, hx673_0⟩ := Kd.at_int (Kd.R_reads' HO_10.out).2.2 x11_2 p673 q673
                              cases e673
                              replace p673 := eq_true p673
                              replace q673 := eq_true q673
                              refine start_ (n := 13) (S := fun w' => w'.cell? ⟨gb671, 0, none⟩ = some (.int .i64 t665) ∧ w'.cell? ⟨gb671, 1, none⟩ = some (.bool t666) ∧ w'.cell? ⟨gb671, 2, none⟩ = some (.slice Ao54 t667.length co54) ∧ w'.cell? (ad673.add (x11_2).toNat) = some (.int .i64 (rd y662 x11_2))) (ds := []) #[false, false, false, false, false, false, false, false, false, false, false, false, false] (by kernel_rfl) rfl rfl ⟨(blk_cell BK671.out 0).trans rfl, (blk_cell BK671.out 1).trans rfl, (blk_cell BK671.out 2).trans rfl, hx673_0⟩ (fun hHeld => ?_); refine with_tabW bournelaw2_LowPlain.tab21 bournelaw2_LowPlain.bits21 (fun HT_ HW_ => ?_)
                              generalize w56.drew = w57 at HO_10 HO_660012 HO669 BK659 BK671 HB hx673_0 hHeld ⊢
                              refine pure_ (i := 0) (N := some 83) (v := ?_) (a' := ?_) #[true, false, false, false, false, false, false, false, false, false, false, false, false] rfl rfl (any_of HT_.out (by kernel_rfl)) (fun _ _ _ h => h) (Or.inl ⟨by rfl, ?_⟩) ?_ ?_
                              rotate_left
                              · intro w'
                                go_simp
                                with_reducible rfl
                              rotate_left
                              · simp only [Act.put, List.setIfInBounds_toArray, List.set_cons_zero, List.set_cons_succ, i64_w, i32_w]
                                rfl
                              refine one_ (i := 1) (N := some 84) #[true, true, false, false, false, false, false, false, false, false, false, false, false] rfl rfl (one_of HT_.out (by kernel_rfl)) (by decide) (fun K hK => ?_)
                              refine goes_ Try.func20 (by kernel_rfl) rfl #[.int .i64 t670] (by rfl) rfl rfl (by (try simp only [List.map_toArray, List.map_cons, List.map_nil]); first | done | rfl | (simp only [List.length_drop, List.length_take]; rfl)) ?_
                              with_reducible refine (bournelaw0_Num.calls t670 t672 _ A33.out).mono ?_
                              rintro e w' ⟨rfl, ⟨nd, rfl⟩⟩
                              refine ⟨_, rfl, ?_⟩
                              refine hK.out _ _ ⟨(blk_cell BK671.out 0).trans rfl, (blk_cell BK671.out 1).trans rfl, (blk_cell BK671.out 2).trans rfl, hHeld.2.2.2⟩ (fun hHeld => ?_)
                              clear hK K
                              refine norm_ (a' := ?_) ?_ ?_
                              rotate_left
                              · show Act.put _ (some 84) _ = _
                                simp only [Act.put, List.setIfInBounds_toArray, List.set_cons_zero, List.set_cons_succ, i64_w, i32_w]
                                rfl
                              refine pure_ (i := 2) (N := some 85) (v := ?_) (a' := ?_) #[true, true, true, false, false, false, false, false, false, false, false, false, false] rfl rfl (any_of HT_.out (by kernel_rfl)) (fun _ _ _ h => h) (Or.inl ⟨by rfl, ?_⟩) ?_ ?_
                              rotate_left
                              · intro w'
                                go_simp
                                with_reducible rfl
                              rotate_left
                              · simp only [Act.put, List.setIfInBounds_toArray, List.set_cons_zero, List.set_cons_succ, i64_w, i32_w]
                                rfl
                              refine pure_ (i := 3) (N := some 86) (v := ?_) (a' := ?_) #[true, true, true, true, false, false, false, false, false, false, false, false, false] rfl rfl (any_of HT_.out (by kernel_rfl)) (fun _ _ _ h => h) (Or.inl ⟨by rfl, ?_⟩) ?_ ?_
                              rotate_left
                              · intro w'
                                go_simp
                                with_reducible rfl
                              rotate_left
                              · simp only [Act.put, List.setIfInBounds_toArray, List.set_cons_zero, List.set_cons_succ, i64_w, i32_w]
                                rfl
                              refine pure_ (i := 5) (N := some 88) (v := ?_) (a' := ?_) #[true, true, true, true, false, true, false, false, false, false, false, false, false] rfl rfl (any_of HT_.out (by kernel_rfl)) (fun _ _ _ h => h) (Or.inl ⟨by rfl, ?_⟩) ?_ ?_
                              rotate_left
                              · intro w'
                                go_simp
                                with_reducible rfl
                              rotate_left
                              · simp only [Act.put, List.setIfInBounds_toArray, List.set_cons_zero, List.set_cons_succ, i64_w, i32_w]
                                rfl
                              refine pure_ (i := 6) (N := some 89) (v := ?_) (a' := ?_) #[true, true, true, true, false, true, true, false, false, false, false, false, false] rfl rfl (any_of HT_.out (by kernel_rfl)) (fun _ _ _ h => h) (Or.inl ⟨by rfl, ?_⟩) ?_ ?_
                              rotate_left
                              · intro w'
                                go_simp
                                with_reducible rfl
                              rotate_left
                              · simp only [Act.put, List.setIfInBounds_toArray, List.set_cons_zero, List.set_cons_succ, i64_w, i32_w]
                                rfl
                              refine pure_ (i := 7) (N := some 90) (v := ?_) (a' := ?_) #[true, true, true, true, false, true, true, true, false, false, false, false, false] rfl rfl (any_of HT_.out (by kernel_rfl)) (fun _ _ _ h => h) (Or.inl ⟨by rfl, ?_⟩) ?_ ?_
                              rotate_left
                              · intro w'
                                go_simp
                                with_reducible rfl
                              rotate_left
                              · simp only [Act.put, List.setIfInBounds_toArray, List.set_cons_zero, List.set_cons_succ, i64_w, i32_w]
                                rfl
                              refine take_ (i := 4) (N := some 87) (v := ?_) (a' := ?_) #[true, true, true, true, true, true, true, true, false, false, false, false, false] rfl rfl (take_ofW HT_.out HW_.out (by kernel_rfl)) (fun _ _ _ h => h) (Or.inl ⟨by rfl, ?_⟩) hHeld ?_ ?_
                              rotate_left
                              · rintro w' ⟨s0, s1, s2, s3⟩
                                go_simp
                                with_reducible rfl
                              rotate_left
                              · simp only [Act.put, List.setIfInBounds_toArray, List.set_cons_zero, List.set_cons_succ, i64_w, i32_w]
                                rfl
                              refine take_ (i := 8) (N := some 91) (v := ?_) (a' := ?_) #[true, true, true, true, true, true, true, true, true, false, false, false, false] rfl rfl (take_ofW HT_.out HW_.out (by kernel_rfl)) (fun _ _ _ h => h) (Or.inl ⟨by rfl, ?_⟩) hHeld ?_ ?_
                              rotate_left
                              · rintro w' ⟨s0, s1, s2, s3⟩
                                go_simp
                                with_reducible rfl
                              rotate_left
                              · simp only [Act.put, List.setIfInBounds_toArray, List.set_cons_zero, List.set_cons_succ, i64_w, i32_w]
                                rfl
                              refine pure_ (i := 9) (N := some 92) (v := ?_) (a' := ?_) #[true, true, true, true, true, true, true, true, true, true, false, false, false] rfl rfl (any_of HT_.out (by kernel_rfl)) (fun _ _ _ h => h) (Or.inl ⟨by rfl, ?_⟩) ?_ ?_
                              rotate_left
                              · intro w'
                                go_simp
                                with_reducible rfl
                              rotate_left
                              · simp only [Act.put, List.setIfInBounds_toArray, List.set_cons_zero, List.set_cons_succ, i64_w, i32_w]
                                rfl
                              refine one_ (i := 10) (N := some 93) #[true, true, true, true, true, true, true, true, true, true, true, false, false] rfl rfl (one_of HT_.out (by kernel_rfl)) (by decide) (fun K hK => ?_)
                              refine goes_ Try.func19 (by kernel_rfl) rfl #[.agg #[.int .i64 t665, .bool t666, .slice Ao54 t667.length co54], .agg #[.int .i64 (rd y662 x11_2), .bool false, .slice none 0 0]] (by rfl) rfl rfl (by (try simp only [List.map_toArray, List.map_cons, List.map_nil]); first | done | rfl | (simp only [List.length_drop, List.length_take]; rfl)) ?_
                              refine (bournelaw0_SameOut.calls k2 t665 t666 _ _ t667 (rd y662 x11_2) false _ _ ([] : List Int) false _ ?side1 ?side2 ?side3 ?side4 A37.out).mono ?_
                              (case side1 => repeat (first | exact (Kd.R_reads' HO669.out).2.2 | (with_reducible refine Kd.C_alloc ?_ _) | (with_reducible refine Kd.C_drewN ?_ _) | (with_reducible refine Kd.C_drew ?_)))
                              (case side2 => exact (Kd.R_reads' HO669.out).2.1)
                              (case side3 => exact Kd.C_nil _ _)
                              (case side4 => exact Nat.le_refl _)
                              rintro e w58 ⟨rfl, hb⟩
                              have HS3_ := (hb.cell (World.block_lt_of_cell? _ _ (hHeld.2.2.2))).trans (hHeld.2.2.2)
                              refine ⟨_, rfl, ?_⟩
                              have n0_ := Aside0.mk (Kd.R_below (by (with_reducible repeat (first | apply Kd.R_alloc | apply Kd.R_drewN | apply Kd.R_drew)); exact HO_10.out) hb)
                              have n1_ := Aside0.mk (Kd.R_below (by (with_reducible repeat (first | apply Kd.R_alloc | apply Kd.R_drewN | apply Kd.R_drew)); exact HO_660012.out) hb)
                              have n2_ := Aside0.mk (Kd.R_below (by (with_reducible repeat (first | apply Kd.R_alloc | apply Kd.R_drewN | apply Kd.R_drew)); exact HO669.out) hb)
                              have n3_ := Aside0.mk (blk_below (g := gb659) (o := .cells #[.int .i64 t644, .int .i64 t645, .int .i64 t646, .int .i64 t647, .int .i64 t648, .int .i64 t649, .int .i64 t650, .int .i64 t651, .int .i64 t652, .int .i64 t653, .int .i64 t654, .int .i64 t655, .slice Ao26 t656.length co26] 28 (0, 0)) (by (with_reducible repeat (first | refine blk_drewN ?_ _ | refine blk_drew ?_ | refine blk_alloc ?_ _)); exact BK659.out) hb)
                              have n4_ := Aside0.mk (blk_below (g := gb671) (o := .cells #[.int .i64 t665, .bool t666, .slice Ao54 t667.length co54] 31 (0, 0)) (by (with_reducible repeat (first | refine blk_drewN ?_ _ | refine blk_drew ?_ | refine blk_alloc ?_ _)); exact BK671.out) hb)
                              have n5_ := Aside0.mk (below_step (by repeat (first | (with_reducible first | exact HB.out | apply below_alloc | apply pw_below_drewN | apply below_drew1 | refine below_set ?_ GE659.out | refine below_set ?_ GE671.out) | exact HB.out)) hb)
                              clear HO_10
                              clear HO_660012
                              clear HO669
                              clear BK659
                              clear BK671
                              clear HB
                              have HO_10 := n0_
                              have HO_660012 := n1_
                              have HO669 := n2_
                              have BK659 := n3_
                              have BK671 := n4_
                              have HB := n5_
                              clear n0_ n1_ n2_ n3_ n4_ n5_
                              (try clear hb)
                              (try clear hb2)
                              (try clear hk)
                              (try clear hi)
                              refine hK.out _ _ ⟨(blk_cell BK671.out 0).trans rfl, (blk_cell BK671.out 1).trans rfl, (blk_cell BK671.out 2).trans rfl, HS3_⟩ (fun hHeld => ?_)
                              clear hK K
                              refine norm_ (a' := ?_) ?_ ?_
                              rotate_left
                              · show Act.put _ (some 93) _ = _
                                simp only [Act.put, List.setIfInBounds_toArray, List.set_cons_zero, List.set_cons_succ, i64_w, i32_w]
                                rfl
                              refine pure_ (i := 11) (N := some 94) (v := ?_) (a' := ?_) #[true, true, true, true, true, true, true, true, true, true, true, true, false] rfl rfl (any_of HT_.out (by kernel_rfl)) (fun _ _ _ h => h) (Or.inl ⟨by rfl, ?_⟩) ?_ ?_
                              rotate_left
                              · intro w'
                                go_simp
                                with_reducible rfl
                              rotate_left
                              · simp only [Act.put, List.setIfInBounds_toArray, List.set_cons_zero, List.set_cons_succ, i64_w, i32_w]
                                rfl
                              refine pure_ (i := 12) (N := some 95) (v := ?_) (a' := ?_) #[true, true, true, true, true, true, true, true, true, true, true, true, true] rfl rfl (any_of HT_.out (by kernel_rfl)) (fun _ _ _ h => h) (Or.inl ⟨by rfl, ?_⟩) ?_ ?_
                              rotate_left
                              · intro w'
                                go_simp
                                with_reducible rfl
                              rotate_left
                              · simp only [Act.put, List.setIfInBounds_toArray, List.set_cons_zero, List.set_cons_succ, i64_w, i32_w]
                                rfl
                              refine done_ (done_of HT_.out (by kernel_rfl)) ?_
                              try go_wp2
                              go_ret
                              exact ⟨by first | rfl | (simp [errW_none, errW_some] <;> rfl) | (simp only [← hji19]; first | rfl | (simp [errW_none, errW_some] <;> rfl)) | (simp [*, errW_none, errW_some] <;> rfl), by repeat (first | (with_reducible first | exact HB.out | apply below_alloc | apply pw_below_drewN | apply below_drew1 | refine below_set ?_ GE659.out | refine below_set ?_ GE671.out) | exact HB.out)⟩
                          · rw [if_neg c36] at H
                            exact absurd H (by simp)
                        · rw [if_neg c35] at H
                          exact absurd H (by simp)
                      · rw [if_neg c34] at H
                        have c34b0 : (t672 == 0) = false := beq_eq_false_iff_ne.mpr c34
                        have c34b1 : (t672 != 0) = true := bne_iff_ne.mpr c34
                        obtain rfl := Option.some.inj H
                        have hcz59_0 : wr.cell? ⟨gb659, 0, none⟩ = some (.int .i64 t644) := (blk_cell BK659.out 0).trans rfl
                        have hcz59_1 : wr.cell? ⟨gb659, 1, none⟩ = some (.int .i64 t645) := (blk_cell BK659.out 1).trans rfl
                        have hcz59_2 : wr.cell? ⟨gb659, 2, none⟩ = some (.int .i64 t646) := (blk_cell BK659.out 2).trans rfl
                        have hcz59_3 : wr.cell? ⟨gb659, 3, none⟩ = some (.int .i64 t647) := (blk_cell BK659.out 3).trans rfl
                        have hcz59_4 : wr.cell? ⟨gb659, 4, none⟩ = some (.int .i64 t648) := (blk_cell BK659.out 4).trans rfl
                        have hcz59_5 : wr.cell? ⟨gb659, 5, none⟩ = some (.int .i64 t649) := (blk_cell BK659.out 5).trans rfl
                        have hcz59_6 : wr.cell? ⟨gb659, 6, none⟩ = some (.int .i64 t650) := (blk_cell BK659.out 6).trans rfl
                        have hcz59_7 : wr.cell? ⟨gb659, 7, none⟩ = some (.int .i64 t651) := (blk_cell BK659.out 7).trans rfl
                        have hcz59_8 : wr.cell? ⟨gb659, 8, none⟩ = some (.int .i64 t652) := (blk_cell BK659.out 8).trans rfl
                        have hcz59_9 : wr.cell? ⟨gb659, 9, none⟩ = some (.int .i64 t653) := (blk_cell BK659.out 9).trans rfl
                        have hcz59_10 : wr.cell? ⟨gb659, 10, none⟩ = some (.int .i64 t654) := (blk_cell BK659.out 10).trans rfl
                        have hcz59_11 : wr.cell? ⟨gb659, 11, none⟩ = some (.int .i64 t655) := (blk_cell BK659.out 11).trans rfl
                        have hcz59_12 : wr.cell? ⟨gb659, 12, none⟩ = some (.slice Ao26 t656.length co26) := (blk_cell BK659.out 12).trans rfl
                        have hfz59_0 := blk_frozen BK659.out 0
                        have hfz59_1 := blk_frozen BK659.out 1
                        have hfz59_2 := blk_frozen BK659.out 2
                        have hfz59_3 := blk_frozen BK659.out 3
                        have hfz59_4 := blk_frozen BK659.out 4
                        have hfz59_5 := blk_frozen BK659.out 5
                        have hfz59_6 := blk_frozen BK659.out 6
                        have hfz59_7 := blk_frozen BK659.out 7
                        have hfz59_8 := blk_frozen BK659.out 8
                        have hfz59_9 := blk_frozen BK659.out 9
                        have hfz59_10 := blk_frozen BK659.out 10
                        have hfz59_11 := blk_frozen BK659.out 11
                        have hfz59_12 := blk_frozen BK659.out 12
                        try go_wp2_with (first | ((with_reducible refine gate_callee (f := 17) rfl ?_); refine goesL_ (some 80) rfl rfl Try.func17 (by kernel_rfl) rfl #[.agg #[.int .i64 0, .int .i64 x11_2, .int .i64 0, .int .i64 0, .slice none 0 0, .int .i64 0], .agg #[.int .i64 t644, .int .i64 t645, .int .i64 t646, .int .i64 t647, .int .i64 t648, .int .i64 t649, .int .i64 t650, .int .i64 t651, .int .i64 t652, .int .i64 t653, .int .i64 t654, .int .i64 t655, .slice Ao26 t656.length co26]] rfl (by (try simp only [List.map_toArray, List.map_cons, List.map_nil]); first | done | rfl | (simp only [List.length_drop, List.length_take]; rfl)) ?_; (refine (low_Value.calls 0 x11_2 0 0 _ _ ([] : List Int) 0 t644 t645 t646 t647 t648 t649 t650 t651 t652 t653 t654 t655 _ _ t656 t665 t666 t667 t670 _ ?side1 ?side2 ?side3 ?side4 A32.out).mono ?_); (case side1 => exact Kd.C_nil _ _); (case side2 => exact Nat.le_refl _); (case side3 => repeat (first | exact (Kd.R_reads' HO_660012.out).2.2 | (with_reducible refine Kd.C_alloc ?_ _) | (with_reducible refine Kd.C_drewN ?_ _) | (with_reducible refine Kd.C_drew ?_))); (case side4 => exact (Kd.R_reads' HO_660012.out).2.1); rintro e w60 ⟨v668, rfl, ho0, hb⟩; refine ⟨_, rfl, ?_⟩; have n0_ := Aside0.mk (Kd.R_elder' (by (with_reducible repeat (first | apply Kd.R_alloc | apply Kd.R_drewN | apply Kd.R_drew)); exact HO_10.out) (Kd.R_base ho0) hb); have n1_ := Aside0.mk (Kd.R_elder' (by (with_reducible repeat (first | apply Kd.R_alloc | apply Kd.R_drewN | apply Kd.R_drew)); exact HO_660012.out) (Kd.R_base ho0) hb); have n2_ := Aside0.mk (Kd.R_lower (Kd.R_new' (Kd.R_new' ho0 (Kd.R_lt (by (with_reducible repeat (first | apply Kd.R_alloc | apply Kd.R_drewN | apply Kd.R_drew)); exact HO_10.out))) (Kd.R_lt (by (with_reducible repeat (first | apply Kd.R_alloc | apply Kd.R_drewN | apply Kd.R_drew)); exact HO_660012.out))) (below_size (by repeat (first | (with_reducible first | exact HB.out | apply below_alloc | apply pw_below_drewN | apply below_drew1 | refine below_set ?_ GE659.out) | exact HB.out)))); have n3_ := Aside0.mk (blk_below (g := gb659) (o := .cells #[.int .i64 t644, .int .i64 t645, .int .i64 t646, .int .i64 t647, .int .i64 t648, .int .i64 t649, .int .i64 t650, .int .i64 t651, .int .i64 t652, .int .i64 t653, .int .i64 t654, .int .i64 t655, .slice Ao26 t656.length co26] 28 (0, 0)) (by (with_reducible repeat (first | refine blk_drewN ?_ _ | refine blk_drew ?_ | refine blk_alloc ?_ _)); exact BK659.out) hb); have n4_ := Aside0.mk (below_step (by repeat (first | (with_reducible first | exact HB.out | apply below_alloc | apply pw_below_drewN | apply below_drew1 | refine below_set ?_ GE659.out) | exact HB.out)) hb); clear HO_10; clear HO_660012; clear BK659; clear HB; have HO_10 := n0_; have HO_660012 := n1_; have HO669 := n2_; have BK659 := n3_; have HB := n4_; clear n0_ n1_ n2_ n3_ n4_; (try clear hb); (try clear hb2); (try clear hk); (try clear hi); (try clear ho0)) | ((with_reducible refine gate_dst (N := 12) rfl ?_); refine box_event ?hg (N := 12) ?hd (cs := #[.int .i64 0, .bool false, .slice none 0 0]) (t := 31) ?hr ?_; (case hd => rfl); (case hg => rfl); (case hr => first | (go_simp; done) | (go_simp; rfl)); intro gb671 hg w61 hbox hb; have n0_ := Aside0.mk (Kd.R_below (by (with_reducible repeat (first | apply Kd.R_alloc | apply Kd.R_drewN | apply Kd.R_drew)); exact HO_10.out) hb); have n1_ := Aside0.mk (Kd.R_below (by (with_reducible repeat (first | apply Kd.R_alloc | apply Kd.R_drewN | apply Kd.R_drew)); exact HO_660012.out) hb); have n2_ := Aside0.mk (Kd.R_below (by (with_reducible repeat (first | apply Kd.R_alloc | apply Kd.R_drewN | apply Kd.R_drew)); exact HO669.out) hb); have n3_ := Aside0.mk (blk_below (g := gb659) (o := .cells #[.int .i64 t644, .int .i64 t645, .int .i64 t646, .int .i64 t647, .int .i64 t648, .int .i64 t649, .int .i64 t650, .int .i64 t651, .int .i64 t652, .int .i64 t653, .int .i64 t654, .int .i64 t655, .slice Ao26 t656.length co26] 28 (0, 0)) (by (with_reducible repeat (first | refine blk_drewN ?_ _ | refine blk_drew ?_ | refine blk_alloc ?_ _)); exact BK659.out) hb); have n4_ := Aside0.mk (below_step (by repeat (first | (with_reducible first | exact HB.out | apply below_alloc | apply pw_below_drewN | apply below_drew1 | refine below_set ?_ GE659.out) | exact HB.out)) hb); have n5_ := Aside0.mk (hbox); have n6_ := Aside0.mk ((by rw [hg]; exact (below_size (by repeat (first | (with_reducible first | exact HB.out | apply below_alloc | apply pw_below_drewN | apply below_drew1 | refine below_set ?_ GE659.out) | exact HB.out))) : w.heap.size ≤ gb671)); have n7_ := Aside0.mk ((by rw [hg]; exact (below_size (by repeat (first | (with_reducible first | exact HB.out | apply below_alloc | apply pw_below_drewN | apply below_drew1 | refine below_set ?_ GE659.out) | exact HB.out))) : w.heap.size ≤ gb671)); have n8_ := Aside0.mk ((by rw [hg]; exact Nat.ne_of_lt (blk_lt (g := gb659) (o := .cells #[.int .i64 t644, .int .i64 t645, .int .i64 t646, .int .i64 t647, .int .i64 t648, .int .i64 t649, .int .i64 t650, .int .i64 t651, .int .i64 t652, .int .i64 t653, .int .i64 t654, .int .i64 t655, .slice Ao26 t656.length co26] 28 (0, 0)) (by (with_reducible repeat (first | refine blk_drewN ?_ _ | refine blk_drew ?_ | refine blk_alloc ?_ _)); exact BK659.out)) : gb659 ≠ gb671)); have n9_ := Aside0.mk ((by rw [hg]; exact Nat.ne_of_gt (blk_lt (g := gb659) (o := .cells #[.int .i64 t644, .int .i64 t645, .int .i64 t646, .int .i64 t647, .int .i64 t648, .int .i64 t649, .int .i64 t650, .int .i64 t651, .int .i64 t652, .int .i64 t653, .int .i64 t654, .int .i64 t655, .slice Ao26 t656.length co26] 28 (0, 0)) (by (with_reducible repeat (first | refine blk_drewN ?_ _ | refine blk_drew ?_ | refine blk_alloc ?_ _)); exact BK659.out)) : gb671 ≠ gb659)); clear HO_10; clear HO_660012; clear HO669; clear BK659; clear HB; have HO_10 := n0_; have HO_660012 := n1_; have HO669 := n2_; have BK659 := n3_; have HB := n4_; have BK671 := n5_; have GW671 := n6_; have GE671 := n7_; have NB659_671 := n8_; have NB671_659 := n9_; clear n0_ n1_ n2_ n3_ n4_ n5_ n6_ n7_ n8_ n9_; clear hb hbox hg; have hnb62 := NB671_659.out; have hnc62 := NB659_671.out; have hcz63_0 : w61.cell? ⟨gb671, 0, none⟩ = some (.int .i64 0) := (blk_cell BK671.out 0).trans rfl; have hcz63_1 : w61.cell? ⟨gb671, 1, none⟩ = some (.bool false) := (blk_cell BK671.out 1).trans rfl; have hcz63_2 : w61.cell? ⟨gb671, 2, none⟩ = some (.slice none 0 0) := (blk_cell BK671.out 2).trans rfl; have hfz63_0 := blk_frozen BK671.out 0; have hfz63_1 := blk_frozen BK671.out 1; have hfz63_2 := blk_frozen BK671.out 2; obtain ⟨Ao64, co64, eo64⟩ := Kd.R_slice HO669.out; subst eo64))
                        have n0_ : Aside0 (Kd.R (Kd.int .i64) 3 (((w61.setCell ⟨gb671, 0, none⟩ (.int .i64 t665)).setCell ⟨gb671, 1, none⟩ (.bool t666)).setCell ⟨gb671, 2, none⟩ (.slice Ao64 t667.length co64)) w.heap.size (fun k_ => some k_ ≠ (.slice Ao26 t656.length co26 : Value).ownBlock ∧ some k_ ≠ (.slice Ao64 t667.length co64 : Value).ownBlock) v663 y662) := ⟨by (with_reducible repeat (first | apply Kd.R_alloc | apply Kd.R_drewN | apply Kd.R_drew)); exact Kd.R_mono (Kd.R_far (p := ⟨gb671, 2, none⟩) (Kd.R_far (p := ⟨gb671, 1, none⟩) (Kd.R_far (p := ⟨gb671, 0, none⟩) (Kd.R_types HO_10.out BK671.out (by decide)) (fun _ hk => hk.2) (.int .i64 t665)) (fun _ hk => hk.2) (.bool t666)) (fun _ hk => hk.2) (.slice Ao64 t667.length co64)) (fun _ hk => ⟨hk.1.1, hk.1.2⟩)⟩
                        have n1_ : Aside0 (Kd.R (Kd.int .i64) 3 (((w61.setCell ⟨gb671, 0, none⟩ (.int .i64 t665)).setCell ⟨gb671, 1, none⟩ (.bool t666)).setCell ⟨gb671, 2, none⟩ (.slice Ao64 t667.length co64)) w.heap.size (fun k_ => some k_ ≠ (v663 : Value).ownBlock ∧ some k_ ≠ (.slice Ao64 t667.length co64 : Value).ownBlock) (.slice Ao26 t656.length co26) t656) := ⟨by (with_reducible repeat (first | apply Kd.R_alloc | apply Kd.R_drewN | apply Kd.R_drew)); exact Kd.R_mono (Kd.R_far (p := ⟨gb671, 2, none⟩) (Kd.R_far (p := ⟨gb671, 1, none⟩) (Kd.R_far (p := ⟨gb671, 0, none⟩) (Kd.R_types HO_660012.out BK671.out (by decide)) (fun _ hk => hk.2) (.int .i64 t665)) (fun _ hk => hk.2) (.bool t666)) (fun _ hk => hk.2) (.slice Ao64 t667.length co64)) (fun _ hk => ⟨hk.1.1, hk.1.2⟩)⟩
                        have n2_ : Aside0 (Kd.R (Kd.int .i64) 3 (((w61.setCell ⟨gb671, 0, none⟩ (.int .i64 t665)).setCell ⟨gb671, 1, none⟩ (.bool t666)).setCell ⟨gb671, 2, none⟩ (.slice Ao64 t667.length co64)) w.heap.size (fun k_ => some k_ ≠ (v663 : Value).ownBlock ∧ some k_ ≠ (.slice Ao26 t656.length co26 : Value).ownBlock) (.slice Ao64 t667.length co64) t667) := ⟨by (with_reducible repeat (first | apply Kd.R_alloc | apply Kd.R_drewN | apply Kd.R_drew)); exact Kd.R_mono (Kd.R_far (p := ⟨gb671, 2, none⟩) (Kd.R_far (p := ⟨gb671, 1, none⟩) (Kd.R_far (p := ⟨gb671, 0, none⟩) (Kd.R_types HO669.out BK671.out (by decide)) (fun _ hk => hk.2) (.int .i64 t665)) (fun _ hk => hk.2) (.bool t666)) (fun _ hk => hk.2) (.slice Ao64 t667.length co64)) (fun _ hk => ⟨hk.1.1.2, hk.1.2⟩)⟩
                        have n3_ : Aside0 ((((w61.setCell ⟨gb671, 0, none⟩ (.int .i64 t665)).setCell ⟨gb671, 1, none⟩ (.bool t666)).setCell ⟨gb671, 2, none⟩ (.slice Ao64 t667.length co64)).heap[gb659]? = some (.cells #[.int .i64 t644, .int .i64 t645, .int .i64 t646, .int .i64 t647, .int .i64 t648, .int .i64 t649, .int .i64 t650, .int .i64 t651, .int .i64 t652, .int .i64 t653, .int .i64 t654, .int .i64 t655, .slice Ao26 t656.length co26] 28 (0, 0))) := ⟨by (with_reducible repeat (first | refine blk_drewN ?_ _ | refine blk_drew ?_ | refine blk_alloc ?_ _)); refine blk_far ?_ NB659_671.out _; (with_reducible repeat (first | refine blk_drewN ?_ _ | refine blk_drew ?_ | refine blk_alloc ?_ _)); refine blk_far ?_ NB659_671.out _; (with_reducible repeat (first | refine blk_drewN ?_ _ | refine blk_drew ?_ | refine blk_alloc ?_ _)); refine blk_far ?_ NB659_671.out _; (with_reducible repeat (first | refine blk_drewN ?_ _ | refine blk_drew ?_ | refine blk_alloc ?_ _)); exact BK659.out⟩
                        have n4_ : Aside0 ((((w61.setCell ⟨gb671, 0, none⟩ (.int .i64 t665)).setCell ⟨gb671, 1, none⟩ (.bool t666)).setCell ⟨gb671, 2, none⟩ (.slice Ao64 t667.length co64)).heap[gb671]? = some (.cells #[.int .i64 t665, .bool t666, .slice Ao64 t667.length co64] 31 (0, 0))) := ⟨by (with_reducible repeat (first | refine blk_drewN ?_ _ | refine blk_drew ?_ | refine blk_alloc ?_ _)); refine blk_put (cs := #[.int .i64 t665, .bool t666, .slice none 0 0]) ?_ 2 _ rfl; (with_reducible repeat (first | refine blk_drewN ?_ _ | refine blk_drew ?_ | refine blk_alloc ?_ _)); refine blk_put (cs := #[.int .i64 t665, .bool false, .slice none 0 0]) ?_ 1 _ rfl; (with_reducible repeat (first | refine blk_drewN ?_ _ | refine blk_drew ?_ | refine blk_alloc ?_ _)); refine blk_put (cs := #[.int .i64 0, .bool false, .slice none 0 0]) ?_ 0 _ rfl; (with_reducible repeat (first | refine blk_drewN ?_ _ | refine blk_drew ?_ | refine blk_alloc ?_ _)); exact BK671.out⟩
                        have n5_ : Aside0 (Below w.heap.size w (((w61.setCell ⟨gb671, 0, none⟩ (.int .i64 t665)).setCell ⟨gb671, 1, none⟩ (.bool t666)).setCell ⟨gb671, 2, none⟩ (.slice Ao64 t667.length co64))) := ⟨by repeat (first | (with_reducible first | exact HB.out | apply below_alloc | apply pw_below_drewN | apply below_drew1 | refine below_set ?_ GE659.out | refine below_set ?_ GE671.out) | exact HB.out)⟩
                        (try clear HO_10)
                        (try clear HO_660012)
                        (try clear HO669)
                        (try clear BK659)
                        (try clear BK671)
                        (try clear HB)
                        generalize (((w61.setCell ⟨gb671, 0, none⟩ (.int .i64 t665)).setCell ⟨gb671, 1, none⟩ (.bool t666)).setCell ⟨gb671, 2, none⟩ (.slice Ao64 t667.length co64)) = w65 at n0_ n1_ n2_ n3_ n4_ n5_ ⊢
                        have HO_10 := n0_
                        have HO_660012 := n1_
                        have HO669 := n2_
                        have BK659 := n3_
                        have BK671 := n4_
                        have HB := n5_
                        clear n0_ n1_ n2_ n3_ n4_ n5_
                        have n0_ := Aside0.mk (Kd.R_drew HO_10.out)
                        have n1_ := Aside0.mk (Kd.R_drew HO_660012.out)
                        have n2_ := Aside0.mk (Kd.R_drew HO669.out)
                        have n3_ := Aside0.mk (blk_drew BK659.out)
                        have n4_ := Aside0.mk (blk_drew BK671.out)
                        have n5_ := Aside0.mk (below_drew1 HB.out)
                        clear HO_10
                        clear HO_660012
                        clear HO669
                        clear BK659
                        clear BK671
                        clear HB
                        have HO_10 := n0_
                        have HO_660012 := n1_
                        have HO669 := n2_
                        have BK659 := n3_
                        have BK671 := n4_
                        have HB := n5_
                        clear n0_ n1_ n2_ n3_ n4_ n5_
                        refine start_ (n := 13) (S := fun w' => True) (ds := []) #[false, false, false, false, false, false, false, false, false, false, false, false, false] (by kernel_rfl) rfl rfl trivial (fun hHeld => ?_); refine with_tabW bournelaw2_LowPlain.tab21 bournelaw2_LowPlain.bits21 (fun HT_ HW_ => ?_)
                        generalize w65.drew = w66 at HO_10 HO_660012 HO669 BK659 BK671 HB hHeld ⊢
                        refine pure_ (i := 0) (N := some 83) (v := ?_) (a' := ?_) #[true, false, false, false, false, false, false, false, false, false, false, false, false] rfl rfl (any_of HT_.out (by kernel_rfl)) (fun _ _ _ h => h) (Or.inl ⟨by rfl, ?_⟩) ?_ ?_
                        rotate_left
                        · intro w'
                          go_simp
                          with_reducible rfl
                        rotate_left
                        · simp only [Act.put, List.setIfInBounds_toArray, List.set_cons_zero, List.set_cons_succ, i64_w, i32_w]
                          rfl
                        refine one_ (i := 1) (N := some 84) #[true, true, false, false, false, false, false, false, false, false, false, false, false] rfl rfl (one_of HT_.out (by kernel_rfl)) (by decide) (fun K hK => ?_)
                        refine goes_ Try.func20 (by kernel_rfl) rfl #[.int .i64 t670] (by rfl) rfl rfl (by (try simp only [List.map_toArray, List.map_cons, List.map_nil]); first | done | rfl | (simp only [List.length_drop, List.length_take]; rfl)) ?_
                        with_reducible refine (bournelaw0_Num.calls t670 t672 _ A33.out).mono ?_
                        rintro e w' ⟨rfl, ⟨nd, rfl⟩⟩
                        refine ⟨_, rfl, ?_⟩
                        refine hK.out _ _ trivial (fun hHeld => ?_)
                        clear hK K
                        refine norm_ (a' := ?_) ?_ ?_
                        rotate_left
                        · show Act.put _ (some 84) _ = _
                          simp only [Act.put, List.setIfInBounds_toArray, List.set_cons_zero, List.set_cons_succ, i64_w, i32_w]
                          rfl
                        refine pure_ (i := 2) (N := some 85) (v := ?_) (a' := ?_) #[true, true, true, false, false, false, false, false, false, false, false, false, false] rfl rfl (any_of HT_.out (by kernel_rfl)) (fun _ _ _ h => h) (Or.inl ⟨by rfl, ?_⟩) ?_ ?_
                        rotate_left
                        · intro w'
                          go_simp
                          with_reducible rfl
                        rotate_left
                        · simp only [Act.put, List.setIfInBounds_toArray, List.set_cons_zero, List.set_cons_succ, i64_w, i32_w]
                          rfl
                        refine pure_ (i := 3) (N := some 86) (v := ?_) (a' := ?_) #[true, true, true, true, false, false, false, false, false, false, false, false, false] rfl rfl (any_of HT_.out (by kernel_rfl)) (fun _ _ _ h => h) (Or.inl ⟨by rfl, ?_⟩) ?_ ?_
                        rotate_left
                        · intro w'
                          go_simp
                          with_reducible rfl
                        rotate_left
                        · simp only [Act.put, List.setIfInBounds_toArray, List.set_cons_zero, List.set_cons_succ, i64_w, i32_w]
                          rfl
                        refine pure_ (i := 4) (N := some 87) (v := undef) (a' := ?_) #[true, true, true, true, true, false, false, false, false, false, false, false, false] rfl rfl (any_of HT_.out (by kernel_rfl)) (fun _ _ _ h => h) (Or.inr ⟨by rfl, rfl⟩) ?_ ?_
                        rotate_left
                        · simp only [Act.put, List.setIfInBounds_toArray, List.set_cons_zero, List.set_cons_succ, i64_w, i32_w]
                          rfl
                        refine pure_ (i := 5) (N := some 88) (v := undef) (a' := ?_) #[true, true, true, true, true, true, false, false, false, false, false, false, false] rfl rfl (any_of HT_.out (by kernel_rfl)) (fun _ _ _ h => h) (Or.inr ⟨by rfl, rfl⟩) ?_ ?_
                        rotate_left
                        · simp only [Act.put, List.setIfInBounds_toArray, List.set_cons_zero, List.set_cons_succ, i64_w, i32_w]
                          rfl
                        refine pure_ (i := 6) (N := some 89) (v := undef) (a' := ?_) #[true, true, true, true, true, true, true, false, false, false, false, false, false] rfl rfl (any_of HT_.out (by kernel_rfl)) (fun _ _ _ h => h) (Or.inr ⟨by rfl, rfl⟩) ?_ ?_
                        rotate_left
                        · simp only [Act.put, List.setIfInBounds_toArray, List.set_cons_zero, List.set_cons_succ, i64_w, i32_w]
                          rfl
                        refine pure_ (i := 7) (N := some 90) (v := undef) (a' := ?_) #[true, true, true, true, true, true, true, true, false, false, false, false, false] rfl rfl (any_of HT_.out (by kernel_rfl)) (fun _ _ _ h => h) (Or.inr ⟨by rfl, rfl⟩) ?_ ?_
                        rotate_left
                        · simp only [Act.put, List.setIfInBounds_toArray, List.set_cons_zero, List.set_cons_succ, i64_w, i32_w]
                          rfl
                        refine pure_ (i := 8) (N := some 91) (v := undef) (a' := ?_) #[true, true, true, true, true, true, true, true, true, false, false, false, false] rfl rfl (any_of HT_.out (by kernel_rfl)) (fun _ _ _ h => h) (Or.inr ⟨by rfl, rfl⟩) ?_ ?_
                        rotate_left
                        · simp only [Act.put, List.setIfInBounds_toArray, List.set_cons_zero, List.set_cons_succ, i64_w, i32_w]
                          rfl
                        refine pure_ (i := 9) (N := some 92) (v := undef) (a' := ?_) #[true, true, true, true, true, true, true, true, true, true, false, false, false] rfl rfl (any_of HT_.out (by kernel_rfl)) (fun _ _ _ h => h) (Or.inr ⟨by rfl, rfl⟩) ?_ ?_
                        rotate_left
                        · simp only [Act.put, List.setIfInBounds_toArray, List.set_cons_zero, List.set_cons_succ, i64_w, i32_w]
                          rfl
                        refine pure_ (i := 10) (N := some 93) (v := undef) (a' := ?_) #[true, true, true, true, true, true, true, true, true, true, true, false, false] rfl rfl (any_of HT_.out (by kernel_rfl)) (fun _ _ _ h => h) (Or.inr ⟨by rfl, rfl⟩) ?_ ?_
                        rotate_left
                        · simp only [Act.put, List.setIfInBounds_toArray, List.set_cons_zero, List.set_cons_succ, i64_w, i32_w]
                          rfl
                        refine pure_ (i := 11) (N := some 94) (v := undef) (a' := ?_) #[true, true, true, true, true, true, true, true, true, true, true, true, false] rfl rfl (any_of HT_.out (by kernel_rfl)) (fun _ _ _ h => h) (Or.inr ⟨by rfl, rfl⟩) ?_ ?_
                        rotate_left
                        · simp only [Act.put, List.setIfInBounds_toArray, List.set_cons_zero, List.set_cons_succ, i64_w, i32_w]
                          rfl
                        refine pure_ (i := 12) (N := some 95) (v := ?_) (a' := ?_) #[true, true, true, true, true, true, true, true, true, true, true, true, true] rfl rfl (any_of HT_.out (by kernel_rfl)) (fun _ _ _ h => h) (Or.inl ⟨by rfl, ?_⟩) ?_ ?_
                        rotate_left
                        · intro w'
                          go_simp
                          with_reducible rfl
                        rotate_left
                        · simp only [Act.put, List.setIfInBounds_toArray, List.set_cons_zero, List.set_cons_succ, i64_w, i32_w]
                          rfl
                        refine done_ (done_of HT_.out (by kernel_rfl)) ?_
                        try go_wp2
                        go_ret
                        exact ⟨by first | rfl | (simp [errW_none, errW_some] <;> rfl) | (simp only [← hji19]; first | rfl | (simp [errW_none, errW_some] <;> rfl)) | (simp [*, errW_none, errW_some] <;> rfl), by repeat (first | (with_reducible first | exact HB.out | apply below_alloc | apply pw_below_drewN | apply below_drew1 | refine below_set ?_ GE659.out | refine below_set ?_ GE671.out) | exact HB.out)⟩
                    · rw [if_neg c31] at H
                      have c31b0 : decide (x11_2 < 6) = false := decide_eq_false c31
                      clear c31
                      obtain rfl := Option.some.inj H
                      go_wp2
                      go_ret
                      exact ⟨by first | rfl | (simp [errW_none, errW_some] <;> rfl) | (simp only [← hji19]; first | rfl | (simp [errW_none, errW_some] <;> rfl)) | (simp [*, errW_none, errW_some] <;> rfl), by repeat (first | (with_reducible first | exact HB.out | apply below_alloc | apply pw_below_drewN | apply below_drew1 | refine below_set ?_ GE659.out) | exact HB.out)⟩
              · rw [if_neg c21] at H
                exact absurd H (by simp)
            · rw [if_neg c20] at H
              exact absurd H (by simp)
          · rw [if_neg c18] at H
            exact absurd H (by simp)
  · replace c3 := Bool.eq_false_iff.mpr c3
    subst c3
    have H1 : (some false) = some r := by rw [if_neg (show ¬ (false = true) by decide)] at H; exact H
    clear H
    have H := H1
    clear H1
    obtain rfl := Option.some.inj H
    go_enter Try.func4, Try.ntmps4
    go_wp2_with (first | ((with_reducible refine gate_callee (f := 23) rfl ?_); refine goesL_ (some 14) rfl rfl Try.func23 (by kernel_rfl) rfl #[] rfl (by (try simp only [List.map_toArray, List.map_cons, List.map_nil]); first | done | rfl | (simp only [List.length_drop, List.length_take]; rfl)) ?_; (with_reducible refine (bournelaw2_awake.calls  false _ A2.out).mono ?_); rintro e w67 ⟨rfl, hb⟩; refine ⟨_, rfl, ?_⟩; have n0_ := Aside0.mk (below_step (by repeat (first | (with_reducible first | exact HB.out | apply below_alloc | apply pw_below_drewN | apply below_drew1) | exact HB.out)) hb); clear HB; have HB := n0_; clear n0_; (try clear hb); (try clear hb2); (try clear hk); (try clear hi)))
    go_ret
    exact ⟨by first | rfl | (simp [errW_none, errW_some] <;> rfl) | (simp [*, errW_none, errW_some] <;> rfl), by repeat (first | (with_reducible first | exact HB.out | apply below_alloc | apply pw_below_drewN | apply below_drew1) | exact HB.out)⟩

/-- THE ONE PURE STATEMENT of bournelaw2_LowPlain: yours. -/
def bournelaw2_LowPlain.Pure : Prop := ∀ (l0 : List Int), l0.length ≤ maxLen → l0.length * 8 ≤ 140737488351232 → (∀ x ∈ l0, (Lit.int .i64 x).wf = true) → ∃ k, bournelaw2_LowPlain.f k l0 = some true
theorem bournelaw2_LowPlain.walk (P : bournelaw2_LowPlain.Pure) (a0 : Option Addr) (len0 cap0 : Nat) (z0 : List Int) (w : World) (w0 : (a0 = none ∧ len0 = 0 ∧ cap0 = 0 ∧ z0 = []) ∨ ∃ x, a0 = some x ∧ len0 ≤ cap0 ∧ cap0 ≤ maxLen ∧ z0.length = cap0 ∧ (∀ i, i < z0.length → w.cell? (x.add i) = some (.int .i64 (z0.getD i 0))) ∧ ∀ n ∈ z0, (Lit.int .i64 n).wf = true) (y0 : len0 * 8 ≤ 140737488351232) :
    Calls Try.prog 4 #[.slice a0 len0 cap0] w fun e w' => e = .returned (.bool true) ∧ Below w.heap.size w w' := by
  obtain ⟨l0, rfl, hr0, hm0, hw0, hc0⟩ := ReadsInt.ofRowC w0
  obtain ⟨k, h⟩ := P l0 hm0 y0 hw0
  refine (bournelaw2_LowPlain.calls k _ _ l0 true w (Kd.C_of_reads (d := (0 : Int)) (h1 := fun _ => rfl) hr0) hc0 h).mono ?_
  rintro e w' ⟨rfl, hd⟩
  exact ⟨rfl, hd⟩

end Go.Proofs.Ytggaefklcpbfnaa.Pa
