/- Go functions of the given program as plain Lean functions, each with a proof that the machine's call answers so; no statement of the seed is proved here. -/
import Derived.Test.YtggaefklcpbfnaaPa0
import Derived.Test.YtggaefklcpbfnaaPaBournelaw2awake
import Derived.Test.YtggaefklcpbfnaaPaFold
import Derived.Test.YtggaefklcpbfnaaPaItem2
import Derived.Test.YtggaefklcpbfnaaPaLeaf
import Derived.Test.YtggaefklcpbfnaaPaLowValue
namespace Go.Proofs.Ytggaefklcpbfnaa.Pa
open Go.RowKit Go.Proofs.YtggaefklcpbfnaaW.PrintWords Go.Proofs.YtggaefklcpbfnaaW.PrintLast Go.Proofs.YtggaefklcpbfnaaW.PrintMore
attribute [local go_sem] max2_int min2_int max_two min_two max_three min_three max_four min_four   -- for this text's walks alone
set_option linter.unusedVariables false
set_option linter.unusedSimpArgs false

/-! ### bournelaw2_LowHists: function 8 -/
mutual
def bournelaw2_LowHists.j1 : Nat → Int → Int → List Int → List (S26) → Option (Bool)
  | 0, _, _, _, _ => none
  | k + 1, x1, x2, x7, x8 => if (x8.length : Int) = 0 then (some true) else ((bournelaw2_fold.f k x8 x7).bind fun bt844 => ((low_Value.f 0 6 0 0 x7 0 bt844.1 bt844.2.1 bt844.2.2.1 bt844.2.2.2.1 bt844.2.2.2.2.1 bt844.2.2.2.2.2.1 bt844.2.2.2.2.2.2.1 bt844.2.2.2.2.2.2.2.1 bt844.2.2.2.2.2.2.2.2.1 bt844.2.2.2.2.2.2.2.2.2.1 bt844.2.2.2.2.2.2.2.2.2.2.1 bt844.2.2.2.2.2.2.2.2.2.2.2.1 bt844.2.2.2.2.2.2.2.2.2.2.2.2).bind fun bt860 => ((low_Value.f 0 7 0 0 x7 (mn (wrap64 (Int.tmod (IntKind.u64.wrap (x1)) 1001)) (wrap64 (Int.tmod (IntKind.u64.wrap (x2)) 1001))) bt844.1 bt844.2.1 bt844.2.2.1 bt844.2.2.2.1 bt844.2.2.2.2.1 bt844.2.2.2.2.2.1 bt844.2.2.2.2.2.2.1 bt844.2.2.2.2.2.2.2.1 bt844.2.2.2.2.2.2.2.2.1 bt844.2.2.2.2.2.2.2.2.2.1 bt844.2.2.2.2.2.2.2.2.2.2.1 bt844.2.2.2.2.2.2.2.2.2.2.2.1 bt844.2.2.2.2.2.2.2.2.2.2.2.2).bind fun bt867 => ((low_Value.f 0 7 0 0 x7 (mx (wrap64 (Int.tmod (IntKind.u64.wrap (x1)) 1001)) (wrap64 (Int.tmod (IntKind.u64.wrap (x2)) 1001))) bt844.1 bt844.2.1 bt844.2.2.1 bt844.2.2.2.1 bt844.2.2.2.2.1 bt844.2.2.2.2.2.1 bt844.2.2.2.2.2.2.1 bt844.2.2.2.2.2.2.2.1 bt844.2.2.2.2.2.2.2.2.1 bt844.2.2.2.2.2.2.2.2.2.1 bt844.2.2.2.2.2.2.2.2.2.2.1 bt844.2.2.2.2.2.2.2.2.2.2.2.1 bt844.2.2.2.2.2.2.2.2.2.2.2.2).bind fun bt874 => (bournelaw2_LowHists.l1 k x8 bt860.2.2.2 bt867.2.2.2 bt874.2.2.2 0 0 bt860.1 bt860.2.1 bt860.2.2.1 bt867.1 bt867.2.1 bt867.2.2.1 bt874.1 bt874.2.1 bt874.2.2.1)))))
def bournelaw2_LowHists.l1 : Nat → List (S26) → Int → Int → Int → Int → Int → Int → Bool → List Int → Int → Bool → List Int → Int → Bool → List Int → Option (Bool)
  | 0, _, _, _, _, _, _, _, _, _, _, _, _, _, _, _ => none
  | k + 1, x8, x12, x16, x18, x19, x20, x867000, x867001, x867002, x874000, x874001, x874002, x881000, x881001, x881002 => if x20 < (x867002.length : Int) then (if 0 ≤ x20 then (bournelaw2_LowHists.l1 k x8 x12 x16 x18 (wrap64 (x19 + (rd x867002 x20))) (wrap64 (x20 + 1)) x867000 x867001 x867002 x874000 x874001 x874002 x881000 x881001 x881002) else (none)) else ((bournelaw0_Num.f x12).bind fun t882 => (if t882 = 0 then (if (x867002.length : Int) = 5 then (if x19 = (x8.length : Int) then ((bournelaw0_Num.f x16).bind fun t883 => (if t883 = 0 then ((bournelaw0_Num.f x18).bind fun t884 => (if t884 = 0 then (some (decide (x874000 ≤ x881000))) else (some false))) else (some false))) else (some false)) else (some false)) else (some false)))
def bournelaw2_LowHists.l0 : Nat → List Int → Int → Int → List Int → List (S26) → Int → Option (Bool)
  | 0, _, _, _, _, _, _ => none
  | k + 1, x0, x1, x2, x7, x8, x9 => if x9 < (x0.length : Int) then (if x9 < 30 then (if 0 ≤ x9 then ((bournelaw2_item.f 0 x9 (wrap64 (x9 + 1)) (wrap64 ((Go.bits .and .i64 (rd x0 x9) 1023) - 500))).bind fun bt837 => (if x8.length < 4398046511104 then (bournelaw2_LowHists.l0 k x0 x1 x2 x7 (x8 ++ [(⟨bt837.1, bt837.2.1, bt837.2.2.1, bt837.2.2.2⟩ : S26)]) (wrap64 (x9 + 1))) else (none))) else (none)) else (bournelaw2_LowHists.j1 k x1 x2 x7 x8)) else (bournelaw2_LowHists.j1 k x1 x2 x7 x8)
end
def bournelaw2_LowHists.f (k : Nat) (l0 : List Int) (a1 : Int) (a2 : Int) : Option (Bool) := (bournelaw2_awake.f).bind fun t832 => (if t832 = true then (bournelaw2_LowHists.l0 k l0 a1 a2 (([(-100), 0, 50, 200] : List Int)) ([] : List (S26)) 0) else (some false))
theorem bournelaw2_LowHists.mono_l : ∀ k, (∀ y0 y1 y2 y3, LeO (bournelaw2_LowHists.j1 k y0 y1 y2 y3) (bournelaw2_LowHists.j1 (k + 1) y0 y1 y2 y3)) ∧ (∀ y0 y1 y2 y3 y4 y5 y6 y7 y8 y9 y10 y11 y12 y13 y14, LeO (bournelaw2_LowHists.l1 k y0 y1 y2 y3 y4 y5 y6 y7 y8 y9 y10 y11 y12 y13 y14) (bournelaw2_LowHists.l1 (k + 1) y0 y1 y2 y3 y4 y5 y6 y7 y8 y9 y10 y11 y12 y13 y14)) ∧ (∀ y0 y1 y2 y3 y4 y5, LeO (bournelaw2_LowHists.l0 k y0 y1 y2 y3 y4 y5) (bournelaw2_LowHists.l0 (k + 1) y0 y1 y2 y3 y4 y5))
  | 0 => ⟨fun _ _ _ _ r h => by simp [bournelaw2_LowHists.j1] at h, fun _ _ _ _ _ _ _ _ _ _ _ _ _ _ _ r h => by simp [bournelaw2_LowHists.l1] at h, fun _ _ _ _ _ _ r h => by simp [bournelaw2_LowHists.l0] at h⟩
  | k + 1 => by
    obtain ⟨ih0, ih1, ih2⟩ := bournelaw2_LowHists.mono_l k
    refine ⟨?_, ?_, ?_⟩
    · intro y0 y1 y2 y3
      unfold bournelaw2_LowHists.j1
      repeat' first
      | (with_reducible exact ih0 _ _ _ _)
      | (with_reducible exact ih1 _ _ _ _ _ _ _ _ _ _ _ _ _ _ _)
      | (with_reducible exact ih2 _ _ _ _ _ _)
      | (with_reducible exact bournelaw2_fold.mono _ _ _)
      | (with_reducible exact LeO.refl _)
      | (with_reducible exact LeO.none _)
      | (with_reducible refine LeO.ite ?_ ?_)
      | (with_reducible refine LeO.bind ?_ (fun _ => ?_))
      | exact ih0 _ _ _ _
      | exact ih1 _ _ _ _ _ _ _ _ _ _ _ _ _ _ _
      | exact ih2 _ _ _ _ _ _
      | exact bournelaw2_fold.mono _ _ _
      | exact LeO.none _
      | refine LeO.ite ?_ ?_
      | refine LeO.bind ?_ (fun _ => ?_)
    · intro y0 y1 y2 y3 y4 y5 y6 y7 y8 y9 y10 y11 y12 y13 y14
      unfold bournelaw2_LowHists.l1
      repeat' first
      | (with_reducible exact ih0 _ _ _ _)
      | (with_reducible exact ih1 _ _ _ _ _ _ _ _ _ _ _ _ _ _ _)
      | (with_reducible exact ih2 _ _ _ _ _ _)
      | (with_reducible exact bournelaw2_fold.mono _ _ _)
      | (with_reducible exact LeO.refl _)
      | (with_reducible exact LeO.none _)
      | (with_reducible refine LeO.ite ?_ ?_)
      | (with_reducible refine LeO.bind ?_ (fun _ => ?_))
      | exact ih0 _ _ _ _
      | exact ih1 _ _ _ _ _ _ _ _ _ _ _ _ _ _ _
      | exact ih2 _ _ _ _ _ _
      | exact bournelaw2_fold.mono _ _ _
      | exact LeO.none _
      | refine LeO.ite ?_ ?_
      | refine LeO.bind ?_ (fun _ => ?_)
    · intro y0 y1 y2 y3 y4 y5
      unfold bournelaw2_LowHists.l0
      repeat' first
      | (with_reducible exact ih0 _ _ _ _)
      | (with_reducible exact ih1 _ _ _ _ _ _ _ _ _ _ _ _ _ _ _)
      | (with_reducible exact ih2 _ _ _ _ _ _)
      | (with_reducible exact bournelaw2_fold.mono _ _ _)
      | (with_reducible exact LeO.refl _)
      | (with_reducible exact LeO.none _)
      | (with_reducible refine LeO.ite ?_ ?_)
      | (with_reducible refine LeO.bind ?_ (fun _ => ?_))
      | exact ih0 _ _ _ _
      | exact ih1 _ _ _ _ _ _ _ _ _ _ _ _ _ _ _
      | exact ih2 _ _ _ _ _ _
      | exact bournelaw2_fold.mono _ _ _
      | exact LeO.none _
      | refine LeO.ite ?_ ?_
      | refine LeO.bind ?_ (fun _ => ?_)
theorem bournelaw2_LowHists.mono : ∀ a0 a1 a2 k, LeO (bournelaw2_LowHists.f k a0 a1 a2) (bournelaw2_LowHists.f (k + 1) a0 a1 a2) := by
  intro a0 a1 a2 k
  obtain ⟨ih0, ih1, ih2⟩ := bournelaw2_LowHists.mono_l k
  unfold bournelaw2_LowHists.f
  repeat' first
      | (with_reducible exact ih0 _ _ _ _)
      | (with_reducible exact ih1 _ _ _ _ _ _ _ _ _ _ _ _ _ _ _)
      | (with_reducible exact ih2 _ _ _ _ _ _)
      | (with_reducible exact bournelaw2_fold.mono _ _ _)
      | (with_reducible exact LeO.refl _)
      | (with_reducible exact LeO.none _)
      | (with_reducible refine LeO.ite ?_ ?_)
      | (with_reducible refine LeO.bind ?_ (fun _ => ?_))
      | exact ih0 _ _ _ _
      | exact ih1 _ _ _ _ _ _ _ _ _ _ _ _ _ _ _
      | exact ih2 _ _ _ _ _ _
      | exact bournelaw2_fold.mono _ _ _
      | exact LeO.none _
      | refine LeO.ite ?_ ?_
      | refine LeO.bind ?_ (fun _ => ?_)
set_option maxHeartbeats 8000000 in
set_option maxRecDepth 100000 in
theorem bournelaw2_LowHists.calls (k : Nat) (A0 : Option Addr) (c0 : Nat) (l0 : List Int) (a1 : Int) (a2 : Int) (r : Bool) (w : World) (hr0 : Kd.C (Kd.int .i64) w A0 l0.length l0) (hc0 : l0.length ≤ c0) (h : bournelaw2_LowHists.f k l0 a1 a2 = some r) :
    Calls Try.prog 8 #[.slice A0 l0.length c0, .int .i64 a1, .int .i64 a2] w fun e w' => e = .returned (.bool r) ∧ Below w.heap.size w w' := by
  have hu28 := Try.underlying28
  have hu24 := Try.underlying24
  have hu31 := Try.underlying31
  have HR0 := Aside0.mk hr0
  have HC0 := Aside0.mk hc0
  clear hr0 hc0
  have HB := Aside0.mk (Below.refl w.heap.size w)
  have H : ((bournelaw2_awake.f).bind fun t832 => (if t832 = true then (bournelaw2_LowHists.l0 k l0 a1 a2 (([(-100), 0, 50, 200] : List Int)) ([] : List (S26)) 0) else (some false))) = some r := h
  clear h
  replace H := Option.bind_eq_some_iff.mp H
  obtain ⟨t832, A40, H⟩ := H
  replace H : (if t832 = true then (bournelaw2_LowHists.l0 k l0 a1 a2 (([(-100), 0, 50, 200] : List Int)) ([] : List (S26)) 0) else (some false)) = some r := H
  have A4 := Aside0.mk A40
  clear A40
  by_cases c5 : t832 = true
  · subst c5
    have H1 : (bournelaw2_LowHists.l0 k l0 a1 a2 (([(-100), 0, 50, 200] : List Int)) ([] : List (S26)) 0) = some r := by rw [if_pos rfl] at H; exact H
    clear H
    have H := H1
    clear H1
    obtain ⟨y833, hy833⟩ : ∃ y_ : List Int, y_ = (([(-100), 0, 50, 200] : List Int)) := ⟨_, rfl⟩
    replace H : (bournelaw2_LowHists.l0 k l0 a1 a2 y833 ([] : List (S26)) 0) = some r := by first | (rw [hy833]; with_reducible exact H) | (have H2_ := (Option.bind_some _ _).symm.trans H; rw [hy833]; with_reducible exact H2_) | (have H2_ := (Option.bind_some _ _).symm.trans H; with_reducible exact H2_) | with_reducible exact H | (rw [hy833]; exact H) | exact H
    have Ny833 := Aside0.mk hy833
    clear hy833
    have HC6 := Aside0.mk H
    clear H
    go_enter Try.func8, Try.ntmps8
    go_upto_block 0 with (first | ((with_reducible refine gate_callee (f := 23) rfl ?_); refine goesL_ (some 21) rfl rfl Try.func23 (by kernel_rfl) rfl #[] rfl (by (try simp only [List.map_toArray, List.map_cons, List.map_nil]); first | done | rfl | (simp only [List.length_drop, List.length_take]; rfl)) ?_; (with_reducible refine (bournelaw2_awake.calls  true _ A4.out).mono ?_); rintro e w7 ⟨rfl, hb⟩; refine ⟨_, rfl, ?_⟩; have n0_ := Aside0.mk (below_step (by repeat (first | (with_reducible first | exact HB.out | apply below_alloc | apply pw_below_drewN | apply below_drew1) | exact HB.out)) hb); clear HB; have HB := n0_; clear n0_; (try clear hb); (try clear hb2); (try clear hk); (try clear hi)) | ((with_reducible refine gate_dst (N := 23) rfl ?_); (try (refine gate_guard (by rfl) ?_; dsimp only)); refine Kd.R_lit (Kd.int .i64) _ 3 ?hg (N := 23) ?hd (xs := ([(-100), 0, 50, 200] : List Int)) (inner := [.int .i64 (-100), .int .i64 0, .int .i64 50, .int .i64 200]) (ok := fun _ => True) (okp := fun _ => True) ?hr ?hp (fun _ hk => hk) trivial (Below.refl _ _) (Nat.le_refl _) (by simp) ?_; (case hd => rfl); (case hg => rfl); (case hr => first | (go_simp; done) | (go_simp; rfl)); (case hp => exact (Reps.one (show Kd.M (Kd.int .i64) _ _ _ (-100) [.int .i64 (-100)] from rfl) (Reps.one (show Kd.M (Kd.int .i64) _ _ _ 0 [.int .i64 0] from rfl) (Reps.one (show Kd.M (Kd.int .i64) _ _ _ 50 [.int .i64 50] from rfl) (Reps.one (show Kd.M (Kd.int .i64) _ _ _ 200 [.int .i64 200] from rfl) (Reps.none _ _)))))); intro v834 w8 ho9 hb hg_ hnew_; clear hg_ hnew_; (first | rw [← Ny833.out] at ho9 | (simp only [Int.reduceToNat] at ho9; rw [← Ny833.out] at ho9)); have n0_ := Aside0.mk (Kd.R_lower ho9 (below_size (by repeat (first | (with_reducible first | exact HB.out | apply below_alloc | apply pw_below_drewN | apply below_drew1) | exact HB.out)))); have n1_ := Aside0.mk (below_step (by repeat (first | (with_reducible first | exact HB.out | apply below_alloc | apply pw_below_drewN | apply below_drew1) | exact HB.out)) hb); clear HB; have HO835 := n0_; have HB := n1_; clear n0_ n1_; clear hb ho9))
    (try simp only [Act.put, List.setIfInBounds_toArray, List.set_cons_zero, List.set_cons_succ])
    go_cut [8] (fun v8 wc => ∃ (kq : Nat) (x8_5 : List (S26)), Aside0 (bournelaw2_LowHists.j1 kq a1 a2 y833 x8_5 = some r) ∧ Aside0 (kq ≤ k) ∧ Aside0 (Kd.R (Kd.int .i64) 3 wc w.heap.size (fun _ => True) v834 y833) ∧ Aside0 (Kd.R k26 26 wc w.heap.size (fun _ => True) v8 x8_5) ∧ Aside0 (Below w.heap.size w wc))
    case first =>
      have H := HC6.out
      clear HC6
      have H' := Aside0.mk H
      clear H
      go_wp2
      go_loopg [8, 9] k (fun kq v8 v9 w' => ∃ (x8_1 : List (S26)) (x9_1 : Int), v9 = .int .i64 x9_1 ∧ Aside0 (bournelaw2_LowHists.l0 kq l0 a1 a2 y833 x8_1 x9_1 = some r) ∧ Aside0 (kq ≤ k) ∧ Aside0 (Kd.R (Kd.int .i64) 3 w' w.heap.size (fun _ => True) v834 y833) ∧ Aside0 (Kd.R k26 26 w' w.heap.size (fun _ => True) v8 x8_1) ∧ Aside0 (Below w.heap.size w w'))
      case atStart => exact ⟨(([] : List (S26))), (0), (by first | rfl | (simp; done) | (simp [*]; done)), H', ⟨Nat.le_refl _⟩, ⟨by (with_reducible repeat (first | apply Kd.R_alloc | apply Kd.R_drewN | apply Kd.R_drew)); exact HO835.out⟩, ⟨by first | exact Kd.R_nil _ _ _ _ _ | exact Kd.N_nil _ _ _ _ _ | exact Kd.V_nil _ _ _ _ _ | exact Kd.Q_nil _ _ _ _ _ | exact Kd.S_nil _ _ _ _ _⟩, ⟨by repeat (first | (with_reducible first | exact HB.out | apply below_alloc | apply pw_below_drewN | apply below_drew1) | exact HB.out)⟩⟩
      case round =>
        clear H'
        try clear c2
        try clear p2
        try clear c5
        try clear c8
        obtain ⟨x8_1, x9_1, rfl, HA, HK1, HO_7, HO_8, HB⟩ := hrel
        cases gk with
        | zero => exact absurd HA.out (by simp [bournelaw2_LowHists.l0])
        | succ k1 =>
          have H := HA.out
          clear HA
          simp only [bournelaw2_LowHists.l0] at H
          by_cases c10 : x9_1 < (l0.length : Int)
          · rw [if_pos c10] at H
            have c10b0 : decide (x9_1 < (l0.length : Int)) = true := decide_eq_true c10
            clear c10
            (first | rw [c10b0] | (simp only [i64_w, i32_w]; rw [c10b0]) | skip)
            by_cases c11 : x9_1 < 30
            · rw [if_pos c11] at H
              have c11b0 : decide (x9_1 < 30) = true := decide_eq_true c11
              clear c11
              by_cases c12 : 0 ≤ x9_1
              · rw [if_pos c12] at H
                have c12b0 : decide (0 ≤ x9_1) = true := decide_eq_true c12
                clear c12
                replace H := Option.bind_eq_some_iff.mp H
                obtain ⟨⟨t837, t838, t839, t840⟩, A130, H⟩ := H
                replace H : (if x8_1.length < 4398046511104 then (bournelaw2_LowHists.l0 k1 l0 a1 a2 y833 (x8_1 ++ [(⟨t837, t838, t839, t840⟩ : S26)]) (wrap64 (x9_1 + 1))) else (none)) = some r := H
                have A13 := Aside0.mk A130
                clear A130
                by_cases c14 : x8_1.length < 4398046511104
                · rw [if_pos c14] at H
                  have LMc14 := Aside0.mk c14
                  clear c14
                  obtain ⟨y841, hy841⟩ : ∃ y_ : List (S26), y_ = (x8_1 ++ [(⟨t837, t838, t839, t840⟩ : S26)]) := ⟨_, rfl⟩
                  replace H : (bournelaw2_LowHists.l0 k1 l0 a1 a2 y833 y841 (wrap64 (x9_1 + 1))) = some r := by first | (rw [hy841]; with_reducible exact H) | (have H2_ := (Option.bind_some _ _).symm.trans H; rw [hy841]; with_reducible exact H2_) | (have H2_ := (Option.bind_some _ _).symm.trans H; with_reducible exact H2_) | with_reducible exact H | (rw [hy841]; exact H) | exact H
                  have Ny841 := Aside0.mk hy841
                  clear hy841
                  have H' := Aside0.mk H
                  clear H
                  have p836 : 0 ≤ (x9_1 : Int) := of_decide_eq_true (by first | (with_reducible assumption) | assumption)
                  have q836 : x9_1 < (l0.length : Int) := of_decide_eq_true (by first | (with_reducible assumption) | assumption)
                  obtain ⟨ad836, e836, hx836_0⟩ := Kd.at_int HR0.out x9_1 p836 q836
                  cases e836
                  replace hx836_0 := (HB.out.cell (World.block_lt_of_cell? w _ hx836_0)).trans hx836_0
                  replace p836 := eq_true p836
                  replace q836 := eq_true q836
                  go_wp2_with (first | ((with_reducible refine gate_callee (f := 24) rfl ?_); refine goesL_ (some 44) rfl rfl Try.func24 (by kernel_rfl) rfl #[.int .i64 0, .int .i64 x9_1, .int .i64 (wrap64 (x9_1 + 1)), .int .i64 (wrap64 ((Go.bits .and .i64 (rd l0 x9_1) 1023) - 500))] rfl (by (try simp only [List.map_toArray, List.map_cons, List.map_nil]); first | done | rfl | (simp only [List.length_drop, List.length_take]; rfl)) ?_; (with_reducible refine (bournelaw2_item.calls 0 x9_1 (wrap64 (x9_1 + 1)) (wrap64 ((Go.bits .and .i64 (rd l0 x9_1) 1023) - 500)) t837 t838 t839 t840 _ A13.out).mono ?_); rintro e w15 ⟨rfl, hb⟩; refine ⟨_, rfl, ?_⟩; have n0_ := Aside0.mk (Kd.R_below (by (with_reducible repeat (first | apply Kd.R_alloc | apply Kd.R_drewN | apply Kd.R_drew)); exact HO_7.out) hb); have n1_ := Aside0.mk (Kd.R_below (by (with_reducible repeat (first | apply Kd.R_alloc | apply Kd.R_drewN | apply Kd.R_drew)); exact HO_8.out) hb); have n2_ := Aside0.mk (below_step (by repeat (first | (with_reducible first | exact HB.out | apply below_alloc | apply pw_below_drewN | apply below_drew1) | exact HB.out)) hb); clear HO_7; clear HO_8; clear HB; have HO_7 := n0_; have HO_8 := n1_; have HB := n2_; clear n0_ n1_ n2_; (try clear hb); (try clear hb2); (try clear hk); (try clear hi)) | ((with_reducible refine gate_builtin (b := .append) (xs := #[.tmp 34, .tmp 45]) rfl ?_); (try (refine gate_guard (by rfl) ?_; dsimp only)); at_builtin; refine Kd.R_append k26 (w0 := w) w.heap.size rfl (.tmp 34) (.tmp 45) 43 26 (.agg #[(.int .i64 0), (.int .i64 0), (.int .i64 0), (.int .i64 0)]) 32 rfl Try.underlying43 info26 rfl (by decide) (by omega) u8 x8_1 (⟨t837, t838, t839, t840⟩ : S26) [.int .i64 t837, .int .i64 t838, .int .i64 t839, .int .i64 t840] (fun _ => True) (fun _ => False) rfl rfl ?aP (fun _ hk => hk.elim) ?aF ?aO ?aB ?aS ?aL ?_; (case aP => exact k26_mkM _ _ _ (⟨t837, t838, t839, t840⟩ : S26)); (case aB => exact (by repeat (first | (with_reducible first | exact HB.out | apply below_alloc | apply pw_below_drewN | apply below_drew1) | exact HB.out))); (case aF => exact (fun _ _ => trivial)); (case aO => exact (by (with_reducible repeat (first | apply Kd.R_alloc | apply Kd.R_drewN | apply Kd.R_drew)); exact HO_8.out)); (case aS => exact (below_size (by repeat (first | (with_reducible first | exact HB.out | apply below_alloc | apply pw_below_drewN | apply below_drew1) | exact HB.out)))); (case aL => have := LMc14.out; omega); intro v842 w16 ho hb hg hat; rw [← Ny841.out] at ho; have n0_ := Aside0.mk (Kd.R_over' (by (with_reducible repeat (first | apply Kd.R_alloc | apply Kd.R_drewN | apply Kd.R_drew)); exact HO_7.out) (Kd.R_typed (by (with_reducible repeat (first | apply Kd.R_alloc | apply Kd.R_drewN | apply Kd.R_drew)); exact HO_8.out)) (by decide) hg); have n1_ := Aside0.mk (hb); have n2_ := Aside0.mk (ho); clear HO_7; clear HB; clear HO_8; have HO_7 := n0_; have HB := n1_; have HO843 := n2_; clear n0_ n1_ n2_; clear ho hb hg hat))
                  go_roundg k1
                  case measure => have := HK1.out; omega
                  case rel => exact ⟨(y841), (wrap64 (x9_1 + 1)), (by first | rfl | (simp; done) | (simp [*]; done)), H', ⟨by have := HK1.out; omega⟩, ⟨by (with_reducible repeat (first | apply Kd.R_alloc | apply Kd.R_drewN | apply Kd.R_drew)); exact HO_7.out⟩, ⟨by (with_reducible repeat (first | apply Kd.R_alloc | apply Kd.R_drewN | apply Kd.R_drew)); exact HO843.out⟩, ⟨by repeat (first | (with_reducible first | exact HB.out | apply below_alloc | apply pw_below_drewN | apply below_drew1) | exact HB.out)⟩⟩
                · rw [if_neg c14] at H
                  exact absurd H (by simp)
              · rw [if_neg c12] at H
                exact absurd H (by simp)
            · rw [if_neg c11] at H
              have c11b0 : decide (x9_1 < 30) = false := decide_eq_false c11
              clear c11
              have H' := Aside0.mk H
              clear H
              go_wp2
              go_meet
              case rel => exact ⟨_, (x8_1), H', ⟨by have := HK1.out; first | omega | exact Nat.le_refl _⟩, ⟨by (with_reducible repeat (first | apply Kd.R_alloc | apply Kd.R_drewN | apply Kd.R_drew)); exact HO_7.out⟩, ⟨by (with_reducible repeat (first | apply Kd.R_alloc | apply Kd.R_drewN | apply Kd.R_drew)); exact HO_8.out⟩, ⟨by repeat (first | (with_reducible first | exact HB.out | apply below_alloc | apply pw_below_drewN | apply below_drew1) | exact HB.out)⟩⟩
          · rw [if_neg c10] at H
            have c10b0 : decide (x9_1 < (l0.length : Int)) = false := decide_eq_false c10
            clear c10
            (first | rw [c10b0] | (simp only [i64_w, i32_w]; rw [c10b0]) | skip)
            have H' := Aside0.mk H
            clear H
            go_wp2
            go_meet
            case rel => exact ⟨_, (x8_1), H', ⟨by have := HK1.out; first | omega | exact Nat.le_refl _⟩, ⟨by (with_reducible repeat (first | apply Kd.R_alloc | apply Kd.R_drewN | apply Kd.R_drew)); exact HO_7.out⟩, ⟨by (with_reducible repeat (first | apply Kd.R_alloc | apply Kd.R_drewN | apply Kd.R_drew)); exact HO_8.out⟩, ⟨by repeat (first | (with_reducible first | exact HB.out | apply below_alloc | apply pw_below_drewN | apply below_drew1) | exact HB.out)⟩⟩
    case rest =>
      clear HC6
      try clear c1
      try clear c2
      try clear p2
      try clear c5
      try clear p6
      try clear c8
      try clear p8
      try clear q8
      try clear hx8
      try clear c10
      try clear c10b0
      try clear c11
      try clear c11b0
      try clear c12
      try clear c12b0
      try clear c14
      try clear hx836_0
      try clear p2
      try clear p836
      try clear q836
      obtain ⟨kq, x8_5, HA, HJ5, HO_7, HO_8, HB⟩ := hcut
      cases kq with
      | zero => exact absurd HA.out (by simp [bournelaw2_LowHists.j1])
      | succ kj5 =>
        have H := HA.out
        clear HA
        simp only [bournelaw2_LowHists.j1] at H
        by_cases c17 : (x8_5.length : Int) = 0
        · rw [if_pos c17] at H
          have c17b0 : ((x8_5.length : Int) == 0) = true := beq_iff_eq.mpr c17
          have c17b1 : ((x8_5.length : Int) != 0) = false := bne_eq_false_iff_eq.mpr c17
          clear c17
          obtain rfl := Option.some.inj H
          obtain ⟨Ao18, co18, eo18⟩ := Kd.R_slice HO_8.out
          subst eo18
          go_wp2
          go_ret
          exact ⟨by first | rfl | (simp [errW_none, errW_some] <;> rfl) | (simp [*, errW_none, errW_some] <;> rfl), by repeat (first | (with_reducible first | exact HB.out | apply below_alloc | apply pw_below_drewN | apply below_drew1) | exact HB.out)⟩
        · rw [if_neg c17] at H
          have c17b0 : ((x8_5.length : Int) == 0) = false := beq_eq_false_iff_ne.mpr c17
          have c17b1 : ((x8_5.length : Int) != 0) = true := bne_iff_ne.mpr c17
          have c17b2 : ¬ (x8_5 = []) := fun h_ => c17 (by rw [h_]; rfl)
          replace H := Option.bind_eq_some_iff.mp H
          obtain ⟨⟨t844, t845, t846, t847, t848, t849, t850, t851, t852, t853, t854, t855, t856⟩, A190, H⟩ := H
          replace H : ((low_Value.f 0 6 0 0 y833 0 t844 t845 t846 t847 t848 t849 t850 t851 t852 t853 t854 t855 t856).bind fun bt860 => ((low_Value.f 0 7 0 0 y833 (mn (wrap64 (Int.tmod (IntKind.u64.wrap (a1)) 1001)) (wrap64 (Int.tmod (IntKind.u64.wrap (a2)) 1001))) t844 t845 t846 t847 t848 t849 t850 t851 t852 t853 t854 t855 t856).bind fun bt867 => ((low_Value.f 0 7 0 0 y833 (mx (wrap64 (Int.tmod (IntKind.u64.wrap (a1)) 1001)) (wrap64 (Int.tmod (IntKind.u64.wrap (a2)) 1001))) t844 t845 t846 t847 t848 t849 t850 t851 t852 t853 t854 t855 t856).bind fun bt874 => (bournelaw2_LowHists.l1 kj5 x8_5 bt860.2.2.2 bt867.2.2.2 bt874.2.2.2 0 0 bt860.1 bt860.2.1 bt860.2.2.1 bt867.1 bt867.2.1 bt867.2.2.1 bt874.1 bt874.2.1 bt874.2.2.1)))) = some r := H
          have A19 := Aside0.mk A190
          clear A190
          replace H := Option.bind_eq_some_iff.mp H
          obtain ⟨⟨t860, t861, t862, t865⟩, A200, H⟩ := H
          replace H : ((low_Value.f 0 7 0 0 y833 (mn (wrap64 (Int.tmod (IntKind.u64.wrap (a1)) 1001)) (wrap64 (Int.tmod (IntKind.u64.wrap (a2)) 1001))) t844 t845 t846 t847 t848 t849 t850 t851 t852 t853 t854 t855 t856).bind fun bt867 => ((low_Value.f 0 7 0 0 y833 (mx (wrap64 (Int.tmod (IntKind.u64.wrap (a1)) 1001)) (wrap64 (Int.tmod (IntKind.u64.wrap (a2)) 1001))) t844 t845 t846 t847 t848 t849 t850 t851 t852 t853 t854 t855 t856).bind fun bt874 => (bournelaw2_LowHists.l1 kj5 x8_5 t865 bt867.2.2.2 bt874.2.2.2 0 0 t860 t861 t862 bt867.1 bt867.2.1 bt867.2.2.1 bt874.1 bt874.2.1 bt874.2.2.1))) = some r := H
          have A20 := Aside0.mk A200
          clear A200
          obtain ⟨ji21, hji21⟩ : ∃ j_ : Int, (mn (wrap64 (Int.tmod (IntKind.u64.wrap (a1)) 1001)) (wrap64 (Int.tmod (IntKind.u64.wrap (a2)) 1001))) = j_ := ⟨_, rfl⟩
          replace H : ((low_Value.f 0 7 0 0 y833 (ji21) t844 t845 t846 t847 t848 t849 t850 t851 t852 t853 t854 t855 t856).bind fun bt867 => ((low_Value.f 0 7 0 0 y833 (mx (wrap64 (Int.tmod (IntKind.u64.wrap (a1)) 1001)) (wrap64 (Int.tmod (IntKind.u64.wrap (a2)) 1001))) t844 t845 t846 t847 t848 t849 t850 t851 t852 t853 t854 t855 t856).bind fun bt874 => (bournelaw2_LowHists.l1 kj5 x8_5 t865 bt867.2.2.2 bt874.2.2.2 0 0 t860 t861 t862 bt867.1 bt867.2.1 bt867.2.2.1 bt874.1 bt874.2.1 bt874.2.2.1))) = some r := by first | (rw [hji21] at H; exact H) | (simp only [hji21] at H ⊢; exact H)
          (try rw [hji21] at A19)
          (try rw [hji21] at A20)
          have hji21_ : (if (wrap64 (Int.tmod (IntKind.u64.wrap (a2)) 1001)) < (wrap64 (Int.tmod (IntKind.u64.wrap (a1)) 1001)) then (wrap64 (Int.tmod (IntKind.u64.wrap (a2)) 1001)) else (wrap64 (Int.tmod (IntKind.u64.wrap (a1)) 1001))) = ji21 := hji21
          replace H := Option.bind_eq_some_iff.mp H
          obtain ⟨⟨t867, t868, t869, t872⟩, A220, H⟩ := H
          replace H : ((low_Value.f 0 7 0 0 y833 (mx (wrap64 (Int.tmod (IntKind.u64.wrap (a1)) 1001)) (wrap64 (Int.tmod (IntKind.u64.wrap (a2)) 1001))) t844 t845 t846 t847 t848 t849 t850 t851 t852 t853 t854 t855 t856).bind fun bt874 => (bournelaw2_LowHists.l1 kj5 x8_5 t865 t872 bt874.2.2.2 0 0 t860 t861 t862 t867 t868 t869 bt874.1 bt874.2.1 bt874.2.2.1)) = some r := H
          have A22 := Aside0.mk A220
          clear A220
          obtain ⟨ji23, hji23⟩ : ∃ j_ : Int, (mx (wrap64 (Int.tmod (IntKind.u64.wrap (a1)) 1001)) (wrap64 (Int.tmod (IntKind.u64.wrap (a2)) 1001))) = j_ := ⟨_, rfl⟩
          replace H : ((low_Value.f 0 7 0 0 y833 (ji23) t844 t845 t846 t847 t848 t849 t850 t851 t852 t853 t854 t855 t856).bind fun bt874 => (bournelaw2_LowHists.l1 kj5 x8_5 t865 t872 bt874.2.2.2 0 0 t860 t861 t862 t867 t868 t869 bt874.1 bt874.2.1 bt874.2.2.1)) = some r := by first | (rw [hji23] at H; exact H) | (simp only [hji23] at H ⊢; exact H)
          (try rw [hji23] at A19)
          (try rw [hji23] at A20)
          (try rw [hji23] at A22)
          have hji23_ : (if (wrap64 (Int.tmod (IntKind.u64.wrap (a1)) 1001)) < (wrap64 (Int.tmod (IntKind.u64.wrap (a2)) 1001)) then (wrap64 (Int.tmod (IntKind.u64.wrap (a2)) 1001)) else (wrap64 (Int.tmod (IntKind.u64.wrap (a1)) 1001))) = ji23 := hji23
          replace H := Option.bind_eq_some_iff.mp H
          obtain ⟨⟨t874, t875, t876, t879⟩, A240, H⟩ := H
          replace H : (bournelaw2_LowHists.l1 kj5 x8_5 t865 t872 t879 0 0 t860 t861 t862 t867 t868 t869 t874 t875 t876) = some r := H
          have A24 := Aside0.mk A240
          clear A240
          have H' := Aside0.mk H
          clear H
          obtain ⟨Ao25, co25, eo25⟩ := Kd.R_slice HO_8.out
          subst eo25
          obtain ⟨Ao26, co26, eo26⟩ := Kd.R_slice HO_7.out
          subst eo26
          go_wp2_with (first | ((with_reducible refine gate_callee (f := 25) rfl ?_); refine goesL_ (some 52) rfl rfl Try.func25 (by kernel_rfl) rfl #[.slice Ao25 x8_5.length co25, .slice Ao26 y833.length co26] rfl (by (try simp only [List.map_toArray, List.map_cons, List.map_nil]); first | done | rfl | (simp only [List.length_drop, List.length_take]; rfl)) ?_; (with_reducible refine (bournelaw2_fold.calls kj5 _ _ x8_5 _ _ y833 t844 t845 t846 t847 t848 t849 t850 t851 t852 t853 t854 t855 t856 _ ?side1 ?side2 ?side3 ?side4 A19.out).mono ?_); (case side1 => repeat (first | exact (Kd.R_reads' HO_8.out).2.2 | (with_reducible refine Kd.C_alloc ?_ _) | (with_reducible refine Kd.C_drewN ?_ _) | (with_reducible refine Kd.C_drew ?_))); (case side2 => exact (Kd.R_reads' HO_8.out).2.1); (case side3 => repeat (first | exact (Kd.R_reads' HO_7.out).2.2 | (with_reducible refine Kd.C_alloc ?_ _) | (with_reducible refine Kd.C_drewN ?_ _) | (with_reducible refine Kd.C_drew ?_))); (case side4 => exact (Kd.R_reads' HO_7.out).2.1); rintro e w27 ⟨v857, rfl, ho0, hb⟩; refine ⟨_, rfl, ?_⟩; have n0_ := Aside0.mk (Kd.R_elder' (by (with_reducible repeat (first | apply Kd.R_alloc | apply Kd.R_drewN | apply Kd.R_drew)); exact HO_7.out) (Kd.R_base ho0) hb); have n1_ := Aside0.mk (Kd.R_below (by (with_reducible repeat (first | apply Kd.R_alloc | apply Kd.R_drewN | apply Kd.R_drew)); exact HO_8.out) hb); have n2_ := Aside0.mk (Kd.R_lower (Kd.R_new' ho0 (Kd.R_lt (by (with_reducible repeat (first | apply Kd.R_alloc | apply Kd.R_drewN | apply Kd.R_drew)); exact HO_7.out))) (below_size (by repeat (first | (with_reducible first | exact HB.out | apply below_alloc | apply pw_below_drewN | apply below_drew1) | exact HB.out)))); have n3_ := Aside0.mk (below_step (by repeat (first | (with_reducible first | exact HB.out | apply below_alloc | apply pw_below_drewN | apply below_drew1) | exact HB.out)) hb); clear HO_7; clear HO_8; clear HB; have HO_7 := n0_; have HO_8 := n1_; have HO858 := n2_; have HB := n3_; clear n0_ n1_ n2_ n3_; (try clear hb); (try clear hb2); (try clear hk); (try clear hi); (try clear ho0)) | ((with_reducible refine gate_dst (N := 10) rfl ?_); (try (refine gate_guard (by rfl) ?_; dsimp only)); refine box_event ?hg (N := 10) ?hd (cs := #[.int .i64 0, .int .i64 0, .int .i64 0, .int .i64 0, .int .i64 0, .int .i64 0, .int .i64 0, .int .i64 0, .int .i64 0, .int .i64 0, .int .i64 0, .int .i64 0, .slice none 0 0]) (t := 28) ?hr ?_; (case hd => rfl); (case hg => rfl); (case hr => first | (go_simp; done) | (go_simp; rfl)); intro gb859 hg w28 hbox hb; have n0_ := Aside0.mk (Kd.R_below (by (with_reducible repeat (first | apply Kd.R_alloc | apply Kd.R_drewN | apply Kd.R_drew)); exact HO_7.out) hb); have n1_ := Aside0.mk (Kd.R_below (by (with_reducible repeat (first | apply Kd.R_alloc | apply Kd.R_drewN | apply Kd.R_drew)); exact HO_8.out) hb); have n2_ := Aside0.mk (Kd.R_below (by (with_reducible repeat (first | apply Kd.R_alloc | apply Kd.R_drewN | apply Kd.R_drew)); exact HO858.out) hb); have n3_ := Aside0.mk (below_step (by repeat (first | (with_reducible first | exact HB.out | apply below_alloc | apply pw_below_drewN | apply below_drew1) | exact HB.out)) hb); have n4_ := Aside0.mk (hbox); have n5_ := Aside0.mk ((by rw [hg]; exact (below_size (by repeat (first | (with_reducible first | exact HB.out | apply below_alloc | apply pw_below_drewN | apply below_drew1) | exact HB.out))) : w.heap.size ≤ gb859)); have n6_ := Aside0.mk ((by rw [hg]; exact (below_size (by repeat (first | (with_reducible first | exact HB.out | apply below_alloc | apply pw_below_drewN | apply below_drew1) | exact HB.out))) : w.heap.size ≤ gb859)); clear HO_7; clear HO_8; clear HO858; clear HB; have HO_7 := n0_; have HO_8 := n1_; have HO858 := n2_; have HB := n3_; have BK859 := n4_; have GW859 := n5_; have GE859 := n6_; clear n0_ n1_ n2_ n3_ n4_ n5_ n6_; clear hb hbox hg; have hcz29_0 : w28.cell? ⟨gb859, 0, none⟩ = some (.int .i64 0) := (blk_cell BK859.out 0).trans rfl; have hcz29_1 : w28.cell? ⟨gb859, 1, none⟩ = some (.int .i64 0) := (blk_cell BK859.out 1).trans rfl; have hcz29_2 : w28.cell? ⟨gb859, 2, none⟩ = some (.int .i64 0) := (blk_cell BK859.out 2).trans rfl; have hcz29_3 : w28.cell? ⟨gb859, 3, none⟩ = some (.int .i64 0) := (blk_cell BK859.out 3).trans rfl; have hcz29_4 : w28.cell? ⟨gb859, 4, none⟩ = some (.int .i64 0) := (blk_cell BK859.out 4).trans rfl; have hcz29_5 : w28.cell? ⟨gb859, 5, none⟩ = some (.int .i64 0) := (blk_cell BK859.out 5).trans rfl; have hcz29_6 : w28.cell? ⟨gb859, 6, none⟩ = some (.int .i64 0) := (blk_cell BK859.out 6).trans rfl; have hcz29_7 : w28.cell? ⟨gb859, 7, none⟩ = some (.int .i64 0) := (blk_cell BK859.out 7).trans rfl; have hcz29_8 : w28.cell? ⟨gb859, 8, none⟩ = some (.int .i64 0) := (blk_cell BK859.out 8).trans rfl; have hcz29_9 : w28.cell? ⟨gb859, 9, none⟩ = some (.int .i64 0) := (blk_cell BK859.out 9).trans rfl; have hcz29_10 : w28.cell? ⟨gb859, 10, none⟩ = some (.int .i64 0) := (blk_cell BK859.out 10).trans rfl; have hcz29_11 : w28.cell? ⟨gb859, 11, none⟩ = some (.int .i64 0) := (blk_cell BK859.out 11).trans rfl; have hcz29_12 : w28.cell? ⟨gb859, 12, none⟩ = some (.slice none 0 0) := (blk_cell BK859.out 12).trans rfl; have hfz29_0 := blk_frozen BK859.out 0; have hfz29_1 := blk_frozen BK859.out 1; have hfz29_2 := blk_frozen BK859.out 2; have hfz29_3 := blk_frozen BK859.out 3; have hfz29_4 := blk_frozen BK859.out 4; have hfz29_5 := blk_frozen BK859.out 5; have hfz29_6 := blk_frozen BK859.out 6; have hfz29_7 := blk_frozen BK859.out 7; have hfz29_8 := blk_frozen BK859.out 8; have hfz29_9 := blk_frozen BK859.out 9; have hfz29_10 := blk_frozen BK859.out 10; have hfz29_11 := blk_frozen BK859.out 11; have hfz29_12 := blk_frozen BK859.out 12; obtain ⟨Ao30, co30, eo30⟩ := Kd.R_slice HO858.out; subst eo30) | ((with_reducible refine gate_callee (f := 17) rfl ?_); refine goesL_ (some 57) rfl rfl Try.func17 (by kernel_rfl) rfl #[.agg #[.int .i64 0, .int .i64 6, .int .i64 0, .int .i64 0, .slice Ao26 y833.length co26, .int .i64 0], .agg #[.int .i64 t844, .int .i64 t845, .int .i64 t846, .int .i64 t847, .int .i64 t848, .int .i64 t849, .int .i64 t850, .int .i64 t851, .int .i64 t852, .int .i64 t853, .int .i64 t854, .int .i64 t855, .slice Ao30 t856.length co30]] rfl (by (try simp only [List.map_toArray, List.map_cons, List.map_nil]); first | done | rfl | (simp only [List.length_drop, List.length_take]; rfl)) ?_; (with_reducible refine (low_Value.calls 0 6 0 0 _ _ y833 0 t844 t845 t846 t847 t848 t849 t850 t851 t852 t853 t854 t855 _ _ t856 t860 t861 t862 t865 _ ?side1 ?side2 ?side3 ?side4 A20.out).mono ?_); (case side1 => refine (Kd.R_reads' (e := 3) (base := w.heap.size) (ok := fun k_ => (True ∧ some k_ ≠ (.slice Ao30 t856.length co30 : Value).ownBlock)) (n := y833.length) (c := co26) ?_).2.2; exact (by (with_reducible repeat (first | apply Kd.R_alloc | apply Kd.R_drewN | apply Kd.R_drew)); exact (Kd.R_mono (Kd.R_far (p := ⟨gb859, 12, none⟩) (Kd.R_far (p := ⟨gb859, 11, none⟩) (Kd.R_far (p := ⟨gb859, 10, none⟩) (Kd.R_far (p := ⟨gb859, 9, none⟩) (Kd.R_far (p := ⟨gb859, 8, none⟩) (Kd.R_far (p := ⟨gb859, 7, none⟩) (Kd.R_far (p := ⟨gb859, 6, none⟩) (Kd.R_far (p := ⟨gb859, 5, none⟩) (Kd.R_far (p := ⟨gb859, 4, none⟩) (Kd.R_far (p := ⟨gb859, 3, none⟩) (Kd.R_far (p := ⟨gb859, 2, none⟩) (Kd.R_far (p := ⟨gb859, 1, none⟩) (Kd.R_far (p := ⟨gb859, 0, none⟩) (Kd.R_types HO_7.out BK859.out (by decide)) (fun _ hk => hk.2) (.int .i64 t844)) (fun _ hk => hk.2) (.int .i64 t845)) (fun _ hk => hk.2) (.int .i64 t846)) (fun _ hk => hk.2) (.int .i64 t847)) (fun _ hk => hk.2) (.int .i64 t848)) (fun _ hk => hk.2) (.int .i64 t849)) (fun _ hk => hk.2) (.int .i64 t850)) (fun _ hk => hk.2) (.int .i64 t851)) (fun _ hk => hk.2) (.int .i64 t852)) (fun _ hk => hk.2) (.int .i64 t853)) (fun _ hk => hk.2) (.int .i64 t854)) (fun _ hk => hk.2) (.int .i64 t855)) (fun _ hk => hk.2) (.slice Ao30 t856.length co30)) (fun _ h_ => h_.1)))); (case side2 => exact (Kd.R_reads' HO_7.out).2.1); (case side3 => refine (Kd.R_reads' (e := 3) (base := w.heap.size) (ok := fun k_ => (True ∧ some k_ ≠ (.slice Ao26 y833.length co26 : Value).ownBlock)) (n := t856.length) (c := co30) ?_).2.2; exact (by (with_reducible repeat (first | apply Kd.R_alloc | apply Kd.R_drewN | apply Kd.R_drew)); exact (Kd.R_mono (Kd.R_far (p := ⟨gb859, 12, none⟩) (Kd.R_far (p := ⟨gb859, 11, none⟩) (Kd.R_far (p := ⟨gb859, 10, none⟩) (Kd.R_far (p := ⟨gb859, 9, none⟩) (Kd.R_far (p := ⟨gb859, 8, none⟩) (Kd.R_far (p := ⟨gb859, 7, none⟩) (Kd.R_far (p := ⟨gb859, 6, none⟩) (Kd.R_far (p := ⟨gb859, 5, none⟩) (Kd.R_far (p := ⟨gb859, 4, none⟩) (Kd.R_far (p := ⟨gb859, 3, none⟩) (Kd.R_far (p := ⟨gb859, 2, none⟩) (Kd.R_far (p := ⟨gb859, 1, none⟩) (Kd.R_far (p := ⟨gb859, 0, none⟩) (Kd.R_types HO858.out BK859.out (by decide)) (fun _ hk => hk.2) (.int .i64 t844)) (fun _ hk => hk.2) (.int .i64 t845)) (fun _ hk => hk.2) (.int .i64 t846)) (fun _ hk => hk.2) (.int .i64 t847)) (fun _ hk => hk.2) (.int .i64 t848)) (fun _ hk => hk.2) (.int .i64 t849)) (fun _ hk => hk.2) (.int .i64 t850)) (fun _ hk => hk.2) (.int .i64 t851)) (fun _ hk => hk.2) (.int .i64 t852)) (fun _ hk => hk.2) (.int .i64 t853)) (fun _ hk => hk.2) (.int .i64 t854)) (fun _ hk => hk.2) (.int .i64 t855)) (fun _ hk => hk.2) (.slice Ao30 t856.length co30)) (fun _ h_ => h_.1)))); (case side4 => exact (Kd.R_reads' HO858.out).2.1); rintro e w31 ⟨v863, rfl, ho0, hb⟩; refine ⟨_, rfl, ?_⟩; have n0_ := Aside0.mk (Kd.R_elder' (by (with_reducible repeat (first | apply Kd.R_alloc | apply Kd.R_drewN | apply Kd.R_drew)); exact (Kd.R_mono (Kd.R_far (p := ⟨gb859, 12, none⟩) (Kd.R_far (p := ⟨gb859, 11, none⟩) (Kd.R_far (p := ⟨gb859, 10, none⟩) (Kd.R_far (p := ⟨gb859, 9, none⟩) (Kd.R_far (p := ⟨gb859, 8, none⟩) (Kd.R_far (p := ⟨gb859, 7, none⟩) (Kd.R_far (p := ⟨gb859, 6, none⟩) (Kd.R_far (p := ⟨gb859, 5, none⟩) (Kd.R_far (p := ⟨gb859, 4, none⟩) (Kd.R_far (p := ⟨gb859, 3, none⟩) (Kd.R_far (p := ⟨gb859, 2, none⟩) (Kd.R_far (p := ⟨gb859, 1, none⟩) (Kd.R_far (p := ⟨gb859, 0, none⟩) (Kd.R_types HO_7.out BK859.out (by decide)) (fun _ hk => hk.2) (.int .i64 t844)) (fun _ hk => hk.2) (.int .i64 t845)) (fun _ hk => hk.2) (.int .i64 t846)) (fun _ hk => hk.2) (.int .i64 t847)) (fun _ hk => hk.2) (.int .i64 t848)) (fun _ hk => hk.2) (.int .i64 t849)) (fun _ hk => hk.2) (.int .i64 t850)) (fun _ hk => hk.2) (.int .i64 t851)) (fun _ hk => hk.2) (.int .i64 t852)) (fun _ hk => hk.2) (.int .i64 t853)) (fun _ hk => hk.2) (.int .i64 t854)) (fun _ hk => hk.2) (.int .i64 t855)) (fun _ hk => hk.2) (.slice Ao30 t856.length co30)) (fun _ h_ => h_.1))) (Kd.R_base ho0) hb); have n1_ := Aside0.mk (Kd.R_below (by (with_reducible repeat (first | apply Kd.R_alloc | apply Kd.R_drewN | apply Kd.R_drew)); exact (Kd.R_mono (Kd.R_far (p := ⟨gb859, 12, none⟩) (Kd.R_far (p := ⟨gb859, 11, none⟩) (Kd.R_far (p := ⟨gb859, 10, none⟩) (Kd.R_far (p := ⟨gb859, 9, none⟩) (Kd.R_far (p := ⟨gb859, 8, none⟩) (Kd.R_far (p := ⟨gb859, 7, none⟩) (Kd.R_far (p := ⟨gb859, 6, none⟩) (Kd.R_far (p := ⟨gb859, 5, none⟩) (Kd.R_far (p := ⟨gb859, 4, none⟩) (Kd.R_far (p := ⟨gb859, 3, none⟩) (Kd.R_far (p := ⟨gb859, 2, none⟩) (Kd.R_far (p := ⟨gb859, 1, none⟩) (Kd.R_far (p := ⟨gb859, 0, none⟩) (Kd.R_types HO_8.out BK859.out (by decide)) (fun _ hk => hk.2) (.int .i64 t844)) (fun _ hk => hk.2) (.int .i64 t845)) (fun _ hk => hk.2) (.int .i64 t846)) (fun _ hk => hk.2) (.int .i64 t847)) (fun _ hk => hk.2) (.int .i64 t848)) (fun _ hk => hk.2) (.int .i64 t849)) (fun _ hk => hk.2) (.int .i64 t850)) (fun _ hk => hk.2) (.int .i64 t851)) (fun _ hk => hk.2) (.int .i64 t852)) (fun _ hk => hk.2) (.int .i64 t853)) (fun _ hk => hk.2) (.int .i64 t854)) (fun _ hk => hk.2) (.int .i64 t855)) (fun _ hk => hk.2) (.slice Ao30 t856.length co30)) (fun _ h_ => h_.1))) hb); have n2_ := Aside0.mk (Kd.R_elder' (by (with_reducible repeat (first | apply Kd.R_alloc | apply Kd.R_drewN | apply Kd.R_drew)); exact (Kd.R_mono (Kd.R_far (p := ⟨gb859, 12, none⟩) (Kd.R_far (p := ⟨gb859, 11, none⟩) (Kd.R_far (p := ⟨gb859, 10, none⟩) (Kd.R_far (p := ⟨gb859, 9, none⟩) (Kd.R_far (p := ⟨gb859, 8, none⟩) (Kd.R_far (p := ⟨gb859, 7, none⟩) (Kd.R_far (p := ⟨gb859, 6, none⟩) (Kd.R_far (p := ⟨gb859, 5, none⟩) (Kd.R_far (p := ⟨gb859, 4, none⟩) (Kd.R_far (p := ⟨gb859, 3, none⟩) (Kd.R_far (p := ⟨gb859, 2, none⟩) (Kd.R_far (p := ⟨gb859, 1, none⟩) (Kd.R_far (p := ⟨gb859, 0, none⟩) (Kd.R_types HO858.out BK859.out (by decide)) (fun _ hk => hk.2) (.int .i64 t844)) (fun _ hk => hk.2) (.int .i64 t845)) (fun _ hk => hk.2) (.int .i64 t846)) (fun _ hk => hk.2) (.int .i64 t847)) (fun _ hk => hk.2) (.int .i64 t848)) (fun _ hk => hk.2) (.int .i64 t849)) (fun _ hk => hk.2) (.int .i64 t850)) (fun _ hk => hk.2) (.int .i64 t851)) (fun _ hk => hk.2) (.int .i64 t852)) (fun _ hk => hk.2) (.int .i64 t853)) (fun _ hk => hk.2) (.int .i64 t854)) (fun _ hk => hk.2) (.int .i64 t855)) (fun _ hk => hk.2) (.slice Ao30 t856.length co30)) (fun _ h_ => h_.1))) (Kd.R_base ho0) hb); have n3_ := Aside0.mk (Kd.R_lower (Kd.R_new' (Kd.R_new' ho0 (Kd.R_lt (by (with_reducible repeat (first | apply Kd.R_alloc | apply Kd.R_drewN | apply Kd.R_drew)); exact (Kd.R_mono (Kd.R_far (p := ⟨gb859, 12, none⟩) (Kd.R_far (p := ⟨gb859, 11, none⟩) (Kd.R_far (p := ⟨gb859, 10, none⟩) (Kd.R_far (p := ⟨gb859, 9, none⟩) (Kd.R_far (p := ⟨gb859, 8, none⟩) (Kd.R_far (p := ⟨gb859, 7, none⟩) (Kd.R_far (p := ⟨gb859, 6, none⟩) (Kd.R_far (p := ⟨gb859, 5, none⟩) (Kd.R_far (p := ⟨gb859, 4, none⟩) (Kd.R_far (p := ⟨gb859, 3, none⟩) (Kd.R_far (p := ⟨gb859, 2, none⟩) (Kd.R_far (p := ⟨gb859, 1, none⟩) (Kd.R_far (p := ⟨gb859, 0, none⟩) (Kd.R_types HO_7.out BK859.out (by decide)) (fun _ hk => hk.2) (.int .i64 t844)) (fun _ hk => hk.2) (.int .i64 t845)) (fun _ hk => hk.2) (.int .i64 t846)) (fun _ hk => hk.2) (.int .i64 t847)) (fun _ hk => hk.2) (.int .i64 t848)) (fun _ hk => hk.2) (.int .i64 t849)) (fun _ hk => hk.2) (.int .i64 t850)) (fun _ hk => hk.2) (.int .i64 t851)) (fun _ hk => hk.2) (.int .i64 t852)) (fun _ hk => hk.2) (.int .i64 t853)) (fun _ hk => hk.2) (.int .i64 t854)) (fun _ hk => hk.2) (.int .i64 t855)) (fun _ hk => hk.2) (.slice Ao30 t856.length co30)) (fun _ h_ => h_.1))))) (Kd.R_lt (by (with_reducible repeat (first | apply Kd.R_alloc | apply Kd.R_drewN | apply Kd.R_drew)); exact (Kd.R_mono (Kd.R_far (p := ⟨gb859, 12, none⟩) (Kd.R_far (p := ⟨gb859, 11, none⟩) (Kd.R_far (p := ⟨gb859, 10, none⟩) (Kd.R_far (p := ⟨gb859, 9, none⟩) (Kd.R_far (p := ⟨gb859, 8, none⟩) (Kd.R_far (p := ⟨gb859, 7, none⟩) (Kd.R_far (p := ⟨gb859, 6, none⟩) (Kd.R_far (p := ⟨gb859, 5, none⟩) (Kd.R_far (p := ⟨gb859, 4, none⟩) (Kd.R_far (p := ⟨gb859, 3, none⟩) (Kd.R_far (p := ⟨gb859, 2, none⟩) (Kd.R_far (p := ⟨gb859, 1, none⟩) (Kd.R_far (p := ⟨gb859, 0, none⟩) (Kd.R_types HO858.out BK859.out (by decide)) (fun _ hk => hk.2) (.int .i64 t844)) (fun _ hk => hk.2) (.int .i64 t845)) (fun _ hk => hk.2) (.int .i64 t846)) (fun _ hk => hk.2) (.int .i64 t847)) (fun _ hk => hk.2) (.int .i64 t848)) (fun _ hk => hk.2) (.int .i64 t849)) (fun _ hk => hk.2) (.int .i64 t850)) (fun _ hk => hk.2) (.int .i64 t851)) (fun _ hk => hk.2) (.int .i64 t852)) (fun _ hk => hk.2) (.int .i64 t853)) (fun _ hk => hk.2) (.int .i64 t854)) (fun _ hk => hk.2) (.int .i64 t855)) (fun _ hk => hk.2) (.slice Ao30 t856.length co30)) (fun _ h_ => h_.1))))) (below_size (by repeat (first | (with_reducible first | exact HB.out | apply below_alloc | apply pw_below_drewN | apply below_drew1 | refine below_set ?_ GE859.out) | exact HB.out)))); have n4_ := Aside0.mk (blk_below (g := gb859) (o := .cells #[.int .i64 t844, .int .i64 t845, .int .i64 t846, .int .i64 t847, .int .i64 t848, .int .i64 t849, .int .i64 t850, .int .i64 t851, .int .i64 t852, .int .i64 t853, .int .i64 t854, .int .i64 t855, .slice Ao30 t856.length co30] 28 (0, 0)) (by (with_reducible repeat (first | refine blk_drewN ?_ _ | refine blk_drew ?_ | refine blk_alloc ?_ _)); refine blk_put (cs := #[.int .i64 t844, .int .i64 t845, .int .i64 t846, .int .i64 t847, .int .i64 t848, .int .i64 t849, .int .i64 t850, .int .i64 t851, .int .i64 t852, .int .i64 t853, .int .i64 t854, .int .i64 t855, .slice none 0 0]) ?_ 12 _ rfl; (with_reducible repeat (first | refine blk_drewN ?_ _ | refine blk_drew ?_ | refine blk_alloc ?_ _)); refine blk_put (cs := #[.int .i64 t844, .int .i64 t845, .int .i64 t846, .int .i64 t847, .int .i64 t848, .int .i64 t849, .int .i64 t850, .int .i64 t851, .int .i64 t852, .int .i64 t853, .int .i64 t854, .int .i64 0, .slice none 0 0]) ?_ 11 _ rfl; (with_reducible repeat (first | refine blk_drewN ?_ _ | refine blk_drew ?_ | refine blk_alloc ?_ _)); refine blk_put (cs := #[.int .i64 t844, .int .i64 t845, .int .i64 t846, .int .i64 t847, .int .i64 t848, .int .i64 t849, .int .i64 t850, .int .i64 t851, .int .i64 t852, .int .i64 t853, .int .i64 0, .int .i64 0, .slice none 0 0]) ?_ 10 _ rfl; (with_reducible repeat (first | refine blk_drewN ?_ _ | refine blk_drew ?_ | refine blk_alloc ?_ _)); refine blk_put (cs := #[.int .i64 t844, .int .i64 t845, .int .i64 t846, .int .i64 t847, .int .i64 t848, .int .i64 t849, .int .i64 t850, .int .i64 t851, .int .i64 t852, .int .i64 0, .int .i64 0, .int .i64 0, .slice none 0 0]) ?_ 9 _ rfl; (with_reducible repeat (first | refine blk_drewN ?_ _ | refine blk_drew ?_ | refine blk_alloc ?_ _)); refine blk_put (cs := #[.int .i64 t844, .int .i64 t845, .int .i64 t846, .int .i64 t847, .int .i64 t848, .int .i64 t849, .int .i64 t850, .int .i64 t851, .int .i64 0, .int .i64 0, .int .i64 0, .int .i64 0, .slice none 0 0]) ?_ 8 _ rfl; (with_reducible repeat (first | refine blk_drewN ?_ _ | refine blk_drew ?_ | refine blk_alloc ?_ _)); refine blk_put (cs := #[.int .i64 t844, .int .i64 t845, .int .i64 t846, .int .i64 t847, .int .i64 t848, .int .i64 t849, .int .i64 t850, .int .i64 0, .int .i64 0, .int .i64 0, .int .i64 0, .int .i64 0, .slice none 0 0]) ?_ 7 _ rfl; (with_reducible repeat (first | refine blk_drewN ?_ _ | refine blk_drew ?_ | refine blk_alloc ?_ _)); refine blk_put (cs := #[.int .i64 t844, .int .i64 t845, .int .i64 t846, .int .i64 t847, .int .i64 t848, .int .i64 t849, .int .i64 0, .int .i64 0, .int .i64 0, .int .i64 0, .int .i64 0, .int .i64 0, .slice none 0 0]) ?_ 6 _ rfl; (with_reducible repeat (first | refine blk_drewN ?_ _ | refine blk_drew ?_ | refine blk_alloc ?_ _)); refine blk_put (cs := #[.int .i64 t844, .int .i64 t845, .int .i64 t846, .int .i64 t847, .int .i64 t848, .int .i64 0, .int .i64 0, .int .i64 0, .int .i64 0, .int .i64 0, .int .i64 0, .int .i64 0, .slice none 0 0]) ?_ 5 _ rfl; (with_reducible repeat (first | refine blk_drewN ?_ _ | refine blk_drew ?_ | refine blk_alloc ?_ _)); refine blk_put (cs := #[.int .i64 t844, .int .i64 t845, .int .i64 t846, .int .i64 t847, .int .i64 0, .int .i64 0, .int .i64 0, .int .i64 0, .int .i64 0, .int .i64 0, .int .i64 0, .int .i64 0, .slice none 0 0]) ?_ 4 _ rfl; (with_reducible repeat (first | refine blk_drewN ?_ _ | refine blk_drew ?_ | refine blk_alloc ?_ _)); refine blk_put (cs := #[.int .i64 t844, .int .i64 t845, .int .i64 t846, .int .i64 0, .int .i64 0, .int .i64 0, .int .i64 0, .int .i64 0, .int .i64 0, .int .i64 0, .int .i64 0, .int .i64 0, .slice none 0 0]) ?_ 3 _ rfl; (with_reducible repeat (first | refine blk_drewN ?_ _ | refine blk_drew ?_ | refine blk_alloc ?_ _)); refine blk_put (cs := #[.int .i64 t844, .int .i64 t845, .int .i64 0, .int .i64 0, .int .i64 0, .int .i64 0, .int .i64 0, .int .i64 0, .int .i64 0, .int .i64 0, .int .i64 0, .int .i64 0, .slice none 0 0]) ?_ 2 _ rfl; (with_reducible repeat (first | refine blk_drewN ?_ _ | refine blk_drew ?_ | refine blk_alloc ?_ _)); refine blk_put (cs := #[.int .i64 t844, .int .i64 0, .int .i64 0, .int .i64 0, .int .i64 0, .int .i64 0, .int .i64 0, .int .i64 0, .int .i64 0, .int .i64 0, .int .i64 0, .int .i64 0, .slice none 0 0]) ?_ 1 _ rfl; (with_reducible repeat (first | refine blk_drewN ?_ _ | refine blk_drew ?_ | refine blk_alloc ?_ _)); refine blk_put (cs := #[.int .i64 0, .int .i64 0, .int .i64 0, .int .i64 0, .int .i64 0, .int .i64 0, .int .i64 0, .int .i64 0, .int .i64 0, .int .i64 0, .int .i64 0, .int .i64 0, .slice none 0 0]) ?_ 0 _ rfl; (with_reducible repeat (first | refine blk_drewN ?_ _ | refine blk_drew ?_ | refine blk_alloc ?_ _)); exact BK859.out) hb); have n5_ := Aside0.mk (below_step (by repeat (first | (with_reducible first | exact HB.out | apply below_alloc | apply pw_below_drewN | apply below_drew1 | refine below_set ?_ GE859.out) | exact HB.out)) hb); clear HO_7; clear HO_8; clear HO858; clear BK859; clear HB; have HO_7 := n0_; have HO_8 := n1_; have HO858 := n2_; have HO864 := n3_; have BK859 := n4_; have HB := n5_; clear n0_ n1_ n2_ n3_ n4_ n5_; (try clear hb); (try clear hb2); (try clear hk); (try clear hi); (try clear ho0)) | ((with_reducible refine gate_dst (N := 11) rfl ?_); (try (refine gate_guard (by rfl) ?_; dsimp only)); refine box_event ?hg (N := 11) ?hd (cs := #[.int .i64 0, .bool false, .slice none 0 0]) (t := 31) ?hr ?_; (case hd => rfl); (case hg => rfl); (case hr => first | (go_simp; done) | (go_simp; rfl)); intro gb866 hg w32 hbox hb; have n0_ := Aside0.mk (Kd.R_below (by (with_reducible repeat (first | apply Kd.R_alloc | apply Kd.R_drewN | apply Kd.R_drew)); exact HO_7.out) hb); have n1_ := Aside0.mk (Kd.R_below (by (with_reducible repeat (first | apply Kd.R_alloc | apply Kd.R_drewN | apply Kd.R_drew)); exact HO_8.out) hb); have n2_ := Aside0.mk (Kd.R_below (by (with_reducible repeat (first | apply Kd.R_alloc | apply Kd.R_drewN | apply Kd.R_drew)); exact HO858.out) hb); have n3_ := Aside0.mk (Kd.R_below (by (with_reducible repeat (first | apply Kd.R_alloc | apply Kd.R_drewN | apply Kd.R_drew)); exact HO864.out) hb); have n4_ := Aside0.mk (blk_below (g := gb859) (o := .cells #[.int .i64 t844, .int .i64 t845, .int .i64 t846, .int .i64 t847, .int .i64 t848, .int .i64 t849, .int .i64 t850, .int .i64 t851, .int .i64 t852, .int .i64 t853, .int .i64 t854, .int .i64 t855, .slice Ao30 t856.length co30] 28 (0, 0)) (by (with_reducible repeat (first | refine blk_drewN ?_ _ | refine blk_drew ?_ | refine blk_alloc ?_ _)); exact BK859.out) hb); have n5_ := Aside0.mk (below_step (by repeat (first | (with_reducible first | exact HB.out | apply below_alloc | apply pw_below_drewN | apply below_drew1 | refine below_set ?_ GE859.out) | exact HB.out)) hb); have n6_ := Aside0.mk (hbox); have n7_ := Aside0.mk ((by rw [hg]; exact (below_size (by repeat (first | (with_reducible first | exact HB.out | apply below_alloc | apply pw_below_drewN | apply below_drew1 | refine below_set ?_ GE859.out) | exact HB.out))) : w.heap.size ≤ gb866)); have n8_ := Aside0.mk ((by rw [hg]; exact (below_size (by repeat (first | (with_reducible first | exact HB.out | apply below_alloc | apply pw_below_drewN | apply below_drew1 | refine below_set ?_ GE859.out) | exact HB.out))) : w.heap.size ≤ gb866)); have n9_ := Aside0.mk ((by rw [hg]; exact Nat.ne_of_lt (blk_lt (g := gb859) (o := .cells #[.int .i64 t844, .int .i64 t845, .int .i64 t846, .int .i64 t847, .int .i64 t848, .int .i64 t849, .int .i64 t850, .int .i64 t851, .int .i64 t852, .int .i64 t853, .int .i64 t854, .int .i64 t855, .slice Ao30 t856.length co30] 28 (0, 0)) (by (with_reducible repeat (first | refine blk_drewN ?_ _ | refine blk_drew ?_ | refine blk_alloc ?_ _)); exact BK859.out)) : gb859 ≠ gb866)); have n10_ := Aside0.mk ((by rw [hg]; exact Nat.ne_of_gt (blk_lt (g := gb859) (o := .cells #[.int .i64 t844, .int .i64 t845, .int .i64 t846, .int .i64 t847, .int .i64 t848, .int .i64 t849, .int .i64 t850, .int .i64 t851, .int .i64 t852, .int .i64 t853, .int .i64 t854, .int .i64 t855, .slice Ao30 t856.length co30] 28 (0, 0)) (by (with_reducible repeat (first | refine blk_drewN ?_ _ | refine blk_drew ?_ | refine blk_alloc ?_ _)); exact BK859.out)) : gb866 ≠ gb859)); clear HO_7; clear HO_8; clear HO858; clear HO864; clear BK859; clear HB; have HO_7 := n0_; have HO_8 := n1_; have HO858 := n2_; have HO864 := n3_; have BK859 := n4_; have HB := n5_; have BK866 := n6_; have GW866 := n7_; have GE866 := n8_; have NB859_866 := n9_; have NB866_859 := n10_; clear n0_ n1_ n2_ n3_ n4_ n5_ n6_ n7_ n8_ n9_ n10_; clear hb hbox hg; have hnb33 := NB866_859.out; have hnc33 := NB859_866.out; have hcz34_0 : w32.cell? ⟨gb866, 0, none⟩ = some (.int .i64 0) := (blk_cell BK866.out 0).trans rfl; have hcz34_1 : w32.cell? ⟨gb866, 1, none⟩ = some (.bool false) := (blk_cell BK866.out 1).trans rfl; have hcz34_2 : w32.cell? ⟨gb866, 2, none⟩ = some (.slice none 0 0) := (blk_cell BK866.out 2).trans rfl; have hfz34_0 := blk_frozen BK866.out 0; have hfz34_1 := blk_frozen BK866.out 1; have hfz34_2 := blk_frozen BK866.out 2; obtain ⟨Ao35, co35, eo35⟩ := Kd.R_slice HO864.out; subst eo35; have hcz36_0 : w32.cell? ⟨gb859, 0, none⟩ = some (.int .i64 t844) := (blk_cell BK859.out 0).trans rfl; have hcz36_1 : w32.cell? ⟨gb859, 1, none⟩ = some (.int .i64 t845) := (blk_cell BK859.out 1).trans rfl; have hcz36_2 : w32.cell? ⟨gb859, 2, none⟩ = some (.int .i64 t846) := (blk_cell BK859.out 2).trans rfl; have hcz36_3 : w32.cell? ⟨gb859, 3, none⟩ = some (.int .i64 t847) := (blk_cell BK859.out 3).trans rfl; have hcz36_4 : w32.cell? ⟨gb859, 4, none⟩ = some (.int .i64 t848) := (blk_cell BK859.out 4).trans rfl; have hcz36_5 : w32.cell? ⟨gb859, 5, none⟩ = some (.int .i64 t849) := (blk_cell BK859.out 5).trans rfl; have hcz36_6 : w32.cell? ⟨gb859, 6, none⟩ = some (.int .i64 t850) := (blk_cell BK859.out 6).trans rfl; have hcz36_7 : w32.cell? ⟨gb859, 7, none⟩ = some (.int .i64 t851) := (blk_cell BK859.out 7).trans rfl; have hcz36_8 : w32.cell? ⟨gb859, 8, none⟩ = some (.int .i64 t852) := (blk_cell BK859.out 8).trans rfl; have hcz36_9 : w32.cell? ⟨gb859, 9, none⟩ = some (.int .i64 t853) := (blk_cell BK859.out 9).trans rfl; have hcz36_10 : w32.cell? ⟨gb859, 10, none⟩ = some (.int .i64 t854) := (blk_cell BK859.out 10).trans rfl; have hcz36_11 : w32.cell? ⟨gb859, 11, none⟩ = some (.int .i64 t855) := (blk_cell BK859.out 11).trans rfl; have hcz36_12 : w32.cell? ⟨gb859, 12, none⟩ = some (.slice Ao30 t856.length co30) := (blk_cell BK859.out 12).trans rfl; have hfz36_0 := blk_frozen BK859.out 0; have hfz36_1 := blk_frozen BK859.out 1; have hfz36_2 := blk_frozen BK859.out 2; have hfz36_3 := blk_frozen BK859.out 3; have hfz36_4 := blk_frozen BK859.out 4; have hfz36_5 := blk_frozen BK859.out 5; have hfz36_6 := blk_frozen BK859.out 6; have hfz36_7 := blk_frozen BK859.out 7; have hfz36_8 := blk_frozen BK859.out 8; have hfz36_9 := blk_frozen BK859.out 9; have hfz36_10 := blk_frozen BK859.out 10; have hfz36_11 := blk_frozen BK859.out 11; have hfz36_12 := blk_frozen BK859.out 12) | ((with_reducible refine gate_callee (f := 17) rfl ?_); refine goesL_ (some 75) rfl rfl Try.func17 (by kernel_rfl) rfl #[.agg #[.int .i64 0, .int .i64 7, .int .i64 0, .int .i64 0, .slice Ao26 y833.length co26, .int .i64 ji21], .agg #[.int .i64 t844, .int .i64 t845, .int .i64 t846, .int .i64 t847, .int .i64 t848, .int .i64 t849, .int .i64 t850, .int .i64 t851, .int .i64 t852, .int .i64 t853, .int .i64 t854, .int .i64 t855, .slice Ao30 t856.length co30]] rfl (by (try simp only [List.map_toArray, List.map_cons, List.map_nil]); first | done | (simp only [hji21]; rfl) | rfl | (simp only [List.length_drop, List.length_take]; rfl)) ?_; (with_reducible refine (low_Value.calls 0 7 0 0 _ _ y833 ji21 t844 t845 t846 t847 t848 t849 t850 t851 t852 t853 t854 t855 _ _ t856 t867 t868 t869 t872 _ ?side1 ?side2 ?side3 ?side4 A22.out).mono ?_); (case side1 => refine (Kd.R_reads' (e := 3) (base := w.heap.size) (ok := fun k_ => ((True ∧ some k_ ≠ (.slice Ao30 t856.length co30 : Value).ownBlock) ∧ some k_ ≠ (.slice Ao35 t862.length co35 : Value).ownBlock)) (n := y833.length) (c := co26) ?_).2.2; exact (by (with_reducible repeat (first | apply Kd.R_alloc | apply Kd.R_drewN | apply Kd.R_drew)); exact (Kd.R_mono (Kd.R_far (p := ⟨gb866, 2, none⟩) (Kd.R_far (p := ⟨gb866, 1, none⟩) (Kd.R_far (p := ⟨gb866, 0, none⟩) (Kd.R_types HO_7.out BK866.out (by decide)) (fun _ hk => hk.2) (.int .i64 t860)) (fun _ hk => hk.2) (.bool t861)) (fun _ hk => hk.2) (.slice Ao35 t862.length co35)) (fun _ h_ => h_.1)))); (case side2 => exact (Kd.R_reads' HO_7.out).2.1); (case side3 => refine (Kd.R_reads' (e := 3) (base := w.heap.size) (ok := fun k_ => ((True ∧ some k_ ≠ (.slice Ao26 y833.length co26 : Value).ownBlock) ∧ some k_ ≠ (.slice Ao35 t862.length co35 : Value).ownBlock)) (n := t856.length) (c := co30) ?_).2.2; exact (by (with_reducible repeat (first | apply Kd.R_alloc | apply Kd.R_drewN | apply Kd.R_drew)); exact (Kd.R_mono (Kd.R_far (p := ⟨gb866, 2, none⟩) (Kd.R_far (p := ⟨gb866, 1, none⟩) (Kd.R_far (p := ⟨gb866, 0, none⟩) (Kd.R_types HO858.out BK866.out (by decide)) (fun _ hk => hk.2) (.int .i64 t860)) (fun _ hk => hk.2) (.bool t861)) (fun _ hk => hk.2) (.slice Ao35 t862.length co35)) (fun _ h_ => h_.1)))); (case side4 => exact (Kd.R_reads' HO858.out).2.1); rintro e w37 ⟨v870, rfl, ho0, hb⟩; refine ⟨_, rfl, ?_⟩; have n0_ := Aside0.mk (Kd.R_elder' (by (with_reducible repeat (first | apply Kd.R_alloc | apply Kd.R_drewN | apply Kd.R_drew)); exact (Kd.R_mono (Kd.R_far (p := ⟨gb866, 2, none⟩) (Kd.R_far (p := ⟨gb866, 1, none⟩) (Kd.R_far (p := ⟨gb866, 0, none⟩) (Kd.R_types HO_7.out BK866.out (by decide)) (fun _ hk => hk.2) (.int .i64 t860)) (fun _ hk => hk.2) (.bool t861)) (fun _ hk => hk.2) (.slice Ao35 t862.length co35)) (fun _ h_ => h_.1))) (Kd.R_base ho0) hb); have n1_ := Aside0.mk (Kd.R_below (by (with_reducible repeat (first | apply Kd.R_alloc | apply Kd.R_drewN | apply Kd.R_drew)); exact (Kd.R_mono (Kd.R_far (p := ⟨gb866, 2, none⟩) (Kd.R_far (p := ⟨gb866, 1, none⟩) (Kd.R_far (p := ⟨gb866, 0, none⟩) (Kd.R_types HO_8.out BK866.out (by decide)) (fun _ hk => hk.2) (.int .i64 t860)) (fun _ hk => hk.2) (.bool t861)) (fun _ hk => hk.2) (.slice Ao35 t862.length co35)) (fun _ h_ => h_.1))) hb); have n2_ := Aside0.mk (Kd.R_elder' (by (with_reducible repeat (first | apply Kd.R_alloc | apply Kd.R_drewN | apply Kd.R_drew)); exact (Kd.R_mono (Kd.R_far (p := ⟨gb866, 2, none⟩) (Kd.R_far (p := ⟨gb866, 1, none⟩) (Kd.R_far (p := ⟨gb866, 0, none⟩) (Kd.R_types HO858.out BK866.out (by decide)) (fun _ hk => hk.2) (.int .i64 t860)) (fun _ hk => hk.2) (.bool t861)) (fun _ hk => hk.2) (.slice Ao35 t862.length co35)) (fun _ h_ => h_.1))) (Kd.R_base ho0) hb); have n3_ := Aside0.mk (Kd.R_elder' (by (with_reducible repeat (first | apply Kd.R_alloc | apply Kd.R_drewN | apply Kd.R_drew)); exact (Kd.R_mono (Kd.R_far (p := ⟨gb866, 2, none⟩) (Kd.R_far (p := ⟨gb866, 1, none⟩) (Kd.R_far (p := ⟨gb866, 0, none⟩) (Kd.R_types HO864.out BK866.out (by decide)) (fun _ hk => hk.2) (.int .i64 t860)) (fun _ hk => hk.2) (.bool t861)) (fun _ hk => hk.2) (.slice Ao35 t862.length co35)) (fun _ h_ => h_.1))) (Kd.R_base ho0) hb); have n4_ := Aside0.mk (Kd.R_lower (Kd.R_new' (Kd.R_new' (Kd.R_new' ho0 (Kd.R_lt (by (with_reducible repeat (first | apply Kd.R_alloc | apply Kd.R_drewN | apply Kd.R_drew)); exact (Kd.R_mono (Kd.R_far (p := ⟨gb866, 2, none⟩) (Kd.R_far (p := ⟨gb866, 1, none⟩) (Kd.R_far (p := ⟨gb866, 0, none⟩) (Kd.R_types HO_7.out BK866.out (by decide)) (fun _ hk => hk.2) (.int .i64 t860)) (fun _ hk => hk.2) (.bool t861)) (fun _ hk => hk.2) (.slice Ao35 t862.length co35)) (fun _ h_ => h_.1))))) (Kd.R_lt (by (with_reducible repeat (first | apply Kd.R_alloc | apply Kd.R_drewN | apply Kd.R_drew)); exact (Kd.R_mono (Kd.R_far (p := ⟨gb866, 2, none⟩) (Kd.R_far (p := ⟨gb866, 1, none⟩) (Kd.R_far (p := ⟨gb866, 0, none⟩) (Kd.R_types HO858.out BK866.out (by decide)) (fun _ hk => hk.2) (.int .i64 t860)) (fun _ hk => hk.2) (.bool t861)) (fun _ hk => hk.2) (.slice Ao35 t862.length co35)) (fun _ h_ => h_.1))))) (Kd.R_lt (by (with_reducible repeat (first | apply Kd.R_alloc | apply Kd.R_drewN | apply Kd.R_drew)); exact (Kd.R_mono (Kd.R_far (p := ⟨gb866, 2, none⟩) (Kd.R_far (p := ⟨gb866, 1, none⟩) (Kd.R_far (p := ⟨gb866, 0, none⟩) (Kd.R_types HO864.out BK866.out (by decide)) (fun _ hk => hk.2) (.int .i64 t860)) (fun _ hk => hk.2) (.bool t861)) (fun _ hk => hk.2) (.slice Ao35 t862.length co35)) (fun _ h_ => h_.1))))) (below_size (by repeat (first | (with_reducible first | exact HB.out | apply below_alloc | apply pw_below_drewN | apply below_drew1 | refine below_set ?_ GE859.out | refine below_set ?_ GE866.out) | exact HB.out)))); have n5_ := Aside0.mk (blk_below (g := gb859) (o := .cells #[.int .i64 t844, .int .i64 t845, .int .i64 t846, .int .i64 t847, .int .i64 t848, .int .i64 t849, .int .i64 t850, .int .i64 t851, .int .i64 t852, .int .i64 t853, .int .i64 t854, .int .i64 t855, .slice Ao30 t856.length co30] 28 (0, 0)) (by (with_reducible repeat (first | refine blk_drewN ?_ _ | refine blk_drew ?_ | refine blk_alloc ?_ _)); refine blk_far ?_ NB859_866.out _; (with_reducible repeat (first | refine blk_drewN ?_ _ | refine blk_drew ?_ | refine blk_alloc ?_ _)); refine blk_far ?_ NB859_866.out _; (with_reducible repeat (first | refine blk_drewN ?_ _ | refine blk_drew ?_ | refine blk_alloc ?_ _)); refine blk_far ?_ NB859_866.out _; (with_reducible repeat (first | refine blk_drewN ?_ _ | refine blk_drew ?_ | refine blk_alloc ?_ _)); exact BK859.out) hb); have n6_ := Aside0.mk (blk_below (g := gb866) (o := .cells #[.int .i64 t860, .bool t861, .slice Ao35 t862.length co35] 31 (0, 0)) (by (with_reducible repeat (first | refine blk_drewN ?_ _ | refine blk_drew ?_ | refine blk_alloc ?_ _)); refine blk_put (cs := #[.int .i64 t860, .bool t861, .slice none 0 0]) ?_ 2 _ rfl; (with_reducible repeat (first | refine blk_drewN ?_ _ | refine blk_drew ?_ | refine blk_alloc ?_ _)); refine blk_put (cs := #[.int .i64 t860, .bool false, .slice none 0 0]) ?_ 1 _ rfl; (with_reducible repeat (first | refine blk_drewN ?_ _ | refine blk_drew ?_ | refine blk_alloc ?_ _)); refine blk_put (cs := #[.int .i64 0, .bool false, .slice none 0 0]) ?_ 0 _ rfl; (with_reducible repeat (first | refine blk_drewN ?_ _ | refine blk_drew ?_ | refine blk_alloc ?_ _)); exact BK866.out) hb); have n7_ := Aside0.mk (below_step (by repeat (first | (with_reducible first | exact HB.out | apply below_alloc | apply pw_below_drewN | apply below_drew1 | refine below_set ?_ GE859.out | refine below_set ?_ GE866.out) | exact HB.out)) hb); clear HO_7; clear HO_8; clear HO858; clear HO864; clear BK859; clear BK866; clear HB; have HO_7 := n0_; have HO_8 := n1_; have HO858 := n2_; have HO864 := n3_; have HO871 := n4_; have BK859 := n5_; have BK866 := n6_; have HB := n7_; clear n0_ n1_ n2_ n3_ n4_ n5_ n6_ n7_; (try clear hb); (try clear hb2); (try clear hk); (try clear hi); (try clear ho0)) | ((with_reducible refine gate_dst (N := 15) rfl ?_); (try (refine gate_guard (by rfl) ?_; dsimp only)); refine box_event ?hg (N := 15) ?hd (cs := #[.int .i64 0, .bool false, .slice none 0 0]) (t := 31) ?hr ?_; (case hd => rfl); (case hg => rfl); (case hr => first | (go_simp; done) | (go_simp; rfl)); intro gb873 hg w38 hbox hb; have n0_ := Aside0.mk (Kd.R_below (by (with_reducible repeat (first | apply Kd.R_alloc | apply Kd.R_drewN | apply Kd.R_drew)); exact HO_7.out) hb); have n1_ := Aside0.mk (Kd.R_below (by (with_reducible repeat (first | apply Kd.R_alloc | apply Kd.R_drewN | apply Kd.R_drew)); exact HO_8.out) hb); have n2_ := Aside0.mk (Kd.R_below (by (with_reducible repeat (first | apply Kd.R_alloc | apply Kd.R_drewN | apply Kd.R_drew)); exact HO858.out) hb); have n3_ := Aside0.mk (Kd.R_below (by (with_reducible repeat (first | apply Kd.R_alloc | apply Kd.R_drewN | apply Kd.R_drew)); exact HO864.out) hb); have n4_ := Aside0.mk (Kd.R_below (by (with_reducible repeat (first | apply Kd.R_alloc | apply Kd.R_drewN | apply Kd.R_drew)); exact HO871.out) hb); have n5_ := Aside0.mk (blk_below (g := gb859) (o := .cells #[.int .i64 t844, .int .i64 t845, .int .i64 t846, .int .i64 t847, .int .i64 t848, .int .i64 t849, .int .i64 t850, .int .i64 t851, .int .i64 t852, .int .i64 t853, .int .i64 t854, .int .i64 t855, .slice Ao30 t856.length co30] 28 (0, 0)) (by (with_reducible repeat (first | refine blk_drewN ?_ _ | refine blk_drew ?_ | refine blk_alloc ?_ _)); exact BK859.out) hb); have n6_ := Aside0.mk (blk_below (g := gb866) (o := .cells #[.int .i64 t860, .bool t861, .slice Ao35 t862.length co35] 31 (0, 0)) (by (with_reducible repeat (first | refine blk_drewN ?_ _ | refine blk_drew ?_ | refine blk_alloc ?_ _)); exact BK866.out) hb); have n7_ := Aside0.mk (below_step (by repeat (first | (with_reducible first | exact HB.out | apply below_alloc | apply pw_below_drewN | apply below_drew1 | refine below_set ?_ GE859.out | refine below_set ?_ GE866.out) | exact HB.out)) hb); have n8_ := Aside0.mk (hbox); have n9_ := Aside0.mk ((by rw [hg]; exact (below_size (by repeat (first | (with_reducible first | exact HB.out | apply below_alloc | apply pw_below_drewN | apply below_drew1 | refine below_set ?_ GE859.out | refine below_set ?_ GE866.out) | exact HB.out))) : w.heap.size ≤ gb873)); have n10_ := Aside0.mk ((by rw [hg]; exact (below_size (by repeat (first | (with_reducible first | exact HB.out | apply below_alloc | apply pw_below_drewN | apply below_drew1 | refine below_set ?_ GE859.out | refine below_set ?_ GE866.out) | exact HB.out))) : w.heap.size ≤ gb873)); have n11_ := Aside0.mk ((by rw [hg]; exact Nat.ne_of_lt (blk_lt (g := gb859) (o := .cells #[.int .i64 t844, .int .i64 t845, .int .i64 t846, .int .i64 t847, .int .i64 t848, .int .i64 t849, .int .i64 t850, .int .i64 t851, .int .i64 t852, .int .i64 t853, .int .i64 t854, .int .i64 t855, .slice Ao30 t856.length co30] 28 (0, 0)) (by (with_reducible repeat (first | refine blk_drewN ?_ _ | refine blk_drew ?_ | refine blk_alloc ?_ _)); exact BK859.out)) : gb859 ≠ gb873)); have n12_ := Aside0.mk ((by rw [hg]; exact Nat.ne_of_gt (blk_lt (g := gb859) (o := .cells #[.int .i64 t844, .int .i64 t845, .int .i64 t846, .int .i64 t847, .int .i64 t848, .int .i64 t849, .int .i64 t850, .int .i64 t851, .int .i64 t852, .int .i64 t853, .int .i64 t854, .int .i64 t855, .slice Ao30 t856.length co30] 28 (0, 0)) (by (with_reducible repeat (first | refine blk_drewN ?_ _ | refine blk_drew ?_ | refine blk_alloc ?_ _)); exact BK859.out)) : gb873 ≠ gb859)); have n13_ := Aside0.mk ((by rw [hg]; exact Nat.ne_of_lt (blk_lt (g := gb866) (o := .cells #[.int .i64 t860, .bool t861, .slice Ao35 t862.length co35] 31 (0, 0)) (by (with_reducible repeat (first | refine blk_drewN ?_ _ | refine blk_drew ?_ | refine blk_alloc ?_ _)); exact BK866.out)) : gb866 ≠ gb873)); have n14_ := Aside0.mk ((by rw [hg]; exact Nat.ne_of_gt (blk_lt (g := gb866) (o := .cells #[.int .i64 t860, .bool t861, .slice Ao35 t862.length co35] 31 (0, 0)) (by (with_reducible repeat (first | refine blk_drewN ?_ _ | refine blk_drew ?_ | refine blk_alloc ?_ _)); exact BK866.out)) : gb873 ≠ gb866)); clear HO_7; clear HO_8; clear HO858; clear HO864; clear HO871; clear BK859; clear BK866; clear HB; have HO_7 := n0_; have HO_8 := n1_; have HO858 := n2_; have HO864 := n3_; have HO871 := n4_; have BK859 := n5_; have BK866 := n6_; have HB := n7_; have BK873 := n8_; have GW873 := n9_; have GE873 := n10_; have NB859_873 := n11_; have NB873_859 := n12_; have NB866_873 := n13_; have NB873_866 := n14_; clear n0_ n1_ n2_ n3_ n4_ n5_ n6_ n7_ n8_ n9_ n10_ n11_ n12_ n13_ n14_; clear hb hbox hg; have hnb39 := NB873_859.out; have hnc39 := NB859_873.out; have hnb40 := NB873_866.out; have hnc40 := NB866_873.out; have hcz41_0 : w38.cell? ⟨gb873, 0, none⟩ = some (.int .i64 0) := (blk_cell BK873.out 0).trans rfl; have hcz41_1 : w38.cell? ⟨gb873, 1, none⟩ = some (.bool false) := (blk_cell BK873.out 1).trans rfl; have hcz41_2 : w38.cell? ⟨gb873, 2, none⟩ = some (.slice none 0 0) := (blk_cell BK873.out 2).trans rfl; have hfz41_0 := blk_frozen BK873.out 0; have hfz41_1 := blk_frozen BK873.out 1; have hfz41_2 := blk_frozen BK873.out 2; obtain ⟨Ao42, co42, eo42⟩ := Kd.R_slice HO871.out; subst eo42; have hcz43_0 : w38.cell? ⟨gb859, 0, none⟩ = some (.int .i64 t844) := (blk_cell BK859.out 0).trans rfl; have hcz43_1 : w38.cell? ⟨gb859, 1, none⟩ = some (.int .i64 t845) := (blk_cell BK859.out 1).trans rfl; have hcz43_2 : w38.cell? ⟨gb859, 2, none⟩ = some (.int .i64 t846) := (blk_cell BK859.out 2).trans rfl; have hcz43_3 : w38.cell? ⟨gb859, 3, none⟩ = some (.int .i64 t847) := (blk_cell BK859.out 3).trans rfl; have hcz43_4 : w38.cell? ⟨gb859, 4, none⟩ = some (.int .i64 t848) := (blk_cell BK859.out 4).trans rfl; have hcz43_5 : w38.cell? ⟨gb859, 5, none⟩ = some (.int .i64 t849) := (blk_cell BK859.out 5).trans rfl; have hcz43_6 : w38.cell? ⟨gb859, 6, none⟩ = some (.int .i64 t850) := (blk_cell BK859.out 6).trans rfl; have hcz43_7 : w38.cell? ⟨gb859, 7, none⟩ = some (.int .i64 t851) := (blk_cell BK859.out 7).trans rfl; have hcz43_8 : w38.cell? ⟨gb859, 8, none⟩ = some (.int .i64 t852) := (blk_cell BK859.out 8).trans rfl; have hcz43_9 : w38.cell? ⟨gb859, 9, none⟩ = some (.int .i64 t853) := (blk_cell BK859.out 9).trans rfl; have hcz43_10 : w38.cell? ⟨gb859, 10, none⟩ = some (.int .i64 t854) := (blk_cell BK859.out 10).trans rfl; have hcz43_11 : w38.cell? ⟨gb859, 11, none⟩ = some (.int .i64 t855) := (blk_cell BK859.out 11).trans rfl; have hcz43_12 : w38.cell? ⟨gb859, 12, none⟩ = some (.slice Ao30 t856.length co30) := (blk_cell BK859.out 12).trans rfl; have hfz43_0 := blk_frozen BK859.out 0; have hfz43_1 := blk_frozen BK859.out 1; have hfz43_2 := blk_frozen BK859.out 2; have hfz43_3 := blk_frozen BK859.out 3; have hfz43_4 := blk_frozen BK859.out 4; have hfz43_5 := blk_frozen BK859.out 5; have hfz43_6 := blk_frozen BK859.out 6; have hfz43_7 := blk_frozen BK859.out 7; have hfz43_8 := blk_frozen BK859.out 8; have hfz43_9 := blk_frozen BK859.out 9; have hfz43_10 := blk_frozen BK859.out 10; have hfz43_11 := blk_frozen BK859.out 11; have hfz43_12 := blk_frozen BK859.out 12) | ((with_reducible refine gate_callee (f := 17) rfl ?_); refine goesL_ (some 85) rfl rfl Try.func17 (by kernel_rfl) rfl #[.agg #[.int .i64 0, .int .i64 7, .int .i64 0, .int .i64 0, .slice Ao26 y833.length co26, .int .i64 ji23], .agg #[.int .i64 t844, .int .i64 t845, .int .i64 t846, .int .i64 t847, .int .i64 t848, .int .i64 t849, .int .i64 t850, .int .i64 t851, .int .i64 t852, .int .i64 t853, .int .i64 t854, .int .i64 t855, .slice Ao30 t856.length co30]] rfl (by (try simp only [List.map_toArray, List.map_cons, List.map_nil]); first | done | (simp only [hji23]; rfl) | rfl | (simp only [List.length_drop, List.length_take]; rfl)) ?_; (with_reducible refine (low_Value.calls 0 7 0 0 _ _ y833 ji23 t844 t845 t846 t847 t848 t849 t850 t851 t852 t853 t854 t855 _ _ t856 t874 t875 t876 t879 _ ?side1 ?side2 ?side3 ?side4 A24.out).mono ?_); (case side1 => refine (Kd.R_reads' (e := 3) (base := w.heap.size) (ok := fun k_ => (((True ∧ some k_ ≠ (.slice Ao30 t856.length co30 : Value).ownBlock) ∧ some k_ ≠ (.slice Ao35 t862.length co35 : Value).ownBlock) ∧ some k_ ≠ (.slice Ao42 t869.length co42 : Value).ownBlock)) (n := y833.length) (c := co26) ?_).2.2; exact (by (with_reducible repeat (first | apply Kd.R_alloc | apply Kd.R_drewN | apply Kd.R_drew)); exact (Kd.R_mono (Kd.R_far (p := ⟨gb873, 2, none⟩) (Kd.R_far (p := ⟨gb873, 1, none⟩) (Kd.R_far (p := ⟨gb873, 0, none⟩) (Kd.R_types HO_7.out BK873.out (by decide)) (fun _ hk => hk.2) (.int .i64 t867)) (fun _ hk => hk.2) (.bool t868)) (fun _ hk => hk.2) (.slice Ao42 t869.length co42)) (fun _ h_ => h_.1)))); (case side2 => exact (Kd.R_reads' HO_7.out).2.1); (case side3 => refine (Kd.R_reads' (e := 3) (base := w.heap.size) (ok := fun k_ => (((True ∧ some k_ ≠ (.slice Ao26 y833.length co26 : Value).ownBlock) ∧ some k_ ≠ (.slice Ao35 t862.length co35 : Value).ownBlock) ∧ some k_ ≠ (.slice Ao42 t869.length co42 : Value).ownBlock)) (n := t856.length) (c := co30) ?_).2.2; exact (by (with_reducible repeat (first | apply Kd.R_alloc | apply Kd.R_drewN | apply Kd.R_drew)); exact (Kd.R_mono (Kd.R_far (p := ⟨gb873, 2, none⟩) (Kd.R_far (p := ⟨gb873, 1, none⟩) (Kd.R_far (p := ⟨gb873, 0, none⟩) (Kd.R_types HO858.out BK873.out (by decide)) (fun _ hk => hk.2) (.int .i64 t867)) (fun _ hk => hk.2) (.bool t868)) (fun _ hk => hk.2) (.slice Ao42 t869.length co42)) (fun _ h_ => h_.1)))); (case side4 => exact (Kd.R_reads' HO858.out).2.1); rintro e w44 ⟨v877, rfl, ho0, hb⟩; refine ⟨_, rfl, ?_⟩; have n0_ := Aside0.mk (Kd.R_elder' (by (with_reducible repeat (first | apply Kd.R_alloc | apply Kd.R_drewN | apply Kd.R_drew)); exact (Kd.R_mono (Kd.R_far (p := ⟨gb873, 2, none⟩) (Kd.R_far (p := ⟨gb873, 1, none⟩) (Kd.R_far (p := ⟨gb873, 0, none⟩) (Kd.R_types HO_7.out BK873.out (by decide)) (fun _ hk => hk.2) (.int .i64 t867)) (fun _ hk => hk.2) (.bool t868)) (fun _ hk => hk.2) (.slice Ao42 t869.length co42)) (fun _ h_ => h_.1))) (Kd.R_base ho0) hb); have n1_ := Aside0.mk (Kd.R_below (by (with_reducible repeat (first | apply Kd.R_alloc | apply Kd.R_drewN | apply Kd.R_drew)); exact (Kd.R_mono (Kd.R_far (p := ⟨gb873, 2, none⟩) (Kd.R_far (p := ⟨gb873, 1, none⟩) (Kd.R_far (p := ⟨gb873, 0, none⟩) (Kd.R_types HO_8.out BK873.out (by decide)) (fun _ hk => hk.2) (.int .i64 t867)) (fun _ hk => hk.2) (.bool t868)) (fun _ hk => hk.2) (.slice Ao42 t869.length co42)) (fun _ h_ => h_.1))) hb); have n2_ := Aside0.mk (Kd.R_elder' (by (with_reducible repeat (first | apply Kd.R_alloc | apply Kd.R_drewN | apply Kd.R_drew)); exact (Kd.R_mono (Kd.R_far (p := ⟨gb873, 2, none⟩) (Kd.R_far (p := ⟨gb873, 1, none⟩) (Kd.R_far (p := ⟨gb873, 0, none⟩) (Kd.R_types HO858.out BK873.out (by decide)) (fun _ hk => hk.2) (.int .i64 t867)) (fun _ hk => hk.2) (.bool t868)) (fun _ hk => hk.2) (.slice Ao42 t869.length co42)) (fun _ h_ => h_.1))) (Kd.R_base ho0) hb); have n3_ := Aside0.mk (Kd.R_elder' (by (with_reducible repeat (first | apply Kd.R_alloc | apply Kd.R_drewN | apply Kd.R_drew)); exact (Kd.R_mono (Kd.R_far (p := ⟨gb873, 2, none⟩) (Kd.R_far (p := ⟨gb873, 1, none⟩) (Kd.R_far (p := ⟨gb873, 0, none⟩) (Kd.R_types HO864.out BK873.out (by decide)) (fun _ hk => hk.2) (.int .i64 t867)) (fun _ hk => hk.2) (.bool t868)) (fun _ hk => hk.2) (.slice Ao42 t869.length co42)) (fun _ h_ => h_.1))) (Kd.R_base ho0) hb); have n4_ := Aside0.mk (Kd.R_elder' (by (with_reducible repeat (first | apply Kd.R_alloc | apply Kd.R_drewN | apply Kd.R_drew)); exact (Kd.R_mono (Kd.R_far (p := ⟨gb873, 2, none⟩) (Kd.R_far (p := ⟨gb873, 1, none⟩) (Kd.R_far (p := ⟨gb873, 0, none⟩) (Kd.R_types HO871.out BK873.out (by decide)) (fun _ hk => hk.2) (.int .i64 t867)) (fun _ hk => hk.2) (.bool t868)) (fun _ hk => hk.2) (.slice Ao42 t869.length co42)) (fun _ h_ => h_.1))) (Kd.R_base ho0) hb); have n5_ := Aside0.mk (Kd.R_lower (Kd.R_new' (Kd.R_new' (Kd.R_new' (Kd.R_new' ho0 (Kd.R_lt (by (with_reducible repeat (first | apply Kd.R_alloc | apply Kd.R_drewN | apply Kd.R_drew)); exact (Kd.R_mono (Kd.R_far (p := ⟨gb873, 2, none⟩) (Kd.R_far (p := ⟨gb873, 1, none⟩) (Kd.R_far (p := ⟨gb873, 0, none⟩) (Kd.R_types HO_7.out BK873.out (by decide)) (fun _ hk => hk.2) (.int .i64 t867)) (fun _ hk => hk.2) (.bool t868)) (fun _ hk => hk.2) (.slice Ao42 t869.length co42)) (fun _ h_ => h_.1))))) (Kd.R_lt (by (with_reducible repeat (first | apply Kd.R_alloc | apply Kd.R_drewN | apply Kd.R_drew)); exact (Kd.R_mono (Kd.R_far (p := ⟨gb873, 2, none⟩) (Kd.R_far (p := ⟨gb873, 1, none⟩) (Kd.R_far (p := ⟨gb873, 0, none⟩) (Kd.R_types HO858.out BK873.out (by decide)) (fun _ hk => hk.2) (.int .i64 t867)) (fun _ hk => hk.2) (.bool t868)) (fun _ hk => hk.2) (.slice Ao42 t869.length co42)) (fun _ h_ => h_.1))))) (Kd.R_lt (by (with_reducible repeat (first | apply Kd.R_alloc | apply Kd.R_drewN | apply Kd.R_drew)); exact (Kd.R_mono (Kd.R_far (p := ⟨gb873, 2, none⟩) (Kd.R_far (p := ⟨gb873, 1, none⟩) (Kd.R_far (p := ⟨gb873, 0, none⟩) (Kd.R_types HO864.out BK873.out (by decide)) (fun _ hk => hk.2) (.int .i64 t867)) (fun _ hk => hk.2) (.bool t868)) (fun _ hk => hk.2) (.slice Ao42 t869.length co42)) (fun _ h_ => h_.1))))) (Kd.R_lt (by (with_reducible repeat (first | apply Kd.R_alloc | apply Kd.R_drewN | apply Kd.R_drew)); exact (Kd.R_mono (Kd.R_far (p := ⟨gb873, 2, none⟩) (Kd.R_far (p := ⟨gb873, 1, none⟩) (Kd.R_far (p := ⟨gb873, 0, none⟩) (Kd.R_types HO871.out BK873.out (by decide)) (fun _ hk => hk.2) (.int .i64 t867)) (fun _ hk => hk.2) (.bool t868)) (fun _ hk => hk.2) (.slice Ao42 t869.length co42)) (fun _ h_ => h_.1))))) (below_size (by repeat (first | (with_reducible first | exact HB.out | apply below_alloc | apply pw_below_drewN | apply below_drew1 | refine below_set ?_ GE859.out | refine below_set ?_ GE866.out | refine below_set ?_ GE873.out) | exact HB.out)))); have n6_ := Aside0.mk (blk_below (g := gb859) (o := .cells #[.int .i64 t844, .int .i64 t845, .int .i64 t846, .int .i64 t847, .int .i64 t848, .int .i64 t849, .int .i64 t850, .int .i64 t851, .int .i64 t852, .int .i64 t853, .int .i64 t854, .int .i64 t855, .slice Ao30 t856.length co30] 28 (0, 0)) (by (with_reducible repeat (first | refine blk_drewN ?_ _ | refine blk_drew ?_ | refine blk_alloc ?_ _)); refine blk_far ?_ NB859_873.out _; (with_reducible repeat (first | refine blk_drewN ?_ _ | refine blk_drew ?_ | refine blk_alloc ?_ _)); refine blk_far ?_ NB859_873.out _; (with_reducible repeat (first | refine blk_drewN ?_ _ | refine blk_drew ?_ | refine blk_alloc ?_ _)); refine blk_far ?_ NB859_873.out _; (with_reducible repeat (first | refine blk_drewN ?_ _ | refine blk_drew ?_ | refine blk_alloc ?_ _)); exact BK859.out) hb); have n7_ := Aside0.mk (blk_below (g := gb866) (o := .cells #[.int .i64 t860, .bool t861, .slice Ao35 t862.length co35] 31 (0, 0)) (by (with_reducible repeat (first | refine blk_drewN ?_ _ | refine blk_drew ?_ | refine blk_alloc ?_ _)); refine blk_far ?_ NB866_873.out _; (with_reducible repeat (first | refine blk_drewN ?_ _ | refine blk_drew ?_ | refine blk_alloc ?_ _)); refine blk_far ?_ NB866_873.out _; (with_reducible repeat (first | refine blk_drewN ?_ _ | refine blk_drew ?_ | refine blk_alloc ?_ _)); refine blk_far ?_ NB866_873.out _; (with_reducible repeat (first | refine blk_drewN ?_ _ | refine blk_drew ?_ | refine blk_alloc ?_ _)); exact BK866.out) hb); have n8_ := Aside0.mk (blk_below (g := gb873) (o := .cells #[.int .i64 t867, .bool t868, .slice Ao42 t869.length co42] 31 (0, 0)) (by (with_reducible repeat (first | refine blk_drewN ?_ _ | refine blk_drew ?_ | refine blk_alloc ?_ _)); refine blk_put (cs := #[.int .i64 t867, .bool t868, .slice none 0 0]) ?_ 2 _ rfl; (with_reducible repeat (first | refine blk_drewN ?_ _ | refine blk_drew ?_ | refine blk_alloc ?_ _)); refine blk_put (cs := #[.int .i64 t867, .bool false, .slice none 0 0]) ?_ 1 _ rfl; (with_reducible repeat (first | refine blk_drewN ?_ _ | refine blk_drew ?_ | refine blk_alloc ?_ _)); refine blk_put (cs := #[.int .i64 0, .bool false, .slice none 0 0]) ?_ 0 _ rfl; (with_reducible repeat (first | refine blk_drewN ?_ _ | refine blk_drew ?_ | refine blk_alloc ?_ _)); exact BK873.out) hb); have n9_ := Aside0.mk (below_step (by repeat (first | (with_reducible first | exact HB.out | apply below_alloc | apply pw_below_drewN | apply below_drew1 | refine below_set ?_ GE859.out | refine below_set ?_ GE866.out | refine below_set ?_ GE873.out) | exact HB.out)) hb); clear HO_7; clear HO_8; clear HO858; clear HO864; clear HO871; clear BK859; clear BK866; clear BK873; clear HB; have HO_7 := n0_; have HO_8 := n1_; have HO858 := n2_; have HO864 := n3_; have HO871 := n4_; have HO878 := n5_; have BK859 := n6_; have BK866 := n7_; have BK873 := n8_; have HB := n9_; clear n0_ n1_ n2_ n3_ n4_ n5_ n6_ n7_ n8_ n9_; (try clear hb); (try clear hb2); (try clear hk); (try clear hi); (try clear ho0)) | ((with_reducible refine gate_dst (N := 17) rfl ?_); (try (refine gate_guard (by rfl) ?_; dsimp only)); refine box_event ?hg (N := 17) ?hd (cs := #[.int .i64 0, .bool false, .slice none 0 0]) (t := 31) ?hr ?_; (case hd => rfl); (case hg => rfl); (case hr => first | (go_simp; done) | (go_simp; rfl)); intro gb880 hg w45 hbox hb; have n0_ := Aside0.mk (Kd.R_below (by (with_reducible repeat (first | apply Kd.R_alloc | apply Kd.R_drewN | apply Kd.R_drew)); exact HO_7.out) hb); have n1_ := Aside0.mk (Kd.R_below (by (with_reducible repeat (first | apply Kd.R_alloc | apply Kd.R_drewN | apply Kd.R_drew)); exact HO_8.out) hb); have n2_ := Aside0.mk (Kd.R_below (by (with_reducible repeat (first | apply Kd.R_alloc | apply Kd.R_drewN | apply Kd.R_drew)); exact HO858.out) hb); have n3_ := Aside0.mk (Kd.R_below (by (with_reducible repeat (first | apply Kd.R_alloc | apply Kd.R_drewN | apply Kd.R_drew)); exact HO864.out) hb); have n4_ := Aside0.mk (Kd.R_below (by (with_reducible repeat (first | apply Kd.R_alloc | apply Kd.R_drewN | apply Kd.R_drew)); exact HO871.out) hb); have n5_ := Aside0.mk (Kd.R_below (by (with_reducible repeat (first | apply Kd.R_alloc | apply Kd.R_drewN | apply Kd.R_drew)); exact HO878.out) hb); have n6_ := Aside0.mk (blk_below (g := gb859) (o := .cells #[.int .i64 t844, .int .i64 t845, .int .i64 t846, .int .i64 t847, .int .i64 t848, .int .i64 t849, .int .i64 t850, .int .i64 t851, .int .i64 t852, .int .i64 t853, .int .i64 t854, .int .i64 t855, .slice Ao30 t856.length co30] 28 (0, 0)) (by (with_reducible repeat (first | refine blk_drewN ?_ _ | refine blk_drew ?_ | refine blk_alloc ?_ _)); exact BK859.out) hb); have n7_ := Aside0.mk (blk_below (g := gb866) (o := .cells #[.int .i64 t860, .bool t861, .slice Ao35 t862.length co35] 31 (0, 0)) (by (with_reducible repeat (first | refine blk_drewN ?_ _ | refine blk_drew ?_ | refine blk_alloc ?_ _)); exact BK866.out) hb); have n8_ := Aside0.mk (blk_below (g := gb873) (o := .cells #[.int .i64 t867, .bool t868, .slice Ao42 t869.length co42] 31 (0, 0)) (by (with_reducible repeat (first | refine blk_drewN ?_ _ | refine blk_drew ?_ | refine blk_alloc ?_ _)); exact BK873.out) hb); have n9_ := Aside0.mk (below_step (by repeat (first | (with_reducible first | exact HB.out | apply below_alloc | apply pw_below_drewN | apply below_drew1 | refine below_set ?_ GE859.out | refine below_set ?_ GE866.out | refine below_set ?_ GE873.out) | exact HB.out)) hb); have n10_ := Aside0.mk (hbox); have n11_ := Aside0.mk ((by rw [hg]; exact (below_size (by repeat (first | (with_reducible first | exact HB.out | apply below_alloc | apply pw_below_drewN | apply below_drew1 | refine below_set ?_ GE859.out | refine below_set ?_ GE866.out | refine below_set ?_ GE873.out) | exact HB.out))) : w.heap.size ≤ gb880)); have n12_ := Aside0.mk ((by rw [hg]; exact (below_size (by repeat (first | (with_reducible first | exact HB.out | apply below_alloc | apply pw_below_drewN | apply below_drew1 | refine below_set ?_ GE859.out | refine below_set ?_ GE866.out | refine below_set ?_ GE873.out) | exact HB.out))) : w.heap.size ≤ gb880)); have n13_ := Aside0.mk ((by rw [hg]; exact Nat.ne_of_lt (blk_lt (g := gb859) (o := .cells #[.int .i64 t844, .int .i64 t845, .int .i64 t846, .int .i64 t847, .int .i64 t848, .int .i64 t849, .int .i64 t850, .int .i64 t851, .int .i64 t852, .int .i64 t853, .int .i64 t854, .int .i64 t855, .slice Ao30 t856.length co30] 28 (0, 0)) (by (with_reducible repeat (first | refine blk_drewN ?_ _ | refine blk_drew ?_ | refine blk_alloc ?_ _)); exact BK859.out)) : gb859 ≠ gb880)); have n14_ := Aside0.mk ((by rw [hg]; exact Nat.ne_of_gt (blk_lt (g := gb859) (o := .cells #[.int .i64 t844, .int .i64 t845, .int .i64 t846, .int .i64 t847, .int .i64 t848, .int .i64 t849, .int .i64 t850, .int .i64 t851, .int .i64 t852, .int .i64 t853, .int .i64 t854, .int .i64 t855, .slice Ao30 t856.length co30] 28 (0, 0)) (by (with_reducible repeat (first | refine blk_drewN ?_ _ | refine blk_drew ?_ | refine blk_alloc ?_ _)); exact BK859.out)) : gb880 ≠ gb859)); have n15_ := Aside0.mk ((by rw [hg]; exact Nat.ne_of_lt (blk_lt (g := gb866) (o := .cells #[.int .i64 t860, .bool t861, .slice Ao35 t862.length co35] 31 (0, 0)) (by (with_reducible repeat (first | refine blk_drewN ?_ _ | refine blk_drew ?_ | refine blk_alloc ?_ _)); exact BK866.out)) : gb866 ≠ gb880)); have n16_ := Aside0.mk ((by rw [hg]; exact Nat.ne_of_gt (blk_lt (g := gb866) (o := .cells #[.int .i64 t860, .bool t861, .slice Ao35 t862.length co35] 31 (0, 0)) (by (with_reducible repeat (first | refine blk_drewN ?_ _ | refine blk_drew ?_ | refine blk_alloc ?_ _)); exact BK866.out)) : gb880 ≠ gb866)); have n17_ := Aside0.mk ((by rw [hg]; exact Nat.ne_of_lt (blk_lt (g := gb873) (o := .cells #[.int .i64 t867, .bool t868, .slice Ao42 t869.length co42] 31 (0, 0)) (by (with_reducible repeat (first | refine blk_drewN ?_ _ | refine blk_drew ?_ | refine blk_alloc ?_ _)); exact BK873.out)) : gb873 ≠ gb880)); have n18_ := Aside0.mk ((by rw [hg]; exact Nat.ne_of_gt (blk_lt (g := gb873) (o := .cells #[.int .i64 t867, .bool t868, .slice Ao42 t869.length co42] 31 (0, 0)) (by (with_reducible repeat (first | refine blk_drewN ?_ _ | refine blk_drew ?_ | refine blk_alloc ?_ _)); exact BK873.out)) : gb880 ≠ gb873)); clear HO_7; clear HO_8; clear HO858; clear HO864; clear HO871; clear HO878; clear BK859; clear BK866; clear BK873; clear HB; have HO_7 := n0_; have HO_8 := n1_; have HO858 := n2_; have HO864 := n3_; have HO871 := n4_; have HO878 := n5_; have BK859 := n6_; have BK866 := n7_; have BK873 := n8_; have HB := n9_; have BK880 := n10_; have GW880 := n11_; have GE880 := n12_; have NB859_880 := n13_; have NB880_859 := n14_; have NB866_880 := n15_; have NB880_866 := n16_; have NB873_880 := n17_; have NB880_873 := n18_; clear n0_ n1_ n2_ n3_ n4_ n5_ n6_ n7_ n8_ n9_ n10_ n11_ n12_ n13_ n14_ n15_ n16_ n17_ n18_; clear hb hbox hg; have hnb46 := NB880_859.out; have hnc46 := NB859_880.out; have hnb47 := NB880_866.out; have hnc47 := NB866_880.out; have hnb48 := NB880_873.out; have hnc48 := NB873_880.out; have hcz49_0 : w45.cell? ⟨gb880, 0, none⟩ = some (.int .i64 0) := (blk_cell BK880.out 0).trans rfl; have hcz49_1 : w45.cell? ⟨gb880, 1, none⟩ = some (.bool false) := (blk_cell BK880.out 1).trans rfl; have hcz49_2 : w45.cell? ⟨gb880, 2, none⟩ = some (.slice none 0 0) := (blk_cell BK880.out 2).trans rfl; have hfz49_0 := blk_frozen BK880.out 0; have hfz49_1 := blk_frozen BK880.out 1; have hfz49_2 := blk_frozen BK880.out 2; obtain ⟨Ao50, co50, eo50⟩ := Kd.R_slice HO878.out; subst eo50))
          go_loopg [19, 20] kj5 (fun kq v19 v20 w' => ∃ (x19_2 : Int) (x20_2 : Int), v19 = .int .i64 x19_2 ∧ v20 = .int .i64 x20_2 ∧ Aside0 (bournelaw2_LowHists.l1 kq x8_5 t865 t872 t879 x19_2 x20_2 t860 t861 t862 t867 t868 t869 t874 t875 t876 = some r) ∧ Aside0 (kq ≤ kj5) ∧ Aside0 (Kd.R k26 26 w' w.heap.size (fun _ => True) (.slice Ao25 x8_5.length co25) x8_5) ∧ Aside0 (Kd.R (Kd.int .i64) 3 w' w.heap.size (fun k_ => some k_ ≠ ((.slice Ao35 t862.length co35) : Value).ownBlock ∧ some k_ ≠ ((.slice Ao42 t869.length co42) : Value).ownBlock ∧ some k_ ≠ ((.slice Ao50 t876.length co50) : Value).ownBlock) (.slice Ao30 t856.length co30) t856) ∧ Aside0 (Kd.R (Kd.int .i64) 3 w' w.heap.size (fun k_ => some k_ ≠ ((.slice Ao30 t856.length co30) : Value).ownBlock ∧ some k_ ≠ ((.slice Ao42 t869.length co42) : Value).ownBlock ∧ some k_ ≠ ((.slice Ao50 t876.length co50) : Value).ownBlock) (.slice Ao35 t862.length co35) t862) ∧ Aside0 (Kd.R (Kd.int .i64) 3 w' w.heap.size (fun k_ => some k_ ≠ ((.slice Ao30 t856.length co30) : Value).ownBlock ∧ some k_ ≠ ((.slice Ao35 t862.length co35) : Value).ownBlock ∧ some k_ ≠ ((.slice Ao50 t876.length co50) : Value).ownBlock) (.slice Ao42 t869.length co42) t869) ∧ Aside0 (Kd.R (Kd.int .i64) 3 w' w.heap.size (fun k_ => some k_ ≠ ((.slice Ao30 t856.length co30) : Value).ownBlock ∧ some k_ ≠ ((.slice Ao35 t862.length co35) : Value).ownBlock ∧ some k_ ≠ ((.slice Ao42 t869.length co42) : Value).ownBlock) (.slice Ao50 t876.length co50) t876) ∧ Aside0 (w'.heap[gb859]? = some (.cells #[.int .i64 t844, .int .i64 t845, .int .i64 t846, .int .i64 t847, .int .i64 t848, .int .i64 t849, .int .i64 t850, .int .i64 t851, .int .i64 t852, .int .i64 t853, .int .i64 t854, .int .i64 t855, (.slice Ao30 t856.length co30)] 28 (0, 0))) ∧ Aside0 (w'.heap[gb866]? = some (.cells #[.int .i64 t860, .bool t861, (.slice Ao35 t862.length co35)] 31 (0, 0))) ∧ Aside0 (w'.heap[gb873]? = some (.cells #[.int .i64 t867, .bool t868, (.slice Ao42 t869.length co42)] 31 (0, 0))) ∧ Aside0 (w'.heap[gb880]? = some (.cells #[.int .i64 t874, .bool t875, (.slice Ao50 t876.length co50)] 31 (0, 0))) ∧ Aside0 (Below w.heap.size w w'))
          case atStart => exact ⟨(0), (0), (by first | rfl | (simp; done) | (simp [*]; done)), (by first | rfl | (simp; done) | (simp [*]; done)), H', ⟨Nat.le_refl _⟩, ⟨by (with_reducible repeat (first | apply Kd.R_alloc | apply Kd.R_drewN | apply Kd.R_drew)); exact Kd.R_mono (Kd.R_far (p := ⟨gb880, 2, none⟩) (Kd.R_far (p := ⟨gb880, 1, none⟩) (Kd.R_far (p := ⟨gb880, 0, none⟩) (Kd.R_types HO_8.out BK880.out (by decide)) (fun _ hk => hk.2) (.int .i64 t874)) (fun _ hk => hk.2) (.bool t875)) (fun _ hk => hk.2) (.slice Ao50 t876.length co50)) (fun _ hk => trivial)⟩, ⟨by (with_reducible repeat (first | apply Kd.R_alloc | apply Kd.R_drewN | apply Kd.R_drew)); exact Kd.R_mono (Kd.R_far (p := ⟨gb880, 2, none⟩) (Kd.R_far (p := ⟨gb880, 1, none⟩) (Kd.R_far (p := ⟨gb880, 0, none⟩) (Kd.R_types HO858.out BK880.out (by decide)) (fun _ hk => hk.2) (.int .i64 t874)) (fun _ hk => hk.2) (.bool t875)) (fun _ hk => hk.2) (.slice Ao50 t876.length co50)) (fun _ hk => ⟨hk.1.1.1.2, ⟨hk.1.1.2, hk.1.2⟩⟩)⟩, ⟨by (with_reducible repeat (first | apply Kd.R_alloc | apply Kd.R_drewN | apply Kd.R_drew)); exact Kd.R_mono (Kd.R_far (p := ⟨gb880, 2, none⟩) (Kd.R_far (p := ⟨gb880, 1, none⟩) (Kd.R_far (p := ⟨gb880, 0, none⟩) (Kd.R_types HO864.out BK880.out (by decide)) (fun _ hk => hk.2) (.int .i64 t874)) (fun _ hk => hk.2) (.bool t875)) (fun _ hk => hk.2) (.slice Ao50 t876.length co50)) (fun _ hk => ⟨hk.1.1.1.2, ⟨hk.1.1.2, hk.1.2⟩⟩)⟩, ⟨by (with_reducible repeat (first | apply Kd.R_alloc | apply Kd.R_drewN | apply Kd.R_drew)); exact Kd.R_mono (Kd.R_far (p := ⟨gb880, 2, none⟩) (Kd.R_far (p := ⟨gb880, 1, none⟩) (Kd.R_far (p := ⟨gb880, 0, none⟩) (Kd.R_types HO871.out BK880.out (by decide)) (fun _ hk => hk.2) (.int .i64 t874)) (fun _ hk => hk.2) (.bool t875)) (fun _ hk => hk.2) (.slice Ao50 t876.length co50)) (fun _ hk => ⟨hk.1.1.1.2, ⟨hk.1.1.2, hk.1.2⟩⟩)⟩, ⟨by (with_reducible repeat (first | apply Kd.R_alloc | apply Kd.R_drewN | apply Kd.R_drew)); exact Kd.R_mono (Kd.R_far (p := ⟨gb880, 2, none⟩) (Kd.R_far (p := ⟨gb880, 1, none⟩) (Kd.R_far (p := ⟨gb880, 0, none⟩) (Kd.R_types HO878.out BK880.out (by decide)) (fun _ hk => hk.2) (.int .i64 t874)) (fun _ hk => hk.2) (.bool t875)) (fun _ hk => hk.2) (.slice Ao50 t876.length co50)) (fun _ hk => ⟨hk.1.1.1.2, ⟨hk.1.1.2, hk.1.2⟩⟩)⟩, ⟨by (with_reducible repeat (first | refine blk_drewN ?_ _ | refine blk_drew ?_ | refine blk_alloc ?_ _)); refine blk_far ?_ NB859_880.out _; (with_reducible repeat (first | refine blk_drewN ?_ _ | refine blk_drew ?_ | refine blk_alloc ?_ _)); refine blk_far ?_ NB859_880.out _; (with_reducible repeat (first | refine blk_drewN ?_ _ | refine blk_drew ?_ | refine blk_alloc ?_ _)); refine blk_far ?_ NB859_880.out _; (with_reducible repeat (first | refine blk_drewN ?_ _ | refine blk_drew ?_ | refine blk_alloc ?_ _)); exact BK859.out⟩, ⟨by (with_reducible repeat (first | refine blk_drewN ?_ _ | refine blk_drew ?_ | refine blk_alloc ?_ _)); refine blk_far ?_ NB866_880.out _; (with_reducible repeat (first | refine blk_drewN ?_ _ | refine blk_drew ?_ | refine blk_alloc ?_ _)); refine blk_far ?_ NB866_880.out _; (with_reducible repeat (first | refine blk_drewN ?_ _ | refine blk_drew ?_ | refine blk_alloc ?_ _)); refine blk_far ?_ NB866_880.out _; (with_reducible repeat (first | refine blk_drewN ?_ _ | refine blk_drew ?_ | refine blk_alloc ?_ _)); exact BK866.out⟩, ⟨by (with_reducible repeat (first | refine blk_drewN ?_ _ | refine blk_drew ?_ | refine blk_alloc ?_ _)); refine blk_far ?_ NB873_880.out _; (with_reducible repeat (first | refine blk_drewN ?_ _ | refine blk_drew ?_ | refine blk_alloc ?_ _)); refine blk_far ?_ NB873_880.out _; (with_reducible repeat (first | refine blk_drewN ?_ _ | refine blk_drew ?_ | refine blk_alloc ?_ _)); refine blk_far ?_ NB873_880.out _; (with_reducible repeat (first | refine blk_drewN ?_ _ | refine blk_drew ?_ | refine blk_alloc ?_ _)); exact BK873.out⟩, ⟨by (with_reducible repeat (first | refine blk_drewN ?_ _ | refine blk_drew ?_ | refine blk_alloc ?_ _)); refine blk_put (cs := #[.int .i64 t874, .bool t875, .slice none 0 0]) ?_ 2 _ rfl; (with_reducible repeat (first | refine blk_drewN ?_ _ | refine blk_drew ?_ | refine blk_alloc ?_ _)); refine blk_put (cs := #[.int .i64 t874, .bool false, .slice none 0 0]) ?_ 1 _ rfl; (with_reducible repeat (first | refine blk_drewN ?_ _ | refine blk_drew ?_ | refine blk_alloc ?_ _)); refine blk_put (cs := #[.int .i64 0, .bool false, .slice none 0 0]) ?_ 0 _ rfl; (with_reducible repeat (first | refine blk_drewN ?_ _ | refine blk_drew ?_ | refine blk_alloc ?_ _)); exact BK880.out⟩, ⟨by repeat (first | (with_reducible first | exact HB.out | apply below_alloc | apply pw_below_drewN | apply below_drew1 | refine below_set ?_ GE859.out | refine below_set ?_ GE866.out | refine below_set ?_ GE873.out | refine below_set ?_ GE880.out) | exact HB.out)⟩⟩
          case round =>
            clear H'
            try clear c1
            try clear c2
            try clear p2
            try clear c3
            try clear c4
            try clear c5
            try clear p6
            try clear c8
            try clear p8
            try clear q8
            try clear hx8
            try clear c10
            try clear c10b0
            try clear c11
            try clear c11b0
            try clear c12
            try clear c12b0
            try clear c14
            try clear c17
            try clear c17b0
            try clear c17b1
            try clear c17b2
            try clear c23
            try clear c24
            try clear c25
            try clear c33
            try clear c39
            try clear c40
            try clear c46
            try clear c47
            try clear c48
            try clear hcz29_0
            try clear hcz29_1
            try clear hcz29_10
            try clear hcz29_11
            try clear hcz29_12
            try clear hcz29_2
            try clear hcz29_3
            try clear hcz29_4
            try clear hcz29_5
            try clear hcz29_6
            try clear hcz29_7
            try clear hcz29_8
            try clear hcz29_9
            try clear hcz34_0
            try clear hcz34_1
            try clear hcz34_2
            try clear hcz36_0
            try clear hcz36_1
            try clear hcz36_10
            try clear hcz36_11
            try clear hcz36_12
            try clear hcz36_2
            try clear hcz36_3
            try clear hcz36_4
            try clear hcz36_5
            try clear hcz36_6
            try clear hcz36_7
            try clear hcz36_8
            try clear hcz36_9
            try clear hcz41_0
            try clear hcz41_1
            try clear hcz41_2
            try clear hcz43_0
            try clear hcz43_1
            try clear hcz43_10
            try clear hcz43_11
            try clear hcz43_12
            try clear hcz43_2
            try clear hcz43_3
            try clear hcz43_4
            try clear hcz43_5
            try clear hcz43_6
            try clear hcz43_7
            try clear hcz43_8
            try clear hcz43_9
            try clear hcz49_0
            try clear hcz49_1
            try clear hcz49_2
            try clear hfz29_0
            try clear hfz29_1
            try clear hfz29_10
            try clear hfz29_11
            try clear hfz29_12
            try clear hfz29_2
            try clear hfz29_3
            try clear hfz29_4
            try clear hfz29_5
            try clear hfz29_6
            try clear hfz29_7
            try clear hfz29_8
            try clear hfz29_9
            try clear hfz34_0
            try clear hfz34_1
            try clear hfz34_2
            try clear hfz36_0
            try clear hfz36_1
            try clear hfz36_10
            try clear hfz36_11
            try clear hfz36_12
            try clear hfz36_2
            try clear hfz36_3
            try clear hfz36_4
            try clear hfz36_5
            try clear hfz36_6
            try clear hfz36_7
            try clear hfz36_8
            try clear hfz36_9
            try clear hfz41_0
            try clear hfz41_1
            try clear hfz41_2
            try clear hfz43_0
            try clear hfz43_1
            try clear hfz43_10
            try clear hfz43_11
            try clear hfz43_12
            try clear hfz43_2
            try clear hfz43_3
            try clear hfz43_4
            try clear hfz43_5
            try clear hfz43_6
            try clear hfz43_7
            try clear hfz43_8
            try clear hfz43_9
            try clear hfz49_0
            try clear hfz49_1
            try clear hfz49_2
            try clear hx836_0
            try clear p2
            try clear p6
            try clear p8
            try clear p836
            try clear q8
            try clear q836
            obtain ⟨x19_2, x20_2, rfl, rfl, HA, HK2, HO_8, HO_860012, HO_867002, HO_874002, HO_881002, BK859, BK866, BK873, BK880, HB⟩ := hrel
            cases gk with
            | zero => exact absurd HA.out (by simp [bournelaw2_LowHists.l1])
            | succ k2 =>
              have H := HA.out
              clear HA
              simp only [bournelaw2_LowHists.l1] at H
              by_cases c51 : x20_2 < (t862.length : Int)
              · rw [if_pos c51] at H
                have c51b0 : decide (x20_2 < (t862.length : Int)) = true := decide_eq_true c51
                clear c51
                by_cases c52 : 0 ≤ x20_2
                · rw [if_pos c52] at H
                  have c52b0 : decide (0 ≤ x20_2) = true := decide_eq_true c52
                  clear c52
                  have H' := Aside0.mk H
                  clear H
                  have hnb53 := NB866_859.out
                  have hnc53 := NB859_866.out
                  have hnb54 := NB866_873.out
                  have hnc54 := NB873_866.out
                  have hnb55 := NB866_880.out
                  have hnc55 := NB880_866.out
                  have hcz56_0 : wr.cell? ⟨gb866, 0, none⟩ = some (.int .i64 t860) := (blk_cell BK866.out 0).trans rfl
                  have hcz56_1 : wr.cell? ⟨gb866, 1, none⟩ = some (.bool t861) := (blk_cell BK866.out 1).trans rfl
                  have hcz56_2 : wr.cell? ⟨gb866, 2, none⟩ = some (.slice Ao35 t862.length co35) := (blk_cell BK866.out 2).trans rfl
                  have hfz56_0 := blk_frozen BK866.out 0
                  have hfz56_1 := blk_frozen BK866.out 1
                  have hfz56_2 := blk_frozen BK866.out 2
                  have p881 : 0 ≤ (x20_2 : Int) := of_decide_eq_true (by first | (with_reducible assumption) | assumption)
                  have q881 : x20_2 < (t862.length : Int) := of_decide_eq_true (by first | (with_reducible assumption) | assumption)
                  obtain ⟨ad881, e881, hx881_0⟩ := Kd.at_int (Kd.R_reads' HO_867002.out).2.2 x20_2 p881 q881
                  cases e881
                  replace p881 := eq_true p881
                  replace q881 := eq_true q881
                  go_wp2
                  go_roundg k2
                  case measure => have := HJ5.out; have := HK2.out; omega
                  case rel => exact ⟨(wrap64 (x19_2 + (rd t862 x20_2))), (wrap64 (x20_2 + 1)), (by first | rfl | (simp; done) | (simp [*]; done)), (by first | rfl | (simp; done) | (simp [*]; done)), H', ⟨by have := HJ5.out; have := HK2.out; omega⟩, ⟨by (with_reducible repeat (first | apply Kd.R_alloc | apply Kd.R_drewN | apply Kd.R_drew)); exact HO_8.out⟩, ⟨by (with_reducible repeat (first | apply Kd.R_alloc | apply Kd.R_drewN | apply Kd.R_drew)); exact HO_860012.out⟩, ⟨by (with_reducible repeat (first | apply Kd.R_alloc | apply Kd.R_drewN | apply Kd.R_drew)); exact HO_867002.out⟩, ⟨by (with_reducible repeat (first | apply Kd.R_alloc | apply Kd.R_drewN | apply Kd.R_drew)); exact HO_874002.out⟩, ⟨by (with_reducible repeat (first | apply Kd.R_alloc | apply Kd.R_drewN | apply Kd.R_drew)); exact HO_881002.out⟩, ⟨by (with_reducible repeat (first | refine blk_drewN ?_ _ | refine blk_drew ?_ | refine blk_alloc ?_ _)); exact BK859.out⟩, ⟨by (with_reducible repeat (first | refine blk_drewN ?_ _ | refine blk_drew ?_ | refine blk_alloc ?_ _)); exact BK866.out⟩, ⟨by (with_reducible repeat (first | refine blk_drewN ?_ _ | refine blk_drew ?_ | refine blk_alloc ?_ _)); exact BK873.out⟩, ⟨by (with_reducible repeat (first | refine blk_drewN ?_ _ | refine blk_drew ?_ | refine blk_alloc ?_ _)); exact BK880.out⟩, ⟨by repeat (first | (with_reducible first | exact HB.out | apply below_alloc | apply pw_below_drewN | apply below_drew1 | refine below_set ?_ GE859.out | refine below_set ?_ GE866.out | refine below_set ?_ GE873.out | refine below_set ?_ GE880.out) | exact HB.out)⟩⟩
                · rw [if_neg c52] at H
                  exact absurd H (by simp)
              · rw [if_neg c51] at H
                have c51b0 : decide (x20_2 < (t862.length : Int)) = false := decide_eq_false c51
                clear c51
                replace H := Option.bind_eq_some_iff.mp H
                obtain ⟨t882, A570, H⟩ := H
                replace H : (if t882 = 0 then (if (t862.length : Int) = 5 then (if x19_2 = (x8_5.length : Int) then ((bournelaw0_Num.f t872).bind fun t883 => (if t883 = 0 then ((bournelaw0_Num.f t879).bind fun t884 => (if t884 = 0 then (some (decide (t867 ≤ t874))) else (some false))) else (some false))) else (some false)) else (some false)) else (some false)) = some r := H
                have A57 := Aside0.mk A570
                clear A570
                by_cases c58 : t882 = 0
                · rw [if_pos c58] at H
                  have c58b0 : (t882 == 0) = true := beq_iff_eq.mpr c58
                  have c58b1 : (t882 != 0) = false := bne_eq_false_iff_eq.mpr c58
                  clear c58
                  by_cases c59 : (t862.length : Int) = 5
                  · rw [if_pos c59] at H
                    have c59b0 : ((t862.length : Int) == 5) = true := beq_iff_eq.mpr c59
                    have c59b1 : ((t862.length : Int) != 5) = false := bne_eq_false_iff_eq.mpr c59
                    clear c59
                    by_cases c60 : x19_2 = (x8_5.length : Int)
                    · rw [if_pos c60] at H
                      have c60b0 : (x19_2 == (x8_5.length : Int)) = true := beq_iff_eq.mpr c60
                      have c60b1 : (x19_2 != (x8_5.length : Int)) = false := bne_eq_false_iff_eq.mpr c60
                      clear c60
                      replace H := Option.bind_eq_some_iff.mp H
                      obtain ⟨t883, A610, H⟩ := H
                      replace H : (if t883 = 0 then ((bournelaw0_Num.f t879).bind fun t884 => (if t884 = 0 then (some (decide (t867 ≤ t874))) else (some false))) else (some false)) = some r := H
                      have A61 := Aside0.mk A610
                      clear A610
                      by_cases c62 : t883 = 0
                      · rw [if_pos c62] at H
                        have c62b0 : (t883 == 0) = true := beq_iff_eq.mpr c62
                        have c62b1 : (t883 != 0) = false := bne_eq_false_iff_eq.mpr c62
                        clear c62
                        replace H := Option.bind_eq_some_iff.mp H
                        obtain ⟨t884, A630, H⟩ := H
                        replace H : (if t884 = 0 then (some (decide (t867 ≤ t874))) else (some false)) = some r := H
                        have A63 := Aside0.mk A630
                        clear A630
                        by_cases c64 : t884 = 0
                        · rw [if_pos c64] at H
                          have c64b0 : (t884 == 0) = true := beq_iff_eq.mpr c64
                          have c64b1 : (t884 != 0) = false := bne_eq_false_iff_eq.mpr c64
                          clear c64
                          obtain rfl := Option.some.inj H
                          have hnb65 := NB866_859.out
                          have hnc65 := NB859_866.out
                          have hnb66 := NB866_873.out
                          have hnc66 := NB873_866.out
                          have hnb67 := NB866_880.out
                          have hnc67 := NB880_866.out
                          have hcz68_0 : wr.cell? ⟨gb866, 0, none⟩ = some (.int .i64 t860) := (blk_cell BK866.out 0).trans rfl
                          have hcz68_1 : wr.cell? ⟨gb866, 1, none⟩ = some (.bool t861) := (blk_cell BK866.out 1).trans rfl
                          have hcz68_2 : wr.cell? ⟨gb866, 2, none⟩ = some (.slice Ao35 t862.length co35) := (blk_cell BK866.out 2).trans rfl
                          have hfz68_0 := blk_frozen BK866.out 0
                          have hfz68_1 := blk_frozen BK866.out 1
                          have hfz68_2 := blk_frozen BK866.out 2
                          go_wp2_with (first | ((with_reducible refine gate_callee (f := 20) rfl ?_); refine goesL_ (some 103) rfl rfl Try.func20 (by kernel_rfl) rfl #[.int .i64 t865] rfl (by (try simp only [List.map_toArray, List.map_cons, List.map_nil]); first | done | rfl | (simp only [List.length_drop, List.length_take]; rfl)) ?_; (with_reducible refine (bournelaw0_Num.calls t865 t882 _ A57.out).mono ?_); rintro e w' ⟨rfl, ⟨nd, rfl⟩⟩; refine ⟨_, rfl, ?_⟩) | (go_at_call 20; (with_reducible refine (bournelaw0_Num.calls t872 t883 _ A61.out).mono ?_); rintro e w' ⟨rfl, ⟨nd, rfl⟩⟩) | (go_at_call 20; (with_reducible refine (bournelaw0_Num.calls t879 t884 _ A63.out).mono ?_); rintro e w' ⟨rfl, ⟨nd, rfl⟩⟩; have hnb69 := NB873_859.out; have hnc69 := NB859_873.out; have hnb70 := NB873_880.out; have hnc70 := NB880_873.out; have hcz71_0 : wr.cell? ⟨gb873, 0, none⟩ = some (.int .i64 t867) := (blk_cell BK873.out 0).trans rfl; have hcz71_1 : wr.cell? ⟨gb873, 1, none⟩ = some (.bool t868) := (blk_cell BK873.out 1).trans rfl; have hcz71_2 : wr.cell? ⟨gb873, 2, none⟩ = some (.slice Ao42 t869.length co42) := (blk_cell BK873.out 2).trans rfl; have hfz71_0 := blk_frozen BK873.out 0; have hfz71_1 := blk_frozen BK873.out 1; have hfz71_2 := blk_frozen BK873.out 2; have hnb72 := NB880_859.out; have hnc72 := NB859_880.out; have hcz73_0 : wr.cell? ⟨gb880, 0, none⟩ = some (.int .i64 t874) := (blk_cell BK880.out 0).trans rfl; have hcz73_1 : wr.cell? ⟨gb880, 1, none⟩ = some (.bool t875) := (blk_cell BK880.out 1).trans rfl; have hcz73_2 : wr.cell? ⟨gb880, 2, none⟩ = some (.slice Ao50 t876.length co50) := (blk_cell BK880.out 2).trans rfl; have hfz73_0 := blk_frozen BK880.out 0; have hfz73_1 := blk_frozen BK880.out 1; have hfz73_2 := blk_frozen BK880.out 2))
                          go_ret
                          exact ⟨by first | rfl | (simp [errW_none, errW_some] <;> rfl) | (simp only [← hji21, ← hji23]; first | rfl | (simp [errW_none, errW_some] <;> rfl)) | (simp [*, errW_none, errW_some] <;> rfl), by repeat (first | (with_reducible first | exact HB.out | apply below_alloc | apply pw_below_drewN | apply below_drew1 | refine below_set ?_ GE859.out | refine below_set ?_ GE866.out | refine below_set ?_ GE873.out | refine below_set ?_ GE880.out) | exact HB.out)⟩
                        · rw [if_neg c64] at H
                          have c64b0 : (t884 == 0) = false := beq_eq_false_iff_ne.mpr c64
                          have c64b1 : (t884 != 0) = true := bne_iff_ne.mpr c64
                          obtain rfl := Option.some.inj H
                          have hnb74 := NB866_859.out
                          have hnc74 := NB859_866.out
                          have hnb75 := NB866_873.out
                          have hnc75 := NB873_866.out
                          have hnb76 := NB866_880.out
                          have hnc76 := NB880_866.out
                          have hcz77_0 : wr.cell? ⟨gb866, 0, none⟩ = some (.int .i64 t860) := (blk_cell BK866.out 0).trans rfl
                          have hcz77_1 : wr.cell? ⟨gb866, 1, none⟩ = some (.bool t861) := (blk_cell BK866.out 1).trans rfl
                          have hcz77_2 : wr.cell? ⟨gb866, 2, none⟩ = some (.slice Ao35 t862.length co35) := (blk_cell BK866.out 2).trans rfl
                          have hfz77_0 := blk_frozen BK866.out 0
                          have hfz77_1 := blk_frozen BK866.out 1
                          have hfz77_2 := blk_frozen BK866.out 2
                          go_wp2_with (first | ((with_reducible refine gate_callee (f := 20) rfl ?_); refine goesL_ (some 103) rfl rfl Try.func20 (by kernel_rfl) rfl #[.int .i64 t865] rfl (by (try simp only [List.map_toArray, List.map_cons, List.map_nil]); first | done | rfl | (simp only [List.length_drop, List.length_take]; rfl)) ?_; (with_reducible refine (bournelaw0_Num.calls t865 t882 _ A57.out).mono ?_); rintro e w' ⟨rfl, ⟨nd, rfl⟩⟩; refine ⟨_, rfl, ?_⟩) | (go_at_call 20; (with_reducible refine (bournelaw0_Num.calls t872 t883 _ A61.out).mono ?_); rintro e w' ⟨rfl, ⟨nd, rfl⟩⟩) | (go_at_call 20; (with_reducible refine (bournelaw0_Num.calls t879 t884 _ A63.out).mono ?_); rintro e w' ⟨rfl, ⟨nd, rfl⟩⟩))
                          go_ret
                          exact ⟨by first | rfl | (simp [errW_none, errW_some] <;> rfl) | (simp only [← hji21, ← hji23]; first | rfl | (simp [errW_none, errW_some] <;> rfl)) | (simp [*, errW_none, errW_some] <;> rfl), by repeat (first | (with_reducible first | exact HB.out | apply below_alloc | apply pw_below_drewN | apply below_drew1 | refine below_set ?_ GE859.out | refine below_set ?_ GE866.out | refine below_set ?_ GE873.out | refine below_set ?_ GE880.out) | exact HB.out)⟩
                      · rw [if_neg c62] at H
                        have c62b0 : (t883 == 0) = false := beq_eq_false_iff_ne.mpr c62
                        have c62b1 : (t883 != 0) = true := bne_iff_ne.mpr c62
                        obtain rfl := Option.some.inj H
                        have hnb78 := NB866_859.out
                        have hnc78 := NB859_866.out
                        have hnb79 := NB866_873.out
                        have hnc79 := NB873_866.out
                        have hnb80 := NB866_880.out
                        have hnc80 := NB880_866.out
                        have hcz81_0 : wr.cell? ⟨gb866, 0, none⟩ = some (.int .i64 t860) := (blk_cell BK866.out 0).trans rfl
                        have hcz81_1 : wr.cell? ⟨gb866, 1, none⟩ = some (.bool t861) := (blk_cell BK866.out 1).trans rfl
                        have hcz81_2 : wr.cell? ⟨gb866, 2, none⟩ = some (.slice Ao35 t862.length co35) := (blk_cell BK866.out 2).trans rfl
                        have hfz81_0 := blk_frozen BK866.out 0
                        have hfz81_1 := blk_frozen BK866.out 1
                        have hfz81_2 := blk_frozen BK866.out 2
                        go_wp2_with (first | ((with_reducible refine gate_callee (f := 20) rfl ?_); refine goesL_ (some 103) rfl rfl Try.func20 (by kernel_rfl) rfl #[.int .i64 t865] rfl (by (try simp only [List.map_toArray, List.map_cons, List.map_nil]); first | done | rfl | (simp only [List.length_drop, List.length_take]; rfl)) ?_; (with_reducible refine (bournelaw0_Num.calls t865 t882 _ A57.out).mono ?_); rintro e w' ⟨rfl, ⟨nd, rfl⟩⟩; refine ⟨_, rfl, ?_⟩) | (go_at_call 20; (with_reducible refine (bournelaw0_Num.calls t872 t883 _ A61.out).mono ?_); rintro e w' ⟨rfl, ⟨nd, rfl⟩⟩))
                        go_ret
                        exact ⟨by first | rfl | (simp [errW_none, errW_some] <;> rfl) | (simp only [← hji21, ← hji23]; first | rfl | (simp [errW_none, errW_some] <;> rfl)) | (simp [*, errW_none, errW_some] <;> rfl), by repeat (first | (with_reducible first | exact HB.out | apply below_alloc | apply pw_below_drewN | apply below_drew1 | refine below_set ?_ GE859.out | refine below_set ?_ GE866.out | refine below_set ?_ GE873.out | refine below_set ?_ GE880.out) | exact HB.out)⟩
                    · rw [if_neg c60] at H
                      have c60b0 : (x19_2 == (x8_5.length : Int)) = false := beq_eq_false_iff_ne.mpr c60
                      have c60b1 : (x19_2 != (x8_5.length : Int)) = true := bne_iff_ne.mpr c60
                      obtain rfl := Option.some.inj H
                      have hnb82 := NB866_859.out
                      have hnc82 := NB859_866.out
                      have hnb83 := NB866_873.out
                      have hnc83 := NB873_866.out
                      have hnb84 := NB866_880.out
                      have hnc84 := NB880_866.out
                      have hcz85_0 : wr.cell? ⟨gb866, 0, none⟩ = some (.int .i64 t860) := (blk_cell BK866.out 0).trans rfl
                      have hcz85_1 : wr.cell? ⟨gb866, 1, none⟩ = some (.bool t861) := (blk_cell BK866.out 1).trans rfl
                      have hcz85_2 : wr.cell? ⟨gb866, 2, none⟩ = some (.slice Ao35 t862.length co35) := (blk_cell BK866.out 2).trans rfl
                      have hfz85_0 := blk_frozen BK866.out 0
                      have hfz85_1 := blk_frozen BK866.out 1
                      have hfz85_2 := blk_frozen BK866.out 2
                      go_wp2_with (first | ((with_reducible refine gate_callee (f := 20) rfl ?_); refine goesL_ (some 103) rfl rfl Try.func20 (by kernel_rfl) rfl #[.int .i64 t865] rfl (by (try simp only [List.map_toArray, List.map_cons, List.map_nil]); first | done | rfl | (simp only [List.length_drop, List.length_take]; rfl)) ?_; (with_reducible refine (bournelaw0_Num.calls t865 t882 _ A57.out).mono ?_); rintro e w' ⟨rfl, ⟨nd, rfl⟩⟩; refine ⟨_, rfl, ?_⟩))
                      go_ret
                      exact ⟨by first | rfl | (simp [errW_none, errW_some] <;> rfl) | (simp only [← hji21, ← hji23]; first | rfl | (simp [errW_none, errW_some] <;> rfl)) | (simp [*, errW_none, errW_some] <;> rfl), by repeat (first | (with_reducible first | exact HB.out | apply below_alloc | apply pw_below_drewN | apply below_drew1 | refine below_set ?_ GE859.out | refine below_set ?_ GE866.out | refine below_set ?_ GE873.out | refine below_set ?_ GE880.out) | exact HB.out)⟩
                  · rw [if_neg c59] at H
                    have c59b0 : ((t862.length : Int) == 5) = false := beq_eq_false_iff_ne.mpr c59
                    have c59b1 : ((t862.length : Int) != 5) = true := bne_iff_ne.mpr c59
                    obtain rfl := Option.some.inj H
                    have hnb86 := NB866_859.out
                    have hnc86 := NB859_866.out
                    have hnb87 := NB866_873.out
                    have hnc87 := NB873_866.out
                    have hnb88 := NB866_880.out
                    have hnc88 := NB880_866.out
                    have hcz89_0 : wr.cell? ⟨gb866, 0, none⟩ = some (.int .i64 t860) := (blk_cell BK866.out 0).trans rfl
                    have hcz89_1 : wr.cell? ⟨gb866, 1, none⟩ = some (.bool t861) := (blk_cell BK866.out 1).trans rfl
                    have hcz89_2 : wr.cell? ⟨gb866, 2, none⟩ = some (.slice Ao35 t862.length co35) := (blk_cell BK866.out 2).trans rfl
                    have hfz89_0 := blk_frozen BK866.out 0
                    have hfz89_1 := blk_frozen BK866.out 1
                    have hfz89_2 := blk_frozen BK866.out 2
                    go_wp2_with (first | ((with_reducible refine gate_callee (f := 20) rfl ?_); refine goesL_ (some 103) rfl rfl Try.func20 (by kernel_rfl) rfl #[.int .i64 t865] rfl (by (try simp only [List.map_toArray, List.map_cons, List.map_nil]); first | done | rfl | (simp only [List.length_drop, List.length_take]; rfl)) ?_; (with_reducible refine (bournelaw0_Num.calls t865 t882 _ A57.out).mono ?_); rintro e w' ⟨rfl, ⟨nd, rfl⟩⟩; refine ⟨_, rfl, ?_⟩))
                    go_ret
                    exact ⟨by first | rfl | (simp [errW_none, errW_some] <;> rfl) | (simp only [← hji21, ← hji23]; first | rfl | (simp [errW_none, errW_some] <;> rfl)) | (simp [*, errW_none, errW_some] <;> rfl), by repeat (first | (with_reducible first | exact HB.out | apply below_alloc | apply pw_below_drewN | apply below_drew1 | refine below_set ?_ GE859.out | refine below_set ?_ GE866.out | refine below_set ?_ GE873.out | refine below_set ?_ GE880.out) | exact HB.out)⟩
                · rw [if_neg c58] at H
                  have c58b0 : (t882 == 0) = false := beq_eq_false_iff_ne.mpr c58
                  have c58b1 : (t882 != 0) = true := bne_iff_ne.mpr c58
                  obtain rfl := Option.some.inj H
                  have hnb90 := NB866_859.out
                  have hnc90 := NB859_866.out
                  have hnb91 := NB866_873.out
                  have hnc91 := NB873_866.out
                  have hnb92 := NB866_880.out
                  have hnc92 := NB880_866.out
                  have hcz93_0 : wr.cell? ⟨gb866, 0, none⟩ = some (.int .i64 t860) := (blk_cell BK866.out 0).trans rfl
                  have hcz93_1 : wr.cell? ⟨gb866, 1, none⟩ = some (.bool t861) := (blk_cell BK866.out 1).trans rfl
                  have hcz93_2 : wr.cell? ⟨gb866, 2, none⟩ = some (.slice Ao35 t862.length co35) := (blk_cell BK866.out 2).trans rfl
                  have hfz93_0 := blk_frozen BK866.out 0
                  have hfz93_1 := blk_frozen BK866.out 1
                  have hfz93_2 := blk_frozen BK866.out 2
                  go_wp2_with (first | ((with_reducible refine gate_callee (f := 20) rfl ?_); refine goesL_ (some 103) rfl rfl Try.func20 (by kernel_rfl) rfl #[.int .i64 t865] rfl (by (try simp only [List.map_toArray, List.map_cons, List.map_nil]); first | done | rfl | (simp only [List.length_drop, List.length_take]; rfl)) ?_; (with_reducible refine (bournelaw0_Num.calls t865 t882 _ A57.out).mono ?_); rintro e w' ⟨rfl, ⟨nd, rfl⟩⟩; refine ⟨_, rfl, ?_⟩))
                  go_ret
                  exact ⟨by first | rfl | (simp [errW_none, errW_some] <;> rfl) | (simp only [← hji21, ← hji23]; first | rfl | (simp [errW_none, errW_some] <;> rfl)) | (simp [*, errW_none, errW_some] <;> rfl), by repeat (first | (with_reducible first | exact HB.out | apply below_alloc | apply pw_below_drewN | apply below_drew1 | refine below_set ?_ GE859.out | refine below_set ?_ GE866.out | refine below_set ?_ GE873.out | refine below_set ?_ GE880.out) | exact HB.out)⟩
  · replace c5 := Bool.eq_false_iff.mpr c5
    subst c5
    have H1 : (some false) = some r := by rw [if_neg (show ¬ (false = true) by decide)] at H; exact H
    clear H
    have H := H1
    clear H1
    obtain rfl := Option.some.inj H
    go_enter Try.func8, Try.ntmps8
    go_wp2_with (first | ((with_reducible refine gate_callee (f := 23) rfl ?_); refine goesL_ (some 21) rfl rfl Try.func23 (by kernel_rfl) rfl #[] rfl (by (try simp only [List.map_toArray, List.map_cons, List.map_nil]); first | done | rfl | (simp only [List.length_drop, List.length_take]; rfl)) ?_; (with_reducible refine (bournelaw2_awake.calls  false _ A4.out).mono ?_); rintro e w94 ⟨rfl, hb⟩; refine ⟨_, rfl, ?_⟩; have n0_ := Aside0.mk (below_step (by repeat (first | (with_reducible first | exact HB.out | apply below_alloc | apply pw_below_drewN | apply below_drew1) | exact HB.out)) hb); clear HB; have HB := n0_; clear n0_; (try clear hb); (try clear hb2); (try clear hk); (try clear hi)))
    go_ret
    exact ⟨by first | rfl | (simp [errW_none, errW_some] <;> rfl) | (simp [*, errW_none, errW_some] <;> rfl), by repeat (first | (with_reducible first | exact HB.out | apply below_alloc | apply pw_below_drewN | apply below_drew1) | exact HB.out)⟩

/-- THE ONE PURE STATEMENT of bournelaw2_LowHists: yours. -/
def bournelaw2_LowHists.Pure : Prop := ∀ (l0 : List Int) (a1 : Int) (a2 : Int), l0.length ≤ maxLen → l0.length * 8 ≤ 140737488351232 → (∀ x ∈ l0, (Lit.int .i64 x).wf = true) → (Lit.int .i64 a1).wf = true → (Lit.int .i64 a2).wf = true → ∃ k, bournelaw2_LowHists.f k l0 a1 a2 = some true
theorem bournelaw2_LowHists.walk (P : bournelaw2_LowHists.Pure) (a0 : Option Addr) (len0 cap0 : Nat) (z0 : List Int) (a1 : Int) (a2 : Int) (w : World) (w0 : (a0 = none ∧ len0 = 0 ∧ cap0 = 0 ∧ z0 = []) ∨ ∃ x, a0 = some x ∧ len0 ≤ cap0 ∧ cap0 ≤ maxLen ∧ z0.length = cap0 ∧ (∀ i, i < z0.length → w.cell? (x.add i) = some (.int .i64 (z0.getD i 0))) ∧ ∀ n ∈ z0, (Lit.int .i64 n).wf = true) (y0 : len0 * 8 ≤ 140737488351232) (w1 : (Lit.int .i64 a1).wf = true) (w2 : (Lit.int .i64 a2).wf = true) :
    Calls Try.prog 8 #[.slice a0 len0 cap0, .int .i64 a1, .int .i64 a2] w fun e w' => e = .returned (.bool true) ∧ Below w.heap.size w w' := by
  obtain ⟨l0, rfl, hr0, hm0, hw0, hc0⟩ := ReadsInt.ofRowC w0
  obtain ⟨k, h⟩ := P l0 a1 a2 hm0 y0 hw0 w1 w2
  refine (bournelaw2_LowHists.calls k _ _ l0 a1 a2 true w (Kd.C_of_reads (d := (0 : Int)) (h1 := fun _ => rfl) hr0) hc0 h).mono ?_
  rintro e w' ⟨rfl, hd⟩
  exact ⟨rfl, hd⟩

end Go.Proofs.Ytggaefklcpbfnaa.Pa
