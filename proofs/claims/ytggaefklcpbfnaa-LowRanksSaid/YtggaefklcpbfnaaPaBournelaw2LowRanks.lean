/- Go functions of the given program as plain Lean functions, each with a proof that the machine's call answers so; no statement of the seed is proved here. -/
import Derived.Test.YtggaefklcpbfnaaPa0
import Derived.Test.YtggaefklcpbfnaaPaBournelaw2awake
import Derived.Test.YtggaefklcpbfnaaPaFold
import Derived.Test.YtggaefklcpbfnaaPaItem2
import Derived.Test.YtggaefklcpbfnaaPaLeaf
import Derived.Test.YtggaefklcpbfnaaPaLowValue
namespace Go.Proofs.Ytggaefklcpbfnaa.Pa
open Go.RowKit Go.Proofs.YtggaefklcpbfnaaW.PrintWords Go.Proofs.YtggaefklcpbfnaaW.PrintLast Go.Proofs.YtggaefklcpbfnaaW.PrintMore
attribute [local go_sem] max2_int min2_int max_two min_two max_three min_three max_four min_four   -- for this text's walks alone
set_option linter.unusedVariables false
set_option linter.unusedSimpArgs false

/-! ### bournelaw2_LowRanks: function 5 -/
mutual
def bournelaw2_LowRanks.j1 : Nat → Int → List Int → List (S26) → Option (Bool)
  | 0, _, _, _ => none
  | k + 1, x1, x5, x6 => if (x6.length : Int) = 0 then (some true) else ((bournelaw2_fold.f k x6 x5).bind fun bt687 => ((low_Value.f 0 7 0 0 x5 (wrap64 (Int.tmod (IntKind.u64.wrap (x1)) 1001)) bt687.1 bt687.2.1 bt687.2.2.1 bt687.2.2.2.1 bt687.2.2.2.2.1 bt687.2.2.2.2.2.1 bt687.2.2.2.2.2.2.1 bt687.2.2.2.2.2.2.2.1 bt687.2.2.2.2.2.2.2.2.1 bt687.2.2.2.2.2.2.2.2.2.1 bt687.2.2.2.2.2.2.2.2.2.2.1 bt687.2.2.2.2.2.2.2.2.2.2.2.1 bt687.2.2.2.2.2.2.2.2.2.2.2.2).bind fun bt702 => ((bournelaw0_Num.f bt702.2.2.2).bind fun t709 => (if t709 = 0 then (if bt702.2.1 = true then (bournelaw2_LowRanks.j2 k x5 x6 (wrap64 (Int.tmod (IntKind.u64.wrap (x1)) 1001)) true bt702.1 bt702.2.1 bt702.2.2.1) else (bournelaw2_LowRanks.j2 k x5 x6 (wrap64 (Int.tmod (IntKind.u64.wrap (x1)) 1001)) ((bt702.2.2.1.length : Int) != 0) bt702.1 bt702.2.1 bt702.2.2.1)) else (bournelaw2_LowRanks.j2 k x5 x6 (wrap64 (Int.tmod (IntKind.u64.wrap (x1)) 1001)) true bt702.1 bt702.2.1 bt702.2.2.1)))))
def bournelaw2_LowRanks.j2 : Nat → List Int → List (S26) → Int → Bool → Int → Bool → List Int → Option (Bool)
  | 0, _, _, _, _, _, _, _ => none
  | k + 1, x5, x6, x10, x77, x709000, x709001, x709002 => if x77 = true then (some false) else (bournelaw2_LowRanks.l1 k x5 x6 x10 (-1099511627776) 0 x709000 x709001 x709002)
def bournelaw2_LowRanks.l1 : Nat → List Int → List (S26) → Int → Int → Int → Int → Bool → List Int → Option (Bool)
  | 0, _, _, _, _, _, _, _, _ => none
  | k + 1, x5, x6, x10, x13, x14, x709000, x709001, x709002 => if x14 < (x5.length : Int) then (if 0 ≤ x14 then (if (rd x5 x14) < x709000 then (bournelaw2_LowRanks.l1 k x5 x6 x10 (rd x5 x14) (wrap64 (x14 + 1)) x709000 x709001 x709002) else (bournelaw2_LowRanks.l1 k x5 x6 x10 x13 (wrap64 (x14 + 1)) x709000 x709001 x709002)) else (none)) else (bournelaw2_LowRanks.l2 k x6 x10 x13 0 0 0 x709000 x709001 x709002)
def bournelaw2_LowRanks.l2 : Nat → List (S26) → Int → Int → Int → Int → Int → Int → Bool → List Int → Option (Bool)
  | 0, _, _, _, _, _, _, _, _, _ => none
  | k + 1, x6, x10, x13, x15, x16, x17, x709000, x709001, x709002 => if x17 < (x6.length : Int) then (if 0 ≤ x17 then (if ((rd_T26 x6 x17).f3) ≤ x709000 then (if ((rd_T26 x6 x17).f3) ≤ x13 then (bournelaw2_LowRanks.l2 k x6 x10 x13 (wrap64 (x15 + 1)) (wrap64 (x16 + 1)) (wrap64 (x17 + 1)) x709000 x709001 x709002) else (bournelaw2_LowRanks.l2 k x6 x10 x13 (wrap64 (x15 + 1)) x16 (wrap64 (x17 + 1)) x709000 x709001 x709002)) else (if ((rd_T26 x6 x17).f3) ≤ x13 then (bournelaw2_LowRanks.l2 k x6 x10 x13 x15 (wrap64 (x16 + 1)) (wrap64 (x17 + 1)) x709000 x709001 x709002) else (bournelaw2_LowRanks.l2 k x6 x10 x13 x15 x16 (wrap64 (x17 + 1)) x709000 x709001 x709002))) else (none)) else (if x15 ≥ 1 then (if (wrap64 (x15 * 1000)) ≥ (wrap64 (x10 * (x6.length : Int))) then (if (wrap64 (x16 * 1000)) < (wrap64 (x10 * (x6.length : Int))) then (some true) else (some (x16 == 0))) else (some false)) else (some false))
def bournelaw2_LowRanks.l0 : Nat → List Int → Int → List Int → List (S26) → Int → Int → Option (Bool)
  | 0, _, _, _, _, _, _ => none
  | k + 1, x0, x1, x5, x6, x7, x8 => if x8 < (x0.length : Int) then (if x8 < 30 then (if 0 ≤ x8 then ((bournelaw2_item.f 0 x8 (wrap64 (x8 + 1)) (wrap64 ((Go.bits .and .i64 (rd x0 x8) 1023) - 500))).bind fun bt680 => (if x6.length < 4398046511104 then (bournelaw2_LowRanks.l0 k x0 x1 x5 (x6 ++ [(⟨bt680.1, bt680.2.1, bt680.2.2.1, bt680.2.2.2⟩ : S26)]) (mx x7 (wrap64 ((Go.bits .and .i64 (rd x0 x8) 1023) - 500))) (wrap64 (x8 + 1))) else (none))) else (none)) else (bournelaw2_LowRanks.j1 k x1 x5 x6)) else (bournelaw2_LowRanks.j1 k x1 x5 x6)
end
def bournelaw2_LowRanks.f (k : Nat) (l0 : List Int) (a1 : Int) : Option (Bool) := (bournelaw2_awake.f).bind fun t675 => (if t675 = true then (bournelaw2_LowRanks.l0 k l0 a1 (([(-100), 0, 50, 200] : List Int)) ([] : List (S26)) (-1099511627776) 0) else (some false))
theorem bournelaw2_LowRanks.mono_l : ∀ k, (∀ y0 y1 y2, LeO (bournelaw2_LowRanks.j1 k y0 y1 y2) (bournelaw2_LowRanks.j1 (k + 1) y0 y1 y2)) ∧ (∀ y0 y1 y2 y3 y4 y5 y6, LeO (bournelaw2_LowRanks.j2 k y0 y1 y2 y3 y4 y5 y6) (bournelaw2_LowRanks.j2 (k + 1) y0 y1 y2 y3 y4 y5 y6)) ∧ (∀ y0 y1 y2 y3 y4 y5 y6 y7, LeO (bournelaw2_LowRanks.l1 k y0 y1 y2 y3 y4 y5 y6 y7) (bournelaw2_LowRanks.l1 (k + 1) y0 y1 y2 y3 y4 y5 y6 y7)) ∧ (∀ y0 y1 y2 y3 y4 y5 y6 y7 y8, LeO (bournelaw2_LowRanks.l2 k y0 y1 y2 y3 y4 y5 y6 y7 y8) (bournelaw2_LowRanks.l2 (k + 1) y0 y1 y2 y3 y4 y5 y6 y7 y8)) ∧ (∀ y0 y1 y2 y3 y4 y5, LeO (bournelaw2_LowRanks.l0 k y0 y1 y2 y3 y4 y5) (bournelaw2_LowRanks.l0 (k + 1) y0 y1 y2 y3 y4 y5))
  | 0 => ⟨fun _ _ _ r h => by simp [bournelaw2_LowRanks.j1] at h, fun _ _ _ _ _ _ _ r h => by simp [bournelaw2_LowRanks.j2] at h, fun _ _ _ _ _ _ _ _ r h => by simp [bournelaw2_LowRanks.l1] at h, fun _ _ _ _ _ _ _ _ _ r h => by simp [bournelaw2_LowRanks.l2] at h, fun _ _ _ _ _ _ r h => by simp [bournelaw2_LowRanks.l0] at h⟩
  | k + 1 => by
    obtain ⟨ih0, ih1, ih2, ih3, ih4⟩ := bournelaw2_LowRanks.mono_l k
    refine ⟨?_, ?_, ?_, ?_, ?_⟩
    · intro y0 y1 y2
      unfold bournelaw2_LowRanks.j1
      repeat' first
      | (with_reducible exact ih0 _ _ _)
      | (with_reducible exact ih1 _ _ _ _ _ _ _)
      | (with_reducible exact ih2 _ _ _ _ _ _ _ _)
      | (with_reducible exact ih3 _ _ _ _ _ _ _ _ _)
      | (with_reducible exact ih4 _ _ _ _ _ _)
      | (with_reducible exact bournelaw2_fold.mono _ _ _)
      | (with_reducible exact LeO.refl _)
      | (with_reducible exact LeO.none _)
      | (with_reducible refine LeO.ite ?_ ?_)
      | (with_reducible refine LeO.bind ?_ (fun _ => ?_))
      | exact ih0 _ _ _
      | exact ih1 _ _ _ _ _ _ _
      | exact ih2 _ _ _ _ _ _ _ _
      | exact ih3 _ _ _ _ _ _ _ _ _
      | exact ih4 _ _ _ _ _ _
      | exact bournelaw2_fold.mono _ _ _
      | exact LeO.none _
      | refine LeO.ite ?_ ?_
      | refine LeO.bind ?_ (fun _ => ?_)
    · intro y0 y1 y2 y3 y4 y5 y6
      unfold bournelaw2_LowRanks.j2
      repeat' first
      | (with_reducible exact ih0 _ _ _)
      | (with_reducible exact ih1 _ _ _ _ _ _ _)
      | (with_reducible exact ih2 _ _ _ _ _ _ _ _)
      | (with_reducible exact ih3 _ _ _ _ _ _ _ _ _)
      | (with_reducible exact ih4 _ _ _ _ _ _)
      | (with_reducible exact bournelaw2_fold.mono _ _ _)
      | (with_reducible exact LeO.refl _)
      | (with_reducible exact LeO.none _)
      | (with_reducible refine LeO.ite ?_ ?_)
      | (with_reducible refine LeO.bind ?_ (fun _ => ?_))
      | exact ih0 _ _ _
      | exact ih1 _ _ _ _ _ _ _
      | exact ih2 _ _ _ _ _ _ _ _
      | exact ih3 _ _ _ _ _ _ _ _ _
      | exact ih4 _ _ _ _ _ _
      | exact bournelaw2_fold.mono _ _ _
      | exact LeO.none _
      | refine LeO.ite ?_ ?_
      | refine LeO.bind ?_ (fun _ => ?_)
    · intro y0 y1 y2 y3 y4 y5 y6 y7
      unfold bournelaw2_LowRanks.l1
      repeat' first
      | (with_reducible exact ih0 _ _ _)
      | (with_reducible exact ih1 _ _ _ _ _ _ _)
      | (with_reducible exact ih2 _ _ _ _ _ _ _ _)
      | (with_reducible exact ih3 _ _ _ _ _ _ _ _ _)
      | (with_reducible exact ih4 _ _ _ _ _ _)
      | (with_reducible exact bournelaw2_fold.mono _ _ _)
      | (with_reducible exact LeO.refl _)
      | (with_reducible exact LeO.none _)
      | (with_reducible refine LeO.ite ?_ ?_)
      | (with_reducible refine LeO.bind ?_ (fun _ => ?_))
      | exact ih0 _ _ _
      | exact ih1 _ _ _ _ _ _ _
      | exact ih2 _ _ _ _ _ _ _ _
      | exact ih3 _ _ _ _ _ _ _ _ _
      | exact ih4 _ _ _ _ _ _
      | exact bournelaw2_fold.mono _ _ _
      | exact LeO.none _
      | refine LeO.ite ?_ ?_
      | refine LeO.bind ?_ (fun _ => ?_)
    · intro y0 y1 y2 y3 y4 y5 y6 y7 y8
      unfold bournelaw2_LowRanks.l2
      repeat' first
      | (with_reducible exact ih0 _ _ _)
      | (with_reducible exact ih1 _ _ _ _ _ _ _)
      | (with_reducible exact ih2 _ _ _ _ _ _ _ _)
      | (with_reducible exact ih3 _ _ _ _ _ _ _ _ _)
      | (with_reducible exact ih4 _ _ _ _ _ _)
      | (with_reducible exact bournelaw2_fold.mono _ _ _)
      | (with_reducible exact LeO.refl _)
      | (with_reducible exact LeO.none _)
      | (with_reducible refine LeO.ite ?_ ?_)
      | (with_reducible refine LeO.bind ?_ (fun _ => ?_))
      | exact ih0 _ _ _
      | exact ih1 _ _ _ _ _ _ _
      | exact ih2 _ _ _ _ _ _ _ _
      | exact ih3 _ _ _ _ _ _ _ _ _
      | exact ih4 _ _ _ _ _ _
      | exact bournelaw2_fold.mono _ _ _
      | exact LeO.none _
      | refine LeO.ite ?_ ?_
      | refine LeO.bind ?_ (fun _ => ?_)
    · intro y0 y1 y2 y3 y4 y5
      unfold bournelaw2_LowRanks.l0
      repeat' first
      | (with_reducible exact ih0 _ _ _)
      | (with_reducible exact ih1 _ _ _ _ _ _ _)
      | (with_reducible exact ih2 _ _ _ _ _ _ _ _)
      | (with_reducible exact ih3 _ _ _ _ _ _ _ _ _)
      | (with_reducible exact ih4 _ _ _ _ _ _)
      | (with_reducible exact bournelaw2_fold.mono _ _ _)
      | (with_reducible exact LeO.refl _)
      | (with_reducible exact LeO.none _)
      | (with_reducible refine LeO.ite ?_ ?_)
      | (with_reducible refine LeO.bind ?_ (fun _ => ?_))
      | exact ih0 _ _ _
      | exact ih1 _ _ _ _ _ _ _
      | exact ih2 _ _ _ _ _ _ _ _
      | exact ih3 _ _ _ _ _ _ _ _ _
      | exact ih4 _ _ _ _ _ _
      | exact bournelaw2_fold.mono _ _ _
      | exact LeO.none _
      | refine LeO.ite ?_ ?_
      | refine LeO.bind ?_ (fun _ => ?_)
theorem bournelaw2_LowRanks.mono : ∀ a0 a1 k, LeO (bournelaw2_LowRanks.f k a0 a1) (bournelaw2_LowRanks.f (k + 1) a0 a1) := by
  intro a0 a1 k
  obtain ⟨ih0, ih1, ih2, ih3, ih4⟩ := bournelaw2_LowRanks.mono_l k
  unfold bournelaw2_LowRanks.f
  repeat' first
      | (with_reducible exact ih0 _ _ _)
      | (with_reducible exact ih1 _ _ _ _ _ _ _)
      | (with_reducible exact ih2 _ _ _ _ _ _ _ _)
      | (with_reducible exact ih3 _ _ _ _ _ _ _ _ _)
      | (with_reducible exact ih4 _ _ _ _ _ _)
      | (with_reducible exact bournelaw2_fold.mono _ _ _)
      | (with_reducible exact LeO.refl _)
      | (with_reducible exact LeO.none _)
      | (with_reducible refine LeO.ite ?_ ?_)
      | (with_reducible refine LeO.bind ?_ (fun _ => ?_))
      | exact ih0 _ _ _
      | exact ih1 _ _ _ _ _ _ _
      | exact ih2 _ _ _ _ _ _ _ _
      | exact ih3 _ _ _ _ _ _ _ _ _
      | exact ih4 _ _ _ _ _ _
      | exact bournelaw2_fold.mono _ _ _
      | exact LeO.none _
      | refine LeO.ite ?_ ?_
      | refine LeO.bind ?_ (fun _ => ?_)
set_option maxHeartbeats 8000000 in
set_option maxRecDepth 100000 in
theorem bournelaw2_LowRanks.calls (k : Nat) (A0 : Option Addr) (c0 : Nat) (l0 : List Int) (a1 : Int) (r : Bool) (w : World) (hr0 : Kd.C (Kd.int .i64) w A0 l0.length l0) (hc0 : l0.length ≤ c0) (h : bournelaw2_LowRanks.f k l0 a1 = some r) :
    Calls Try.prog 5 #[.slice A0 l0.length c0, .int .i64 a1] w fun e w' => e = .returned (.bool r) ∧ Below w.heap.size w w' := by
  have hu24 := Try.underlying24
  have hu31 := Try.underlying31
  have HR0 := Aside0.mk hr0
  have HC0 := Aside0.mk hc0
  clear hr0 hc0
  have HB := Aside0.mk (Below.refl w.heap.size w)
  have H : ((bournelaw2_awake.f).bind fun t675 => (if t675 = true then (bournelaw2_LowRanks.l0 k l0 a1 (([(-100), 0, 50, 200] : List Int)) ([] : List (S26)) (-1099511627776) 0) else (some false))) = some r := h
  clear h
  replace H := Option.bind_eq_some_iff.mp H
  obtain ⟨t675, A30, H⟩ := H
  replace H : (if t675 = true then (bournelaw2_LowRanks.l0 k l0 a1 (([(-100), 0, 50, 200] : List Int)) ([] : List (S26)) (-1099511627776) 0) else (some false)) = some r := H
  have A3 := Aside0.mk A30
  clear A30
  by_cases c4 : t675 = true
  · subst c4
    have H1 : (bournelaw2_LowRanks.l0 k l0 a1 (([(-100), 0, 50, 200] : List Int)) ([] : List (S26)) (-1099511627776) 0) = some r := by rw [if_pos rfl] at H; exact H
    clear H
    have H := H1
    clear H1
    obtain ⟨y676, hy676⟩ : ∃ y_ : List Int, y_ = (([(-100), 0, 50, 200] : List Int)) := ⟨_, rfl⟩
    replace H : (bournelaw2_LowRanks.l0 k l0 a1 y676 ([] : List (S26)) (-1099511627776) 0) = some r := by first | (rw [hy676]; with_reducible exact H) | (have H2_ := (Option.bind_some _ _).symm.trans H; rw [hy676]; with_reducible exact H2_) | (have H2_ := (Option.bind_some _ _).symm.trans H; with_reducible exact H2_) | with_reducible exact H | (rw [hy676]; exact H) | exact H
    have Ny676 := Aside0.mk hy676
    clear hy676
    have HC5 := Aside0.mk H
    clear H
    go_enter Try.func5, Try.ntmps5
    go_upto_block 0 with (first | (go_at_call 23; (with_reducible refine (bournelaw2_awake.calls  true _ A3.out).mono ?_); rintro e w6 ⟨rfl, hb⟩; have n0_ := Aside0.mk (below_step (by repeat (first | (with_reducible first | exact HB.out | apply below_alloc | apply pw_below_drewN | apply below_drew1) | exact HB.out)) hb); clear HB; have HB := n0_; clear n0_; (try clear hb); (try clear hb2); (try clear hk); (try clear hi)) | ((with_reducible refine gate_dst (N := 20) rfl ?_); (try (refine gate_guard (by rfl) ?_; dsimp only)); refine Kd.R_lit (Kd.int .i64) _ 3 ?hg (N := 20) ?hd (xs := ([(-100), 0, 50, 200] : List Int)) (inner := [.int .i64 (-100), .int .i64 0, .int .i64 50, .int .i64 200]) (ok := fun _ => True) (okp := fun _ => True) ?hr ?hp (fun _ hk => hk) trivial (Below.refl _ _) (Nat.le_refl _) (by simp) ?_; (case hd => rfl); (case hg => rfl); (case hr => first | (go_simp; done) | (go_simp; rfl)); (case hp => exact (Reps.one (show Kd.M (Kd.int .i64) _ _ _ (-100) [.int .i64 (-100)] from rfl) (Reps.one (show Kd.M (Kd.int .i64) _ _ _ 0 [.int .i64 0] from rfl) (Reps.one (show Kd.M (Kd.int .i64) _ _ _ 50 [.int .i64 50] from rfl) (Reps.one (show Kd.M (Kd.int .i64) _ _ _ 200 [.int .i64 200] from rfl) (Reps.none _ _)))))); intro v677 w7 ho8 hb hg_ hnew_; clear hg_ hnew_; (first | rw [← Ny676.out] at ho8 | (simp only [Int.reduceToNat] at ho8; rw [← Ny676.out] at ho8)); have n0_ := Aside0.mk (Kd.R_lower ho8 (below_size (by repeat (first | (with_reducible first | exact HB.out | apply below_alloc | apply pw_below_drewN | apply below_drew1) | exact HB.out)))); have n1_ := Aside0.mk (below_step (by repeat (first | (with_reducible first | exact HB.out | apply below_alloc | apply pw_below_drewN | apply below_drew1) | exact HB.out)) hb); clear HB; have HO678 := n0_; have HB := n1_; clear n0_ n1_; clear hb ho8))
    repeat (go_quiet (first | (go_at_call 23; (with_reducible refine (bournelaw2_awake.calls  true _ A3.out).mono ?_); rintro e w6 ⟨rfl, hb⟩; have n0_ := Aside0.mk (below_step (by repeat (first | (with_reducible first | exact HB.out | apply below_alloc | apply pw_below_drewN | apply below_drew1) | exact HB.out)) hb); clear HB; have HB := n0_; clear n0_; (try clear hb); (try clear hb2); (try clear hk); (try clear hi)) | ((with_reducible refine gate_dst (N := 20) rfl ?_); (try (refine gate_guard (by rfl) ?_; dsimp only)); refine Kd.R_lit (Kd.int .i64) _ 3 ?hg (N := 20) ?hd (xs := ([(-100), 0, 50, 200] : List Int)) (inner := [.int .i64 (-100), .int .i64 0, .int .i64 50, .int .i64 200]) (ok := fun _ => True) (okp := fun _ => True) ?hr ?hp (fun _ hk => hk) trivial (Below.refl _ _) (Nat.le_refl _) (by simp) ?_; (case hd => rfl); (case hg => rfl); (case hr => first | (go_simp; done) | (go_simp; rfl)); (case hp => exact (Reps.one (show Kd.M (Kd.int .i64) _ _ _ (-100) [.int .i64 (-100)] from rfl) (Reps.one (show Kd.M (Kd.int .i64) _ _ _ 0 [.int .i64 0] from rfl) (Reps.one (show Kd.M (Kd.int .i64) _ _ _ 50 [.int .i64 50] from rfl) (Reps.one (show Kd.M (Kd.int .i64) _ _ _ 200 [.int .i64 200] from rfl) (Reps.none _ _)))))); intro v677 w7 ho8 hb hg_ hnew_; clear hg_ hnew_; (first | rw [← Ny676.out] at ho8 | (simp only [Int.reduceToNat] at ho8; rw [← Ny676.out] at ho8)); have n0_ := Aside0.mk (Kd.R_lower ho8 (below_size (by repeat (first | (with_reducible first | exact HB.out | apply below_alloc | apply pw_below_drewN | apply below_drew1) | exact HB.out)))); have n1_ := Aside0.mk (below_step (by repeat (first | (with_reducible first | exact HB.out | apply below_alloc | apply pw_below_drewN | apply below_drew1) | exact HB.out)) hb); clear HB; have HO678 := n0_; have HB := n1_; clear n0_ n1_; clear hb ho8)); go_upto_block 0 with (first | (go_at_call 23; (with_reducible refine (bournelaw2_awake.calls  true _ A3.out).mono ?_); rintro e w6 ⟨rfl, hb⟩; have n0_ := Aside0.mk (below_step (by repeat (first | (with_reducible first | exact HB.out | apply below_alloc | apply pw_below_drewN | apply below_drew1) | exact HB.out)) hb); clear HB; have HB := n0_; clear n0_; (try clear hb); (try clear hb2); (try clear hk); (try clear hi)) | ((with_reducible refine gate_dst (N := 20) rfl ?_); (try (refine gate_guard (by rfl) ?_; dsimp only)); refine Kd.R_lit (Kd.int .i64) _ 3 ?hg (N := 20) ?hd (xs := ([(-100), 0, 50, 200] : List Int)) (inner := [.int .i64 (-100), .int .i64 0, .int .i64 50, .int .i64 200]) (ok := fun _ => True) (okp := fun _ => True) ?hr ?hp (fun _ hk => hk) trivial (Below.refl _ _) (Nat.le_refl _) (by simp) ?_; (case hd => rfl); (case hg => rfl); (case hr => first | (go_simp; done) | (go_simp; rfl)); (case hp => exact (Reps.one (show Kd.M (Kd.int .i64) _ _ _ (-100) [.int .i64 (-100)] from rfl) (Reps.one (show Kd.M (Kd.int .i64) _ _ _ 0 [.int .i64 0] from rfl) (Reps.one (show Kd.M (Kd.int .i64) _ _ _ 50 [.int .i64 50] from rfl) (Reps.one (show Kd.M (Kd.int .i64) _ _ _ 200 [.int .i64 200] from rfl) (Reps.none _ _)))))); intro v677 w7 ho8 hb hg_ hnew_; clear hg_ hnew_; (first | rw [← Ny676.out] at ho8 | (simp only [Int.reduceToNat] at ho8; rw [← Ny676.out] at ho8)); have n0_ := Aside0.mk (Kd.R_lower ho8 (below_size (by repeat (first | (with_reducible first | exact HB.out | apply below_alloc | apply pw_below_drewN | apply below_drew1) | exact HB.out)))); have n1_ := Aside0.mk (below_step (by repeat (first | (with_reducible first | exact HB.out | apply below_alloc | apply pw_below_drewN | apply below_drew1) | exact HB.out)) hb); clear HB; have HO678 := n0_; have HB := n1_; clear n0_ n1_; clear hb ho8)))
    (try simp only [Act.put, List.setIfInBounds_toArray, List.set_cons_zero, List.set_cons_succ])
    go_cut [6] (fun v6 wc => ∃ (kq : Nat) (x6_4 : List (S26)), Aside0 (bournelaw2_LowRanks.j1 kq a1 y676 x6_4 = some r) ∧ Aside0 (kq ≤ k) ∧ Aside0 (Kd.R (Kd.int .i64) 3 wc w.heap.size (fun _ => True) v677 y676) ∧ Aside0 (Kd.R k26 26 wc w.heap.size (fun _ => True) v6 x6_4) ∧ Aside0 (Below w.heap.size w wc))
    case first =>
      have H := HC5.out
      clear HC5
      have H' := Aside0.mk H
      clear H
      go_wp2
      repeat (go_quiet (fail); try go_wp2)
      go_loopg [6, 7, 8] k (fun kq v6 v7 v8 w' => ∃ (x6_1 : List (S26)) (x7_1 : Int) (x8_1 : Int), v7 = .int .i64 x7_1 ∧ v8 = .int .i64 x8_1 ∧ Aside0 (bournelaw2_LowRanks.l0 kq l0 a1 y676 x6_1 x7_1 x8_1 = some r) ∧ Aside0 (kq ≤ k) ∧ Aside0 (Kd.R (Kd.int .i64) 3 w' w.heap.size (fun _ => True) v677 y676) ∧ Aside0 (Kd.R k26 26 w' w.heap.size (fun _ => True) v6 x6_1) ∧ Aside0 (Below w.heap.size w w'))
      case atStart => exact ⟨(([] : List (S26))), ((-1099511627776)), (0), (by first | rfl | (simp; done) | (simp [*]; done)), (by first | rfl | (simp; done) | (simp [*]; done)), H', ⟨Nat.le_refl _⟩, ⟨by (with_reducible repeat (first | apply Kd.R_alloc | apply Kd.R_drewN | apply Kd.R_drew)); exact HO678.out⟩, ⟨by first | exact Kd.R_nil _ _ _ _ _ | exact Kd.N_nil _ _ _ _ _ | exact Kd.V_nil _ _ _ _ _ | exact Kd.Q_nil _ _ _ _ _ | exact Kd.S_nil _ _ _ _ _⟩, ⟨by repeat (first | (with_reducible first | exact HB.out | apply below_alloc | apply pw_below_drewN | apply below_drew1) | exact HB.out)⟩⟩
      case round =>
        clear H'
        try clear p2
        try clear c4
        try clear c5
        obtain ⟨x6_1, x7_1, x8_1, rfl, rfl, HA, HK1, HO_5, HO_6, HB⟩ := hrel
        cases gk with
        | zero => exact absurd HA.out (by simp [bournelaw2_LowRanks.l0])
        | succ k1 =>
          have H := HA.out
          clear HA
          simp only [bournelaw2_LowRanks.l0] at H
          by_cases c9 : x8_1 < (l0.length : Int)
          · rw [if_pos c9] at H
            have c9b0 : decide (x8_1 < (l0.length : Int)) = true := decide_eq_true c9
            clear c9
            (first | rw [c9b0] | (simp only [i64_w, i32_w]; rw [c9b0]) | skip)
            by_cases c10 : x8_1 < 30
            · rw [if_pos c10] at H
              have c10b0 : decide (x8_1 < 30) = true := decide_eq_true c10
              clear c10
              by_cases c11 : 0 ≤ x8_1
              · rw [if_pos c11] at H
                have c11b0 : decide (0 ≤ x8_1) = true := decide_eq_true c11
                clear c11
                replace H := Option.bind_eq_some_iff.mp H
                obtain ⟨⟨t680, t681, t682, t683⟩, A120, H⟩ := H
                replace H : (if x6_1.length < 4398046511104 then (bournelaw2_LowRanks.l0 k1 l0 a1 y676 (x6_1 ++ [(⟨t680, t681, t682, t683⟩ : S26)]) (mx x7_1 (wrap64 ((Go.bits .and .i64 (rd l0 x8_1) 1023) - 500))) (wrap64 (x8_1 + 1))) else (none)) = some r := H
                have A12 := Aside0.mk A120
                clear A120
                by_cases c13 : x6_1.length < 4398046511104
                · rw [if_pos c13] at H
                  have LMc13 := Aside0.mk c13
                  clear c13
                  obtain ⟨y684, hy684⟩ : ∃ y_ : List (S26), y_ = (x6_1 ++ [(⟨t680, t681, t682, t683⟩ : S26)]) := ⟨_, rfl⟩
                  replace H : (bournelaw2_LowRanks.l0 k1 l0 a1 y676 y684 (mx x7_1 (wrap64 ((Go.bits .and .i64 (rd l0 x8_1) 1023) - 500))) (wrap64 (x8_1 + 1))) = some r := by first | (rw [hy684]; with_reducible exact H) | (have H2_ := (Option.bind_some _ _).symm.trans H; rw [hy684]; with_reducible exact H2_) | (have H2_ := (Option.bind_some _ _).symm.trans H; with_reducible exact H2_) | with_reducible exact H | (rw [hy684]; exact H) | exact H
                  have Ny684 := Aside0.mk hy684
                  clear hy684
                  obtain ⟨ji14, hji14⟩ : ∃ j_ : Int, (mx x7_1 (wrap64 ((Go.bits .and .i64 (rd l0 x8_1) 1023) - 500))) = j_ := ⟨_, rfl⟩
                  replace H : (bournelaw2_LowRanks.l0 k1 l0 a1 y676 y684 ji14 (wrap64 (x8_1 + 1))) = some r := by first | (rw [hji14] at H; exact H) | (simp only [hji14] at H ⊢; exact H)
                  (try rw [hji14] at A12)
                  have hji14_ : (if x7_1 < (wrap64 ((Go.bits .and .i64 (rd l0 x8_1) 1023) - 500)) then (wrap64 ((Go.bits .and .i64 (rd l0 x8_1) 1023) - 500)) else x7_1) = ji14 := hji14
                  have H' := Aside0.mk H
                  clear H
                  have p679 : 0 ≤ (x8_1 : Int) := of_decide_eq_true (by first | (with_reducible assumption) | assumption)
                  have q679 : x8_1 < (l0.length : Int) := of_decide_eq_true (by first | (with_reducible assumption) | assumption)
                  obtain ⟨ad679, e679, hx679_0⟩ := Kd.at_int HR0.out x8_1 p679 q679
                  cases e679
                  replace hx679_0 := (HB.out.cell (World.block_lt_of_cell? w _ hx679_0)).trans hx679_0
                  replace p679 := eq_true p679
                  replace q679 := eq_true q679
                  go_wp2_with (first | (go_at_call 24; (with_reducible refine (bournelaw2_item.calls 0 x8_1 (wrap64 (x8_1 + 1)) (wrap64 ((Go.bits .and .i64 (rd l0 x8_1) 1023) - 500)) t680 t681 t682 t683 _ A12.out).mono ?_); rintro e w15 ⟨rfl, hb⟩; have n0_ := Aside0.mk (Kd.R_below (by (with_reducible repeat (first | apply Kd.R_alloc | apply Kd.R_drewN | apply Kd.R_drew)); exact HO_5.out) hb); have n1_ := Aside0.mk (Kd.R_below (by (with_reducible repeat (first | apply Kd.R_alloc | apply Kd.R_drewN | apply Kd.R_drew)); exact HO_6.out) hb); have n2_ := Aside0.mk (below_step (by repeat (first | (with_reducible first | exact HB.out | apply below_alloc | apply pw_below_drewN | apply below_drew1) | exact HB.out)) hb); clear HO_5; clear HO_6; clear HB; have HO_5 := n0_; have HO_6 := n1_; have HB := n2_; clear n0_ n1_ n2_; (try clear hb); (try clear hb2); (try clear hk); (try clear hi)) | ((with_reducible refine gate_builtin (b := .append) (xs := #[.tmp 37, .tmp 43]) rfl ?_); (try (refine gate_guard (by rfl) ?_; dsimp only)); at_builtin; refine Kd.R_append k26 (w0 := w) w.heap.size rfl (.tmp 37) (.tmp 43) 43 26 (.agg #[(.int .i64 0), (.int .i64 0), (.int .i64 0), (.int .i64 0)]) 32 rfl Try.underlying43 info26 rfl (by decide) (by omega) u6 x6_1 (⟨t680, t681, t682, t683⟩ : S26) [.int .i64 t680, .int .i64 t681, .int .i64 t682, .int .i64 t683] (fun _ => True) (fun _ => False) rfl rfl ?aP (fun _ hk => hk.elim) ?aF ?aO ?aB ?aS ?aL ?_; (case aP => exact k26_mkM _ _ _ (⟨t680, t681, t682, t683⟩ : S26)); (case aB => exact (by repeat (first | (with_reducible first | exact HB.out | apply below_alloc | apply pw_below_drewN | apply below_drew1) | exact HB.out))); (case aF => exact (fun _ _ => trivial)); (case aO => exact (by (with_reducible repeat (first | apply Kd.R_alloc | apply Kd.R_drewN | apply Kd.R_drew)); exact HO_6.out)); (case aS => exact (below_size (by repeat (first | (with_reducible first | exact HB.out | apply below_alloc | apply pw_below_drewN | apply below_drew1) | exact HB.out)))); (case aL => have := LMc13.out; omega); intro v685 w16 ho hb hg hat; rw [← Ny684.out] at ho; have n0_ := Aside0.mk (Kd.R_over' (by (with_reducible repeat (first | apply Kd.R_alloc | apply Kd.R_drewN | apply Kd.R_drew)); exact HO_5.out) (Kd.R_typed (by (with_reducible repeat (first | apply Kd.R_alloc | apply Kd.R_drewN | apply Kd.R_drew)); exact HO_6.out)) (by decide) hg); have n1_ := Aside0.mk (hb); have n2_ := Aside0.mk (ho); clear HO_5; clear HB; clear HO_6; have HO_5 := n0_; have HB := n1_; have HO686 := n2_; clear n0_ n1_ n2_; clear ho hb hg hat))
                  repeat (go_quiet (first | (go_at_call 24; (with_reducible refine (bournelaw2_item.calls 0 x8_1 (wrap64 (x8_1 + 1)) (wrap64 ((Go.bits .and .i64 (rd l0 x8_1) 1023) - 500)) t680 t681 t682 t683 _ A12.out).mono ?_); rintro e w15 ⟨rfl, hb⟩; have n0_ := Aside0.mk (Kd.R_below (by (with_reducible repeat (first | apply Kd.R_alloc | apply Kd.R_drewN | apply Kd.R_drew)); exact HO_5.out) hb); have n1_ := Aside0.mk (Kd.R_below (by (with_reducible repeat (first | apply Kd.R_alloc | apply Kd.R_drewN | apply Kd.R_drew)); exact HO_6.out) hb); have n2_ := Aside0.mk (below_step (by repeat (first | (with_reducible first | exact HB.out | apply below_alloc | apply pw_below_drewN | apply below_drew1) | exact HB.out)) hb); clear HO_5; clear HO_6; clear HB; have HO_5 := n0_; have HO_6 := n1_; have HB := n2_; clear n0_ n1_ n2_; (try clear hb); (try clear hb2); (try clear hk); (try clear hi)) | ((with_reducible refine gate_builtin (b := .append) (xs := #[.tmp 37, .tmp 43]) rfl ?_); (try (refine gate_guard (by rfl) ?_; dsimp only)); at_builtin; refine Kd.R_append k26 (w0 := w) w.heap.size rfl (.tmp 37) (.tmp 43) 43 26 (.agg #[(.int .i64 0), (.int .i64 0), (.int .i64 0), (.int .i64 0)]) 32 rfl Try.underlying43 info26 rfl (by decide) (by omega) u6 x6_1 (⟨t680, t681, t682, t683⟩ : S26) [.int .i64 t680, .int .i64 t681, .int .i64 t682, .int .i64 t683] (fun _ => True) (fun _ => False) rfl rfl ?aP (fun _ hk => hk.elim) ?aF ?aO ?aB ?aS ?aL ?_; (case aP => exact k26_mkM _ _ _ (⟨t680, t681, t682, t683⟩ : S26)); (case aB => exact (by repeat (first | (with_reducible first | exact HB.out | apply below_alloc | apply pw_below_drewN | apply below_drew1) | exact HB.out))); (case aF => exact (fun _ _ => trivial)); (case aO => exact (by (with_reducible repeat (first | apply Kd.R_alloc | apply Kd.R_drewN | apply Kd.R_drew)); exact HO_6.out)); (case aS => exact (below_size (by repeat (first | (with_reducible first | exact HB.out | apply below_alloc | apply pw_below_drewN | apply below_drew1) | exact HB.out)))); (case aL => have := LMc13.out; omega); intro v685 w16 ho hb hg hat; rw [← Ny684.out] at ho; have n0_ := Aside0.mk (Kd.R_over' (by (with_reducible repeat (first | apply Kd.R_alloc | apply Kd.R_drewN | apply Kd.R_drew)); exact HO_5.out) (Kd.R_typed (by (with_reducible repeat (first | apply Kd.R_alloc | apply Kd.R_drewN | apply Kd.R_drew)); exact HO_6.out)) (by decide) hg); have n1_ := Aside0.mk (hb); have n2_ := Aside0.mk (ho); clear HO_5; clear HB; clear HO_6; have HO_5 := n0_; have HB := n1_; have HO686 := n2_; clear n0_ n1_ n2_; clear ho hb hg hat)); try go_wp2_with (first | (go_at_call 24; (with_reducible refine (bournelaw2_item.calls 0 x8_1 (wrap64 (x8_1 + 1)) (wrap64 ((Go.bits .and .i64 (rd l0 x8_1) 1023) - 500)) t680 t681 t682 t683 _ A12.out).mono ?_); rintro e w15 ⟨rfl, hb⟩; have n0_ := Aside0.mk (Kd.R_below (by (with_reducible repeat (first | apply Kd.R_alloc | apply Kd.R_drewN | apply Kd.R_drew)); exact HO_5.out) hb); have n1_ := Aside0.mk (Kd.R_below (by (with_reducible repeat (first | apply Kd.R_alloc | apply Kd.R_drewN | apply Kd.R_drew)); exact HO_6.out) hb); have n2_ := Aside0.mk (below_step (by repeat (first | (with_reducible first | exact HB.out | apply below_alloc | apply pw_below_drewN | apply below_drew1) | exact HB.out)) hb); clear HO_5; clear HO_6; clear HB; have HO_5 := n0_; have HO_6 := n1_; have HB := n2_; clear n0_ n1_ n2_; (try clear hb); (try clear hb2); (try clear hk); (try clear hi)) | ((with_reducible refine gate_builtin (b := .append) (xs := #[.tmp 37, .tmp 43]) rfl ?_); (try (refine gate_guard (by rfl) ?_; dsimp only)); at_builtin; refine Kd.R_append k26 (w0 := w) w.heap.size rfl (.tmp 37) (.tmp 43) 43 26 (.agg #[(.int .i64 0), (.int .i64 0), (.int .i64 0), (.int .i64 0)]) 32 rfl Try.underlying43 info26 rfl (by decide) (by omega) u6 x6_1 (⟨t680, t681, t682, t683⟩ : S26) [.int .i64 t680, .int .i64 t681, .int .i64 t682, .int .i64 t683] (fun _ => True) (fun _ => False) rfl rfl ?aP (fun _ hk => hk.elim) ?aF ?aO ?aB ?aS ?aL ?_; (case aP => exact k26_mkM _ _ _ (⟨t680, t681, t682, t683⟩ : S26)); (case aB => exact (by repeat (first | (with_reducible first | exact HB.out | apply below_alloc | apply pw_below_drewN | apply below_drew1) | exact HB.out))); (case aF => exact (fun _ _ => trivial)); (case aO => exact (by (with_reducible repeat (first | apply Kd.R_alloc | apply Kd.R_drewN | apply Kd.R_drew)); exact HO_6.out)); (case aS => exact (below_size (by repeat (first | (with_reducible first | exact HB.out | apply below_alloc | apply pw_below_drewN | apply below_drew1) | exact HB.out)))); (case aL => have := LMc13.out; omega); intro v685 w16 ho hb hg hat; rw [← Ny684.out] at ho; have n0_ := Aside0.mk (Kd.R_over' (by (with_reducible repeat (first | apply Kd.R_alloc | apply Kd.R_drewN | apply Kd.R_drew)); exact HO_5.out) (Kd.R_typed (by (with_reducible repeat (first | apply Kd.R_alloc | apply Kd.R_drewN | apply Kd.R_drew)); exact HO_6.out)) (by decide) hg); have n1_ := Aside0.mk (hb); have n2_ := Aside0.mk (ho); clear HO_5; clear HB; clear HO_6; have HO_5 := n0_; have HB := n1_; have HO686 := n2_; clear n0_ n1_ n2_; clear ho hb hg hat)))
                  go_roundg k1
                  case measure => have := HK1.out; omega
                  case rel => exact ⟨(y684), (ji14), (wrap64 (x8_1 + 1)), (by first | rfl | (simp; done) | (simp only [← hji14] <;> (first | rfl | simp)) | (simp [*]; done)), (by first | rfl | (simp; done) | (simp [*]; done)), H', ⟨by have := HK1.out; omega⟩, ⟨by (with_reducible repeat (first | apply Kd.R_alloc | apply Kd.R_drewN | apply Kd.R_drew)); exact HO_5.out⟩, ⟨by (with_reducible repeat (first | apply Kd.R_alloc | apply Kd.R_drewN | apply Kd.R_drew)); exact HO686.out⟩, ⟨by repeat (first | (with_reducible first | exact HB.out | apply below_alloc | apply pw_below_drewN | apply below_drew1) | exact HB.out)⟩⟩
                · rw [if_neg c13] at H
                  exact absurd H (by simp)
              · rw [if_neg c11] at H
                exact absurd H (by simp)
            · rw [if_neg c10] at H
              have c10b0 : decide (x8_1 < 30) = false := decide_eq_false c10
              clear c10
              have H' := Aside0.mk H
              clear H
              go_wp2
              repeat (go_quiet (fail); try go_wp2)
              go_meet
              case rel => exact ⟨_, (x6_1), H', ⟨by have := HK1.out; first | omega | exact Nat.le_refl _⟩, ⟨by (with_reducible repeat (first | apply Kd.R_alloc | apply Kd.R_drewN | apply Kd.R_drew)); exact HO_5.out⟩, ⟨by (with_reducible repeat (first | apply Kd.R_alloc | apply Kd.R_drewN | apply Kd.R_drew)); exact HO_6.out⟩, ⟨by repeat (first | (with_reducible first | exact HB.out | apply below_alloc | apply pw_below_drewN | apply below_drew1) | exact HB.out)⟩⟩
          · rw [if_neg c9] at H
            have c9b0 : decide (x8_1 < (l0.length : Int)) = false := decide_eq_false c9
            clear c9
            (first | rw [c9b0] | (simp only [i64_w, i32_w]; rw [c9b0]) | skip)
            have H' := Aside0.mk H
            clear H
            go_wp2
            repeat (go_quiet (fail); try go_wp2)
            go_meet
            case rel => exact ⟨_, (x6_1), H', ⟨by have := HK1.out; first | omega | exact Nat.le_refl _⟩, ⟨by (with_reducible repeat (first | apply Kd.R_alloc | apply Kd.R_drewN | apply Kd.R_drew)); exact HO_5.out⟩, ⟨by (with_reducible repeat (first | apply Kd.R_alloc | apply Kd.R_drewN | apply Kd.R_drew)); exact HO_6.out⟩, ⟨by repeat (first | (with_reducible first | exact HB.out | apply below_alloc | apply pw_below_drewN | apply below_drew1) | exact HB.out)⟩⟩
    case rest =>
      clear HC5
      try clear c1
      try clear p2
      try clear c4
      try clear c5
      try clear p6
      try clear q6
      try clear hx6
      try clear c9
      try clear c9b0
      try clear c10
      try clear c10b0
      try clear c11
      try clear c11b0
      try clear c13
      try clear hx679_0
      try clear p2
      try clear p679
      try clear q679
      obtain ⟨kq, x6_4, HA, HJ4, HO_5, HO_6, HB⟩ := hcut
      cases kq with
      | zero => exact absurd HA.out (by simp [bournelaw2_LowRanks.j1])
      | succ kj4 =>
        have H := HA.out
        clear HA
        simp only [bournelaw2_LowRanks.j1] at H
        by_cases c17 : (x6_4.length : Int) = 0
        · rw [if_pos c17] at H
          have c17b0 : ((x6_4.length : Int) == 0) = true := beq_iff_eq.mpr c17
          have c17b1 : ((x6_4.length : Int) != 0) = false := bne_eq_false_iff_eq.mpr c17
          clear c17
          obtain rfl := Option.some.inj H
          obtain ⟨Ao18, co18, eo18⟩ := Kd.R_slice HO_6.out
          subst eo18
          go_wp2
          repeat (go_quiet (fail); try go_wp2)
          go_ret
          exact ⟨by first | rfl | (simp [errW_none, errW_some] <;> rfl) | (simp [*, errW_none, errW_some] <;> rfl), by repeat (first | (with_reducible first | exact HB.out | apply below_alloc | apply pw_below_drewN | apply below_drew1) | exact HB.out)⟩
        · rw [if_neg c17] at H
          have c17b0 : ((x6_4.length : Int) == 0) = false := beq_eq_false_iff_ne.mpr c17
          have c17b1 : ((x6_4.length : Int) != 0) = true := bne_iff_ne.mpr c17
          have c17b2 : ¬ (x6_4 = []) := fun h_ => c17 (by rw [h_]; rfl)
          replace H := Option.bind_eq_some_iff.mp H
          obtain ⟨⟨t687, t688, t689, t690, t691, t692, t693, t694, t695, t696, t697, t698, t699⟩, A190, H⟩ := H
          replace H : ((low_Value.f 0 7 0 0 y676 (wrap64 (Int.tmod (IntKind.u64.wrap (a1)) 1001)) t687 t688 t689 t690 t691 t692 t693 t694 t695 t696 t697 t698 t699).bind fun bt702 => ((bournelaw0_Num.f bt702.2.2.2).bind fun t709 => (if t709 = 0 then (if bt702.2.1 = true then (bournelaw2_LowRanks.j2 kj4 y676 x6_4 (wrap64 (Int.tmod (IntKind.u64.wrap (a1)) 1001)) true bt702.1 bt702.2.1 bt702.2.2.1) else (bournelaw2_LowRanks.j2 kj4 y676 x6_4 (wrap64 (Int.tmod (IntKind.u64.wrap (a1)) 1001)) ((bt702.2.2.1.length : Int) != 0) bt702.1 bt702.2.1 bt702.2.2.1)) else (bournelaw2_LowRanks.j2 kj4 y676 x6_4 (wrap64 (Int.tmod (IntKind.u64.wrap (a1)) 1001)) true bt702.1 bt702.2.1 bt702.2.2.1)))) = some r := H
          have A19 := Aside0.mk A190
          clear A190
          replace H := Option.bind_eq_some_iff.mp H
          obtain ⟨⟨t702, t703, t704, t707⟩, A200, H⟩ := H
          replace H : ((bournelaw0_Num.f t707).bind fun t709 => (if t709 = 0 then (if t703 = true then (bournelaw2_LowRanks.j2 kj4 y676 x6_4 (wrap64 (Int.tmod (IntKind.u64.wrap (a1)) 1001)) true t702 t703 t704) else (bournelaw2_LowRanks.j2 kj4 y676 x6_4 (wrap64 (Int.tmod (IntKind.u64.wrap (a1)) 1001)) ((t704.length : Int) != 0) t702 t703 t704)) else (bournelaw2_LowRanks.j2 kj4 y676 x6_4 (wrap64 (Int.tmod (IntKind.u64.wrap (a1)) 1001)) true t702 t703 t704))) = some r := H
          have A20 := Aside0.mk A200
          clear A200
          have HC21 := Aside0.mk H
          clear H
          obtain ⟨Ao22, co22, eo22⟩ := Kd.R_slice HO_6.out
          subst eo22
          obtain ⟨Ao23, co23, eo23⟩ := Kd.R_slice HO_5.out
          subst eo23
          go_upto_region 16 with (first | (go_at_call 25; (with_reducible refine (bournelaw2_fold.calls kj4 _ _ x6_4 _ _ y676 t687 t688 t689 t690 t691 t692 t693 t694 t695 t696 t697 t698 t699 _ ?side1 ?side2 ?side3 ?side4 A19.out).mono ?_); (case side1 => repeat (first | exact (Kd.R_reads' HO_6.out).2.2 | (with_reducible refine Kd.C_alloc ?_ _) | (with_reducible refine Kd.C_drewN ?_ _) | (with_reducible refine Kd.C_drew ?_))); (case side2 => exact (Kd.R_reads' HO_6.out).2.1); (case side3 => repeat (first | exact (Kd.R_reads' HO_5.out).2.2 | (with_reducible refine Kd.C_alloc ?_ _) | (with_reducible refine Kd.C_drewN ?_ _) | (with_reducible refine Kd.C_drew ?_))); (case side4 => exact (Kd.R_reads' HO_5.out).2.1); rintro e w24 ⟨v700, rfl, ho0, hb⟩; have n0_ := Aside0.mk (Kd.R_elder' (by (with_reducible repeat (first | apply Kd.R_alloc | apply Kd.R_drewN | apply Kd.R_drew)); exact HO_5.out) (Kd.R_base ho0) hb); have n1_ := Aside0.mk (Kd.R_below (by (with_reducible repeat (first | apply Kd.R_alloc | apply Kd.R_drewN | apply Kd.R_drew)); exact HO_6.out) hb); have n2_ := Aside0.mk (Kd.R_lower (Kd.R_new' ho0 (Kd.R_lt (by (with_reducible repeat (first | apply Kd.R_alloc | apply Kd.R_drewN | apply Kd.R_drew)); exact HO_5.out))) (below_size (by repeat (first | (with_reducible first | exact HB.out | apply below_alloc | apply pw_below_drewN | apply below_drew1) | exact HB.out)))); have n3_ := Aside0.mk (below_step (by repeat (first | (with_reducible first | exact HB.out | apply below_alloc | apply pw_below_drewN | apply below_drew1) | exact HB.out)) hb); clear HO_5; clear HO_6; clear HB; have HO_5 := n0_; have HO_6 := n1_; have HO701 := n2_; have HB := n3_; clear n0_ n1_ n2_ n3_; (try clear hb); (try clear hb2); (try clear hk); (try clear hi); (try clear ho0); obtain ⟨Ao25, co25, eo25⟩ := Kd.R_slice HO701.out; subst eo25) | (go_at_call 17; (with_reducible refine (low_Value.calls 0 7 0 0 _ _ y676 (wrap64 (Int.tmod (IntKind.u64.wrap (a1)) 1001)) t687 t688 t689 t690 t691 t692 t693 t694 t695 t696 t697 t698 _ _ t699 t702 t703 t704 t707 _ ?side1 ?side2 ?side3 ?side4 A20.out).mono ?_); (case side1 => repeat (first | exact (Kd.R_reads' HO_5.out).2.2 | (with_reducible refine Kd.C_alloc ?_ _) | (with_reducible refine Kd.C_drewN ?_ _) | (with_reducible refine Kd.C_drew ?_))); (case side2 => exact (Kd.R_reads' HO_5.out).2.1); (case side3 => repeat (first | exact (Kd.R_reads' HO701.out).2.2 | (with_reducible refine Kd.C_alloc ?_ _) | (with_reducible refine Kd.C_drewN ?_ _) | (with_reducible refine Kd.C_drew ?_))); (case side4 => exact (Kd.R_reads' HO701.out).2.1); rintro e w26 ⟨v705, rfl, ho0, hb⟩; have n0_ := Aside0.mk (Kd.R_elder' (by (with_reducible repeat (first | apply Kd.R_alloc | apply Kd.R_drewN | apply Kd.R_drew)); exact HO_5.out) (Kd.R_base ho0) hb); have n1_ := Aside0.mk (Kd.R_below (by (with_reducible repeat (first | apply Kd.R_alloc | apply Kd.R_drewN | apply Kd.R_drew)); exact HO_6.out) hb); have n2_ := Aside0.mk (Kd.R_elder' (by (with_reducible repeat (first | apply Kd.R_alloc | apply Kd.R_drewN | apply Kd.R_drew)); exact HO701.out) (Kd.R_base ho0) hb); have n3_ := Aside0.mk (Kd.R_lower (Kd.R_new' (Kd.R_new' ho0 (Kd.R_lt (by (with_reducible repeat (first | apply Kd.R_alloc | apply Kd.R_drewN | apply Kd.R_drew)); exact HO_5.out))) (Kd.R_lt (by (with_reducible repeat (first | apply Kd.R_alloc | apply Kd.R_drewN | apply Kd.R_drew)); exact HO701.out))) (below_size (by repeat (first | (with_reducible first | exact HB.out | apply below_alloc | apply pw_below_drewN | apply below_drew1) | exact HB.out)))); have n4_ := Aside0.mk (below_step (by repeat (first | (with_reducible first | exact HB.out | apply below_alloc | apply pw_below_drewN | apply below_drew1) | exact HB.out)) hb); clear HO_5; clear HO_6; clear HO701; clear HB; have HO_5 := n0_; have HO_6 := n1_; have HO701 := n2_; have HO706 := n3_; have HB := n4_; clear n0_ n1_ n2_ n3_ n4_; (try clear hb); (try clear hb2); (try clear hk); (try clear hi); (try clear ho0)) | ((with_reducible refine gate_dst (N := 11) rfl ?_); (try (refine gate_guard (by rfl) ?_; dsimp only)); refine box_event ?hg (N := 11) ?hd (cs := #[.int .i64 0, .bool false, .slice none 0 0]) (t := 31) ?hr ?_; (case hd => rfl); (case hg => rfl); (case hr => first | (go_simp; done) | (go_simp; rfl)); intro gb708 hg w27 hbox hb; have n0_ := Aside0.mk (Kd.R_below (by (with_reducible repeat (first | apply Kd.R_alloc | apply Kd.R_drewN | apply Kd.R_drew)); exact HO_5.out) hb); have n1_ := Aside0.mk (Kd.R_below (by (with_reducible repeat (first | apply Kd.R_alloc | apply Kd.R_drewN | apply Kd.R_drew)); exact HO_6.out) hb); have n2_ := Aside0.mk (Kd.R_below (by (with_reducible repeat (first | apply Kd.R_alloc | apply Kd.R_drewN | apply Kd.R_drew)); exact HO701.out) hb); have n3_ := Aside0.mk (Kd.R_below (by (with_reducible repeat (first | apply Kd.R_alloc | apply Kd.R_drewN | apply Kd.R_drew)); exact HO706.out) hb); have n4_ := Aside0.mk (below_step (by repeat (first | (with_reducible first | exact HB.out | apply below_alloc | apply pw_below_drewN | apply below_drew1) | exact HB.out)) hb); have n5_ := Aside0.mk (hbox); have n6_ := Aside0.mk ((by rw [hg]; exact (below_size (by repeat (first | (with_reducible first | exact HB.out | apply below_alloc | apply pw_below_drewN | apply below_drew1) | exact HB.out))) : w.heap.size ≤ gb708)); have n7_ := Aside0.mk ((by rw [hg]; exact (below_size (by repeat (first | (with_reducible first | exact HB.out | apply below_alloc | apply pw_below_drewN | apply below_drew1) | exact HB.out))) : w.heap.size ≤ gb708)); clear HO_5; clear HO_6; clear HO701; clear HO706; clear HB; have HO_5 := n0_; have HO_6 := n1_; have HO701 := n2_; have HO706 := n3_; have HB := n4_; have BK708 := n5_; have GW708 := n6_; have GE708 := n7_; clear n0_ n1_ n2_ n3_ n4_ n5_ n6_ n7_; clear hb hbox hg; have hcz28_0 : w27.cell? ⟨gb708, 0, none⟩ = some (.int .i64 0) := (blk_cell BK708.out 0).trans rfl; have hcz28_1 : w27.cell? ⟨gb708, 1, none⟩ = some (.bool false) := (blk_cell BK708.out 1).trans rfl; have hcz28_2 : w27.cell? ⟨gb708, 2, none⟩ = some (.slice none 0 0) := (blk_cell BK708.out 2).trans rfl; have hfz28_0 := blk_frozen BK708.out 0; have hfz28_1 := blk_frozen BK708.out 1; have hfz28_2 := blk_frozen BK708.out 2; obtain ⟨Ao29, co29, eo29⟩ := Kd.R_slice HO706.out; subst eo29))
          repeat (go_quiet (first | (go_at_call 25; (with_reducible refine (bournelaw2_fold.calls kj4 _ _ x6_4 _ _ y676 t687 t688 t689 t690 t691 t692 t693 t694 t695 t696 t697 t698 t699 _ ?side1 ?side2 ?side3 ?side4 A19.out).mono ?_); (case side1 => repeat (first | exact (Kd.R_reads' HO_6.out).2.2 | (with_reducible refine Kd.C_alloc ?_ _) | (with_reducible refine Kd.C_drewN ?_ _) | (with_reducible refine Kd.C_drew ?_))); (case side2 => exact (Kd.R_reads' HO_6.out).2.1); (case side3 => repeat (first | exact (Kd.R_reads' HO_5.out).2.2 | (with_reducible refine Kd.C_alloc ?_ _) | (with_reducible refine Kd.C_drewN ?_ _) | (with_reducible refine Kd.C_drew ?_))); (case side4 => exact (Kd.R_reads' HO_5.out).2.1); rintro e w24 ⟨v700, rfl, ho0, hb⟩; have n0_ := Aside0.mk (Kd.R_elder' (by (with_reducible repeat (first | apply Kd.R_alloc | apply Kd.R_drewN | apply Kd.R_drew)); exact HO_5.out) (Kd.R_base ho0) hb); have n1_ := Aside0.mk (Kd.R_below (by (with_reducible repeat (first | apply Kd.R_alloc | apply Kd.R_drewN | apply Kd.R_drew)); exact HO_6.out) hb); have n2_ := Aside0.mk (Kd.R_lower (Kd.R_new' ho0 (Kd.R_lt (by (with_reducible repeat (first | apply Kd.R_alloc | apply Kd.R_drewN | apply Kd.R_drew)); exact HO_5.out))) (below_size (by repeat (first | (with_reducible first | exact HB.out | apply below_alloc | apply pw_below_drewN | apply below_drew1) | exact HB.out)))); have n3_ := Aside0.mk (below_step (by repeat (first | (with_reducible first | exact HB.out | apply below_alloc | apply pw_below_drewN | apply below_drew1) | exact HB.out)) hb); clear HO_5; clear HO_6; clear HB; have HO_5 := n0_; have HO_6 := n1_; have HO701 := n2_; have HB := n3_; clear n0_ n1_ n2_ n3_; (try clear hb); (try clear hb2); (try clear hk); (try clear hi); (try clear ho0); obtain ⟨Ao25, co25, eo25⟩ := Kd.R_slice HO701.out; subst eo25) | (go_at_call 17; (with_reducible refine (low_Value.calls 0 7 0 0 _ _ y676 (wrap64 (Int.tmod (IntKind.u64.wrap (a1)) 1001)) t687 t688 t689 t690 t691 t692 t693 t694 t695 t696 t697 t698 _ _ t699 t702 t703 t704 t707 _ ?side1 ?side2 ?side3 ?side4 A20.out).mono ?_); (case side1 => repeat (first | exact (Kd.R_reads' HO_5.out).2.2 | (with_reducible refine Kd.C_alloc ?_ _) | (with_reducible refine Kd.C_drewN ?_ _) | (with_reducible refine Kd.C_drew ?_))); (case side2 => exact (Kd.R_reads' HO_5.out).2.1); (case side3 => repeat (first | exact (Kd.R_reads' HO701.out).2.2 | (with_reducible refine Kd.C_alloc ?_ _) | (with_reducible refine Kd.C_drewN ?_ _) | (with_reducible refine Kd.C_drew ?_))); (case side4 => exact (Kd.R_reads' HO701.out).2.1); rintro e w26 ⟨v705, rfl, ho0, hb⟩; have n0_ := Aside0.mk (Kd.R_elder' (by (with_reducible repeat (first | apply Kd.R_alloc | apply Kd.R_drewN | apply Kd.R_drew)); exact HO_5.out) (Kd.R_base ho0) hb); have n1_ := Aside0.mk (Kd.R_below (by (with_reducible repeat (first | apply Kd.R_alloc | apply Kd.R_drewN | apply Kd.R_drew)); exact HO_6.out) hb); have n2_ := Aside0.mk (Kd.R_elder' (by (with_reducible repeat (first | apply Kd.R_alloc | apply Kd.R_drewN | apply Kd.R_drew)); exact HO701.out) (Kd.R_base ho0) hb); have n3_ := Aside0.mk (Kd.R_lower (Kd.R_new' (Kd.R_new' ho0 (Kd.R_lt (by (with_reducible repeat (first | apply Kd.R_alloc | apply Kd.R_drewN | apply Kd.R_drew)); exact HO_5.out))) (Kd.R_lt (by (with_reducible repeat (first | apply Kd.R_alloc | apply Kd.R_drewN | apply Kd.R_drew)); exact HO701.out))) (below_size (by repeat (first | (with_reducible first | exact HB.out | apply below_alloc | apply pw_below_drewN | apply below_drew1) | exact HB.out)))); have n4_ := Aside0.mk (below_step (by repeat (first | (with_reducible first | exact HB.out | apply below_alloc | apply pw_below_drewN | apply below_drew1) | exact HB.out)) hb); clear HO_5; clear HO_6; clear HO701; clear HB; have HO_5 := n0_; have HO_6 := n1_; have HO701 := n2_; have HO706 := n3_; have HB := n4_; clear n0_ n1_ n2_ n3_ n4_; (try clear hb); (try clear hb2); (try clear hk); (try clear hi); (try clear ho0)) | ((with_reducible refine gate_dst (N := 11) rfl ?_); (try (refine gate_guard (by rfl) ?_; dsimp only)); refine box_event ?hg (N := 11) ?hd (cs := #[.int .i64 0, .bool false, .slice none 0 0]) (t := 31) ?hr ?_; (case hd => rfl); (case hg => rfl); (case hr => first | (go_simp; done) | (go_simp; rfl)); intro gb708 hg w27 hbox hb; have n0_ := Aside0.mk (Kd.R_below (by (with_reducible repeat (first | apply Kd.R_alloc | apply Kd.R_drewN | apply Kd.R_drew)); exact HO_5.out) hb); have n1_ := Aside0.mk (Kd.R_below (by (with_reducible repeat (first | apply Kd.R_alloc | apply Kd.R_drewN | apply Kd.R_drew)); exact HO_6.out) hb); have n2_ := Aside0.mk (Kd.R_below (by (with_reducible repeat (first | apply Kd.R_alloc | apply Kd.R_drewN | apply Kd.R_drew)); exact HO701.out) hb); have n3_ := Aside0.mk (Kd.R_below (by (with_reducible repeat (first | apply Kd.R_alloc | apply Kd.R_drewN | apply Kd.R_drew)); exact HO706.out) hb); have n4_ := Aside0.mk (below_step (by repeat (first | (with_reducible first | exact HB.out | apply below_alloc | apply pw_below_drewN | apply below_drew1) | exact HB.out)) hb); have n5_ := Aside0.mk (hbox); have n6_ := Aside0.mk ((by rw [hg]; exact (below_size (by repeat (first | (with_reducible first | exact HB.out | apply below_alloc | apply pw_below_drewN | apply below_drew1) | exact HB.out))) : w.heap.size ≤ gb708)); have n7_ := Aside0.mk ((by rw [hg]; exact (below_size (by repeat (first | (with_reducible first | exact HB.out | apply below_alloc | apply pw_below_drewN | apply below_drew1) | exact HB.out))) : w.heap.size ≤ gb708)); clear HO_5; clear HO_6; clear HO701; clear HO706; clear HB; have HO_5 := n0_; have HO_6 := n1_; have HO701 := n2_; have HO706 := n3_; have HB := n4_; have BK708 := n5_; have GW708 := n6_; have GE708 := n7_; clear n0_ n1_ n2_ n3_ n4_ n5_ n6_ n7_; clear hb hbox hg; have hcz28_0 : w27.cell? ⟨gb708, 0, none⟩ = some (.int .i64 0) := (blk_cell BK708.out 0).trans rfl; have hcz28_1 : w27.cell? ⟨gb708, 1, none⟩ = some (.bool false) := (blk_cell BK708.out 1).trans rfl; have hcz28_2 : w27.cell? ⟨gb708, 2, none⟩ = some (.slice none 0 0) := (blk_cell BK708.out 2).trans rfl; have hfz28_0 := blk_frozen BK708.out 0; have hfz28_1 := blk_frozen BK708.out 1; have hfz28_2 := blk_frozen BK708.out 2; obtain ⟨Ao29, co29, eo29⟩ := Kd.R_slice HO706.out; subst eo29)); go_upto_region 16 with (first | (go_at_call 25; (with_reducible refine (bournelaw2_fold.calls kj4 _ _ x6_4 _ _ y676 t687 t688 t689 t690 t691 t692 t693 t694 t695 t696 t697 t698 t699 _ ?side1 ?side2 ?side3 ?side4 A19.out).mono ?_); (case side1 => repeat (first | exact (Kd.R_reads' HO_6.out).2.2 | (with_reducible refine Kd.C_alloc ?_ _) | (with_reducible refine Kd.C_drewN ?_ _) | (with_reducible refine Kd.C_drew ?_))); (case side2 => exact (Kd.R_reads' HO_6.out).2.1); (case side3 => repeat (first | exact (Kd.R_reads' HO_5.out).2.2 | (with_reducible refine Kd.C_alloc ?_ _) | (with_reducible refine Kd.C_drewN ?_ _) | (with_reducible refine Kd.C_drew ?_))); (case side4 => exact (Kd.R_reads' HO_5.out).2.1); rintro e w24 ⟨v700, rfl, ho0, hb⟩; have n0_ := Aside0.mk (Kd.R_elder' (by (with_reducible repeat (first | apply Kd.R_alloc | apply Kd.R_drewN | apply Kd.R_drew)); exact HO_5.out) (Kd.R_base ho0) hb); have n1_ := Aside0.mk (Kd.R_below (by (with_reducible repeat (first | apply Kd.R_alloc | apply Kd.R_drewN | apply Kd.R_drew)); exact HO_6.out) hb); have n2_ := Aside0.mk (Kd.R_lower (Kd.R_new' ho0 (Kd.R_lt (by (with_reducible repeat (first | apply Kd.R_alloc | apply Kd.R_drewN | apply Kd.R_drew)); exact HO_5.out))) (below_size (by repeat (first | (with_reducible first | exact HB.out | apply below_alloc | apply pw_below_drewN | apply below_drew1) | exact HB.out)))); have n3_ := Aside0.mk (below_step (by repeat (first | (with_reducible first | exact HB.out | apply below_alloc | apply pw_below_drewN | apply below_drew1) | exact HB.out)) hb); clear HO_5; clear HO_6; clear HB; have HO_5 := n0_; have HO_6 := n1_; have HO701 := n2_; have HB := n3_; clear n0_ n1_ n2_ n3_; (try clear hb); (try clear hb2); (try clear hk); (try clear hi); (try clear ho0); obtain ⟨Ao25, co25, eo25⟩ := Kd.R_slice HO701.out; subst eo25) | (go_at_call 17; (with_reducible refine (low_Value.calls 0 7 0 0 _ _ y676 (wrap64 (Int.tmod (IntKind.u64.wrap (a1)) 1001)) t687 t688 t689 t690 t691 t692 t693 t694 t695 t696 t697 t698 _ _ t699 t702 t703 t704 t707 _ ?side1 ?side2 ?side3 ?side4 A20.out).mono ?_); (case side1 => repeat (first | exact (Kd.R_reads' HO_5.out).2.2 | (with_reducible refine Kd.C_alloc ?_ _) | (with_reducible refine Kd.C_drewN ?_ _) | (with_reducible refine Kd.C_drew ?_))); (case side2 => exact (Kd.R_reads' HO_5.out).2.1); (case side3 => repeat (first | exact (Kd.R_reads' HO701.out).2.2 | (with_reducible refine Kd.C_alloc ?_ _) | (with_reducible refine Kd.C_drewN ?_ _) | (with_reducible refine Kd.C_drew ?_))); (case side4 => exact (Kd.R_reads' HO701.out).2.1); rintro e w26 ⟨v705, rfl, ho0, hb⟩; have n0_ := Aside0.mk (Kd.R_elder' (by (with_reducible repeat (first | apply Kd.R_alloc | apply Kd.R_drewN | apply Kd.R_drew)); exact HO_5.out) (Kd.R_base ho0) hb); have n1_ := Aside0.mk (Kd.R_below (by (with_reducible repeat (first | apply Kd.R_alloc | apply Kd.R_drewN | apply Kd.R_drew)); exact HO_6.out) hb); have n2_ := Aside0.mk (Kd.R_elder' (by (with_reducible repeat (first | apply Kd.R_alloc | apply Kd.R_drewN | apply Kd.R_drew)); exact HO701.out) (Kd.R_base ho0) hb); have n3_ := Aside0.mk (Kd.R_lower (Kd.R_new' (Kd.R_new' ho0 (Kd.R_lt (by (with_reducible repeat (first | apply Kd.R_alloc | apply Kd.R_drewN | apply Kd.R_drew)); exact HO_5.out))) (Kd.R_lt (by (with_reducible repeat (first | apply Kd.R_alloc | apply Kd.R_drewN | apply Kd.R_drew)); exact HO701.out))) (below_size (by repeat (first | (with_reducible first | exact HB.out | apply below_alloc | apply pw_below_drewN | apply below_drew1) | exact HB.out)))); have n4_ := Aside0.mk (below_step (by repeat (first | (with_reducible first | exact HB.out | apply below_alloc | apply pw_below_drewN | apply below_drew1) | exact HB.out)) hb); clear HO_5; clear HO_6; clear HO701; clear HB; have HO_5 := n0_; have HO_6 := n1_; have HO701 := n2_; have HO706 := n3_; have HB := n4_; clear n0_ n1_ n2_ n3_ n4_; (try clear hb); (try clear hb2); (try clear hk); (try clear hi); (try clear ho0)) | ((with_reducible refine gate_dst (N := 11) rfl ?_); (try (refine gate_guard (by rfl) ?_; dsimp only)); refine box_event ?hg (N := 11) ?hd (cs := #[.int .i64 0, .bool false, .slice none 0 0]) (t := 31) ?hr ?_; (case hd => rfl); (case hg => rfl); (case hr => first | (go_simp; done) | (go_simp; rfl)); intro gb708 hg w27 hbox hb; have n0_ := Aside0.mk (Kd.R_below (by (with_reducible repeat (first | apply Kd.R_alloc | apply Kd.R_drewN | apply Kd.R_drew)); exact HO_5.out) hb); have n1_ := Aside0.mk (Kd.R_below (by (with_reducible repeat (first | apply Kd.R_alloc | apply Kd.R_drewN | apply Kd.R_drew)); exact HO_6.out) hb); have n2_ := Aside0.mk (Kd.R_below (by (with_reducible repeat (first | apply Kd.R_alloc | apply Kd.R_drewN | apply Kd.R_drew)); exact HO701.out) hb); have n3_ := Aside0.mk (Kd.R_below (by (with_reducible repeat (first | apply Kd.R_alloc | apply Kd.R_drewN | apply Kd.R_drew)); exact HO706.out) hb); have n4_ := Aside0.mk (below_step (by repeat (first | (with_reducible first | exact HB.out | apply below_alloc | apply pw_below_drewN | apply below_drew1) | exact HB.out)) hb); have n5_ := Aside0.mk (hbox); have n6_ := Aside0.mk ((by rw [hg]; exact (below_size (by repeat (first | (with_reducible first | exact HB.out | apply below_alloc | apply pw_below_drewN | apply below_drew1) | exact HB.out))) : w.heap.size ≤ gb708)); have n7_ := Aside0.mk ((by rw [hg]; exact (below_size (by repeat (first | (with_reducible first | exact HB.out | apply below_alloc | apply pw_below_drewN | apply below_drew1) | exact HB.out))) : w.heap.size ≤ gb708)); clear HO_5; clear HO_6; clear HO701; clear HO706; clear HB; have HO_5 := n0_; have HO_6 := n1_; have HO701 := n2_; have HO706 := n3_; have HB := n4_; have BK708 := n5_; have GW708 := n6_; have GE708 := n7_; clear n0_ n1_ n2_ n3_ n4_ n5_ n6_ n7_; clear hb hbox hg; have hcz28_0 : w27.cell? ⟨gb708, 0, none⟩ = some (.int .i64 0) := (blk_cell BK708.out 0).trans rfl; have hcz28_1 : w27.cell? ⟨gb708, 1, none⟩ = some (.bool false) := (blk_cell BK708.out 1).trans rfl; have hcz28_2 : w27.cell? ⟨gb708, 2, none⟩ = some (.slice none 0 0) := (blk_cell BK708.out 2).trans rfl; have hfz28_0 := blk_frozen BK708.out 0; have hfz28_1 := blk_frozen BK708.out 1; have hfz28_2 := blk_frozen BK708.out 2; obtain ⟨Ao29, co29, eo29⟩ := Kd.R_slice HO706.out; subst eo29)))
          (try simp only [Act.put, List.setIfInBounds_toArray, List.set_cons_zero, List.set_cons_succ])
          go_cut [77] (fun v77 wc => ∃ (kq : Nat) (x77_20 : Bool), v77 = .bool x77_20 ∧ Aside0 (bournelaw2_LowRanks.j2 kq y676 x6_4 (wrap64 (Int.tmod (IntKind.u64.wrap (a1)) 1001)) x77_20 t702 t703 t704 = some r) ∧ Aside0 (kq ≤ kj4) ∧ Aside0 (Kd.R (Kd.int .i64) 3 wc w.heap.size (fun k_ => some k_ ≠ ((.slice Ao29 t704.length co29) : Value).ownBlock) (.slice Ao23 y676.length co23) y676) ∧ Aside0 (Kd.R k26 26 wc w.heap.size (fun _ => True) (.slice Ao22 x6_4.length co22) x6_4) ∧ Aside0 (Kd.R (Kd.int .i64) 3 wc w.heap.size (fun k_ => some k_ ≠ ((.slice Ao23 y676.length co23) : Value).ownBlock) (.slice Ao29 t704.length co29) t704) ∧ Aside0 (wc.heap[gb708]? = some (.cells #[.int .i64 t702, .bool t703, (.slice Ao29 t704.length co29)] 31 (0, 0))) ∧ Aside0 (Below w.heap.size w wc))
          case first =>
            have H := HC21.out
            clear HC21
            replace H := Option.bind_eq_some_iff.mp H
            obtain ⟨t709, A300, H⟩ := H
            replace H : (if t709 = 0 then (if t703 = true then (bournelaw2_LowRanks.j2 kj4 y676 x6_4 (wrap64 (Int.tmod (IntKind.u64.wrap (a1)) 1001)) true t702 t703 t704) else (bournelaw2_LowRanks.j2 kj4 y676 x6_4 (wrap64 (Int.tmod (IntKind.u64.wrap (a1)) 1001)) ((t704.length : Int) != 0) t702 t703 t704)) else (bournelaw2_LowRanks.j2 kj4 y676 x6_4 (wrap64 (Int.tmod (IntKind.u64.wrap (a1)) 1001)) true t702 t703 t704)) = some r := H
            have A30 := Aside0.mk A300
            clear A300
            by_cases c31 : t709 = 0
            · rw [if_pos c31] at H
              have c31b0 : (t709 == 0) = true := beq_iff_eq.mpr c31
              have c31b1 : (t709 != 0) = false := bne_eq_false_iff_eq.mpr c31
              clear c31
              (first | rw [c31b0] | (simp only [i64_w, i32_w]; rw [c31b0]) | skip)
              by_cases c32 : t703 = true
              · subst c32
                have H1 : (bournelaw2_LowRanks.j2 kj4 y676 x6_4 (wrap64 (Int.tmod (IntKind.u64.wrap (a1)) 1001)) true t702 true t704) = some r := by rw [if_pos rfl] at H; exact H
                clear H
                have H := H1
                clear H1
                have H' := Aside0.mk H
                clear H
                go_wp2_with (first | (go_at_call 20; (with_reducible refine (bournelaw0_Num.calls t707 t709 _ A30.out).mono ?_); rintro e w' ⟨rfl, ⟨nd, rfl⟩⟩; (try first | exact ⟨rfl, _, World.drewN_drewN _ _ _⟩ | exact ⟨rfl, _, Eq.trans (World.drewN_drewN _ _ _) (congrArg (World.drewN _) (Nat.add_assoc _ _ _))⟩); have hcz33_0 : w27.cell? ⟨gb708, 0, none⟩ = some (.int .i64 0) := (blk_cell BK708.out 0).trans rfl; have hcz33_1 : w27.cell? ⟨gb708, 1, none⟩ = some (.bool false) := (blk_cell BK708.out 1).trans rfl; have hcz33_2 : w27.cell? ⟨gb708, 2, none⟩ = some (.slice none 0 0) := (blk_cell BK708.out 2).trans rfl; have hfz33_0 := blk_frozen BK708.out 0; have hfz33_1 := blk_frozen BK708.out 1; have hfz33_2 := blk_frozen BK708.out 2))
                repeat (go_quiet (first | (go_at_call 20; (with_reducible refine (bournelaw0_Num.calls t707 t709 _ A30.out).mono ?_); rintro e w' ⟨rfl, ⟨nd, rfl⟩⟩; (try first | exact ⟨rfl, _, World.drewN_drewN _ _ _⟩ | exact ⟨rfl, _, Eq.trans (World.drewN_drewN _ _ _) (congrArg (World.drewN _) (Nat.add_assoc _ _ _))⟩); have hcz33_0 : w27.cell? ⟨gb708, 0, none⟩ = some (.int .i64 0) := (blk_cell BK708.out 0).trans rfl; have hcz33_1 : w27.cell? ⟨gb708, 1, none⟩ = some (.bool false) := (blk_cell BK708.out 1).trans rfl; have hcz33_2 : w27.cell? ⟨gb708, 2, none⟩ = some (.slice none 0 0) := (blk_cell BK708.out 2).trans rfl; have hfz33_0 := blk_frozen BK708.out 0; have hfz33_1 := blk_frozen BK708.out 1; have hfz33_2 := blk_frozen BK708.out 2)); try go_wp2_with (first | (go_at_call 20; (with_reducible refine (bournelaw0_Num.calls t707 t709 _ A30.out).mono ?_); rintro e w' ⟨rfl, ⟨nd, rfl⟩⟩; (try first | exact ⟨rfl, _, World.drewN_drewN _ _ _⟩ | exact ⟨rfl, _, Eq.trans (World.drewN_drewN _ _ _) (congrArg (World.drewN _) (Nat.add_assoc _ _ _))⟩); have hcz33_0 : w27.cell? ⟨gb708, 0, none⟩ = some (.int .i64 0) := (blk_cell BK708.out 0).trans rfl; have hcz33_1 : w27.cell? ⟨gb708, 1, none⟩ = some (.bool false) := (blk_cell BK708.out 1).trans rfl; have hcz33_2 : w27.cell? ⟨gb708, 2, none⟩ = some (.slice none 0 0) := (blk_cell BK708.out 2).trans rfl; have hfz33_0 := blk_frozen BK708.out 0; have hfz33_1 := blk_frozen BK708.out 1; have hfz33_2 := blk_frozen BK708.out 2)))
                go_meet
                case rel => exact ⟨_, (true), (by first | rfl | (simp; done) | (simp [*]; done)), H', ⟨by have := HJ4.out; first | omega | exact Nat.le_refl _⟩, ⟨by (with_reducible repeat (first | apply Kd.R_alloc | apply Kd.R_drewN | apply Kd.R_drew)); exact Kd.R_mono (Kd.R_far (p := ⟨gb708, 2, none⟩) (Kd.R_far (p := ⟨gb708, 1, none⟩) (Kd.R_far (p := ⟨gb708, 0, none⟩) (Kd.R_types HO_5.out BK708.out (by decide)) (fun _ hk => hk.2) (.int .i64 t702)) (fun _ hk => hk.2) (.bool true)) (fun _ hk => hk.2) (.slice Ao29 t704.length co29)) (fun _ hk => hk.1.2)⟩, ⟨by (with_reducible repeat (first | apply Kd.R_alloc | apply Kd.R_drewN | apply Kd.R_drew)); exact Kd.R_mono (Kd.R_far (p := ⟨gb708, 2, none⟩) (Kd.R_far (p := ⟨gb708, 1, none⟩) (Kd.R_far (p := ⟨gb708, 0, none⟩) (Kd.R_types HO_6.out BK708.out (by decide)) (fun _ hk => hk.2) (.int .i64 t702)) (fun _ hk => hk.2) (.bool true)) (fun _ hk => hk.2) (.slice Ao29 t704.length co29)) (fun _ hk => trivial)⟩, ⟨by (with_reducible repeat (first | apply Kd.R_alloc | apply Kd.R_drewN | apply Kd.R_drew)); exact Kd.R_mono (Kd.R_far (p := ⟨gb708, 2, none⟩) (Kd.R_far (p := ⟨gb708, 1, none⟩) (Kd.R_far (p := ⟨gb708, 0, none⟩) (Kd.R_types HO706.out BK708.out (by decide)) (fun _ hk => hk.2) (.int .i64 t702)) (fun _ hk => hk.2) (.bool true)) (fun _ hk => hk.2) (.slice Ao29 t704.length co29)) (fun _ hk => hk.1.1.2)⟩, ⟨by (with_reducible repeat (first | refine blk_drewN ?_ _ | refine blk_drew ?_ | refine blk_alloc ?_ _)); refine blk_put (cs := #[.int .i64 t702, .bool true, .slice none 0 0]) ?_ 2 _ rfl; (with_reducible repeat (first | refine blk_drewN ?_ _ | refine blk_drew ?_ | refine blk_alloc ?_ _)); refine blk_put (cs := #[.int .i64 t702, .bool false, .slice none 0 0]) ?_ 1 _ rfl; (with_reducible repeat (first | refine blk_drewN ?_ _ | refine blk_drew ?_ | refine blk_alloc ?_ _)); refine blk_put (cs := #[.int .i64 0, .bool false, .slice none 0 0]) ?_ 0 _ rfl; (with_reducible repeat (first | refine blk_drewN ?_ _ | refine blk_drew ?_ | refine blk_alloc ?_ _)); exact BK708.out⟩, ⟨by repeat (first | (with_reducible first | exact HB.out | apply below_alloc | apply pw_below_drewN | apply below_drew1 | refine below_set ?_ GE708.out) | exact HB.out)⟩⟩
              · replace c32 := Bool.eq_false_iff.mpr c32
                subst c32
                have H1 : (bournelaw2_LowRanks.j2 kj4 y676 x6_4 (wrap64 (Int.tmod (IntKind.u64.wrap (a1)) 1001)) ((t704.length : Int) != 0) t702 false t704) = some r := by rw [if_neg (show ¬ (false = true) by decide)] at H; exact H
                clear H
                have H := H1
                clear H1
                have H' := Aside0.mk H
                clear H
                go_wp2_with (first | (go_at_call 20; (with_reducible refine (bournelaw0_Num.calls t707 t709 _ A30.out).mono ?_); rintro e w' ⟨rfl, ⟨nd, rfl⟩⟩; (try first | exact ⟨rfl, _, World.drewN_drewN _ _ _⟩ | exact ⟨rfl, _, Eq.trans (World.drewN_drewN _ _ _) (congrArg (World.drewN _) (Nat.add_assoc _ _ _))⟩); have hcz34_0 : w27.cell? ⟨gb708, 0, none⟩ = some (.int .i64 0) := (blk_cell BK708.out 0).trans rfl; have hcz34_1 : w27.cell? ⟨gb708, 1, none⟩ = some (.bool false) := (blk_cell BK708.out 1).trans rfl; have hcz34_2 : w27.cell? ⟨gb708, 2, none⟩ = some (.slice none 0 0) := (blk_cell BK708.out 2).trans rfl; have hfz34_0 := blk_frozen BK708.out 0; have hfz34_1 := blk_frozen BK708.out 1; have hfz34_2 := blk_frozen BK708.out 2))
                repeat (go_quiet (first | (go_at_call 20; (with_reducible refine (bournelaw0_Num.calls t707 t709 _ A30.out).mono ?_); rintro e w' ⟨rfl, ⟨nd, rfl⟩⟩; (try first | exact ⟨rfl, _, World.drewN_drewN _ _ _⟩ | exact ⟨rfl, _, Eq.trans (World.drewN_drewN _ _ _) (congrArg (World.drewN _) (Nat.add_assoc _ _ _))⟩); have hcz34_0 : w27.cell? ⟨gb708, 0, none⟩ = some (.int .i64 0) := (blk_cell BK708.out 0).trans rfl; have hcz34_1 : w27.cell? ⟨gb708, 1, none⟩ = some (.bool false) := (blk_cell BK708.out 1).trans rfl; have hcz34_2 : w27.cell? ⟨gb708, 2, none⟩ = some (.slice none 0 0) := (blk_cell BK708.out 2).trans rfl; have hfz34_0 := blk_frozen BK708.out 0; have hfz34_1 := blk_frozen BK708.out 1; have hfz34_2 := blk_frozen BK708.out 2)); try go_wp2_with (first | (go_at_call 20; (with_reducible refine (bournelaw0_Num.calls t707 t709 _ A30.out).mono ?_); rintro e w' ⟨rfl, ⟨nd, rfl⟩⟩; (try first | exact ⟨rfl, _, World.drewN_drewN _ _ _⟩ | exact ⟨rfl, _, Eq.trans (World.drewN_drewN _ _ _) (congrArg (World.drewN _) (Nat.add_assoc _ _ _))⟩); have hcz34_0 : w27.cell? ⟨gb708, 0, none⟩ = some (.int .i64 0) := (blk_cell BK708.out 0).trans rfl; have hcz34_1 : w27.cell? ⟨gb708, 1, none⟩ = some (.bool false) := (blk_cell BK708.out 1).trans rfl; have hcz34_2 : w27.cell? ⟨gb708, 2, none⟩ = some (.slice none 0 0) := (blk_cell BK708.out 2).trans rfl; have hfz34_0 := blk_frozen BK708.out 0; have hfz34_1 := blk_frozen BK708.out 1; have hfz34_2 := blk_frozen BK708.out 2)))
                go_meet
                case rel => exact ⟨_, (((t704.length : Int) != 0)), (by first | rfl | (simp; done) | (simp [*]; done)), H', ⟨by have := HJ4.out; first | omega | exact Nat.le_refl _⟩, ⟨by (with_reducible repeat (first | apply Kd.R_alloc | apply Kd.R_drewN | apply Kd.R_drew)); exact Kd.R_mono (Kd.R_far (p := ⟨gb708, 2, none⟩) (Kd.R_far (p := ⟨gb708, 1, none⟩) (Kd.R_far (p := ⟨gb708, 0, none⟩) (Kd.R_types HO_5.out BK708.out (by decide)) (fun _ hk => hk.2) (.int .i64 t702)) (fun _ hk => hk.2) (.bool false)) (fun _ hk => hk.2) (.slice Ao29 t704.length co29)) (fun _ hk => hk.1.2)⟩, ⟨by (with_reducible repeat (first | apply Kd.R_alloc | apply Kd.R_drewN | apply Kd.R_drew)); exact Kd.R_mono (Kd.R_far (p := ⟨gb708, 2, none⟩) (Kd.R_far (p := ⟨gb708, 1, none⟩) (Kd.R_far (p := ⟨gb708, 0, none⟩) (Kd.R_types HO_6.out BK708.out (by decide)) (fun _ hk => hk.2) (.int .i64 t702)) (fun _ hk => hk.2) (.bool false)) (fun _ hk => hk.2) (.slice Ao29 t704.length co29)) (fun _ hk => trivial)⟩, ⟨by (with_reducible repeat (first | apply Kd.R_alloc | apply Kd.R_drewN | apply Kd.R_drew)); exact Kd.R_mono (Kd.R_far (p := ⟨gb708, 2, none⟩) (Kd.R_far (p := ⟨gb708, 1, none⟩) (Kd.R_far (p := ⟨gb708, 0, none⟩) (Kd.R_types HO706.out BK708.out (by decide)) (fun _ hk => hk.2) (.int .i64 t702)) (fun _ hk => hk.2) (.bool false)) (fun _ hk => hk.2) (.slice Ao29 t704.length co29)) (fun _ hk => hk.1.1.2)⟩, ⟨by (with_reducible repeat (first | refine blk_drewN ?_ _ | refine blk_drew ?_ | refine blk_alloc ?_ _)); refine blk_put (cs := #[.int .i64 t702, .bool false, .slice none 0 0]) ?_ 2 _ rfl; (with_reducible repeat (first | refine blk_drewN ?_ _ | refine blk_drew ?_ | refine blk_alloc ?_ _)); refine blk_put (cs := #[.int .i64 t702, .bool false, .slice none 0 0]) ?_ 1 _ rfl; (with_reducible repeat (first | refine blk_drewN ?_ _ | refine blk_drew ?_ | refine blk_alloc ?_ _)); refine blk_put (cs := #[.int .i64 0, .bool false, .slice none 0 0]) ?_ 0 _ rfl; (with_reducible repeat (first | refine blk_drewN ?_ _ | refine blk_drew ?_ | refine blk_alloc ?_ _)); exact BK708.out⟩, ⟨by repeat (first | (with_reducible first | exact HB.out | apply below_alloc | apply pw_below_drewN | apply below_drew1 | refine below_set ?_ GE708.out) | exact HB.out)⟩⟩
            · rw [if_neg c31] at H
              have c31b0 : (t709 == 0) = false := beq_eq_false_iff_ne.mpr c31
              have c31b1 : (t709 != 0) = true := bne_iff_ne.mpr c31
              (first | rw [c31b0] | (simp only [i64_w, i32_w]; rw [c31b0]) | skip)
              have H' := Aside0.mk H
              clear H
              go_wp2_with (first | (go_at_call 20; (with_reducible refine (bournelaw0_Num.calls t707 t709 _ A30.out).mono ?_); rintro e w' ⟨rfl, ⟨nd, rfl⟩⟩; (try first | exact ⟨rfl, _, World.drewN_drewN _ _ _⟩ | exact ⟨rfl, _, Eq.trans (World.drewN_drewN _ _ _) (congrArg (World.drewN _) (Nat.add_assoc _ _ _))⟩)))
              repeat (go_quiet (first | (go_at_call 20; (with_reducible refine (bournelaw0_Num.calls t707 t709 _ A30.out).mono ?_); rintro e w' ⟨rfl, ⟨nd, rfl⟩⟩; (try first | exact ⟨rfl, _, World.drewN_drewN _ _ _⟩ | exact ⟨rfl, _, Eq.trans (World.drewN_drewN _ _ _) (congrArg (World.drewN _) (Nat.add_assoc _ _ _))⟩))); try go_wp2_with (first | (go_at_call 20; (with_reducible refine (bournelaw0_Num.calls t707 t709 _ A30.out).mono ?_); rintro e w' ⟨rfl, ⟨nd, rfl⟩⟩; (try first | exact ⟨rfl, _, World.drewN_drewN _ _ _⟩ | exact ⟨rfl, _, Eq.trans (World.drewN_drewN _ _ _) (congrArg (World.drewN _) (Nat.add_assoc _ _ _))⟩))))
              go_meet
              case rel => exact ⟨_, (true), (by first | rfl | (simp; done) | (simp [*]; done)), H', ⟨by have := HJ4.out; first | omega | exact Nat.le_refl _⟩, ⟨by (with_reducible repeat (first | apply Kd.R_alloc | apply Kd.R_drewN | apply Kd.R_drew)); exact Kd.R_mono (Kd.R_far (p := ⟨gb708, 2, none⟩) (Kd.R_far (p := ⟨gb708, 1, none⟩) (Kd.R_far (p := ⟨gb708, 0, none⟩) (Kd.R_types HO_5.out BK708.out (by decide)) (fun _ hk => hk.2) (.int .i64 t702)) (fun _ hk => hk.2) (.bool t703)) (fun _ hk => hk.2) (.slice Ao29 t704.length co29)) (fun _ hk => hk.1.2)⟩, ⟨by (with_reducible repeat (first | apply Kd.R_alloc | apply Kd.R_drewN | apply Kd.R_drew)); exact Kd.R_mono (Kd.R_far (p := ⟨gb708, 2, none⟩) (Kd.R_far (p := ⟨gb708, 1, none⟩) (Kd.R_far (p := ⟨gb708, 0, none⟩) (Kd.R_types HO_6.out BK708.out (by decide)) (fun _ hk => hk.2) (.int .i64 t702)) (fun _ hk => hk.2) (.bool t703)) (fun _ hk => hk.2) (.slice Ao29 t704.length co29)) (fun _ hk => trivial)⟩, ⟨by (with_reducible repeat (first | apply Kd.R_alloc | apply Kd.R_drewN | apply Kd.R_drew)); exact Kd.R_mono (Kd.R_far (p := ⟨gb708, 2, none⟩) (Kd.R_far (p := ⟨gb708, 1, none⟩) (Kd.R_far (p := ⟨gb708, 0, none⟩) (Kd.R_types HO706.out BK708.out (by decide)) (fun _ hk => hk.2) (.int .i64 t702)) (fun _ hk => hk.2) (.bool t703)) (fun _ hk => hk.2) (.slice Ao29 t704.length co29)) (fun _ hk => hk.1.1.2)⟩, ⟨by (with_reducible repeat (first | refine blk_drewN ?_ _ | refine blk_drew ?_ | refine blk_alloc ?_ _)); refine blk_put (cs := #[.int .i64 t702, .bool t703, .slice none 0 0]) ?_ 2 _ rfl; (with_reducible repeat (first | refine blk_drewN ?_ _ | refine blk_drew ?_ | refine blk_alloc ?_ _)); refine blk_put (cs := #[.int .i64 t702, .bool false, .slice none 0 0]) ?_ 1 _ rfl; (with_reducible repeat (first | refine blk_drewN ?_ _ | refine blk_drew ?_ | refine blk_alloc ?_ _)); refine blk_put (cs := #[.int .i64 0, .bool false, .slice none 0 0]) ?_ 0 _ rfl; (with_reducible repeat (first | refine blk_drewN ?_ _ | refine blk_drew ?_ | refine blk_alloc ?_ _)); exact BK708.out⟩, ⟨by repeat (first | (with_reducible first | exact HB.out | apply below_alloc | apply pw_below_drewN | apply below_drew1 | refine below_set ?_ GE708.out) | exact HB.out)⟩⟩
          case rest =>
            clear HC21
            try clear c1
            try clear p2
            try clear c3
            try clear c4
            try clear c5
            try clear p6
            try clear q6
            try clear hx6
            try clear c9
            try clear c9b0
            try clear c10
            try clear c10b0
            try clear c11
            try clear c11b0
            try clear c13
            try clear c17
            try clear c17b0
            try clear c17b1
            try clear c17b2
            try clear c31
            try clear c31b0
            try clear c31b1
            try clear c32
            try clear hcz28_0
            try clear hcz28_1
            try clear hcz28_2
            try clear hcz33_0
            try clear hcz33_1
            try clear hcz33_2
            try clear hcz34_0
            try clear hcz34_1
            try clear hcz34_2
            try clear hfz28_0
            try clear hfz28_1
            try clear hfz28_2
            try clear hfz33_0
            try clear hfz33_1
            try clear hfz33_2
            try clear hfz34_0
            try clear hfz34_1
            try clear hfz34_2
            try clear hx679_0
            try clear p2
            try clear p6
            try clear p679
            try clear q6
            try clear q679
            obtain ⟨kq, x77_20, rfl, HA, HJ20, HO_5, HO_6, HO_709002, BK708, HB⟩ := hcut
            cases kq with
            | zero => exact absurd HA.out (by simp [bournelaw2_LowRanks.j2])
            | succ kj20 =>
              have H := HA.out
              clear HA
              simp only [bournelaw2_LowRanks.j2] at H
              by_cases c35 : x77_20 = true
              · subst c35
                have H1 : (some false) = some r := by rw [if_pos rfl] at H; exact H
                clear H
                have H := H1
                clear H1
                obtain rfl := Option.some.inj H
                go_wp2
                repeat (go_quiet (fail); try go_wp2)
                go_ret
                exact ⟨by first | rfl | (simp [errW_none, errW_some] <;> rfl) | (simp [*, errW_none, errW_some] <;> rfl), by repeat (first | (with_reducible first | exact HB.out | apply below_alloc | apply pw_below_drewN | apply below_drew1 | refine below_set ?_ GE708.out) | exact HB.out)⟩
              · replace c35 := Bool.eq_false_iff.mpr c35
                subst c35
                have H1 : (bournelaw2_LowRanks.l1 kj20 y676 x6_4 (wrap64 (Int.tmod (IntKind.u64.wrap (a1)) 1001)) (-1099511627776) 0 t702 t703 t704) = some r := by rw [if_neg (show ¬ (false = true) by decide)] at H; exact H
                clear H
                have H := H1
                clear H1
                have H' := Aside0.mk H
                clear H
                go_wp2
                repeat (go_quiet (fail); try go_wp2)
                go_loopg [13, 14] kj20 (fun kq v13 v14 w' => ∃ (x13_3 : Int) (x14_3 : Int), v13 = .int .i64 x13_3 ∧ v14 = .int .i64 x14_3 ∧ Aside0 (bournelaw2_LowRanks.l1 kq y676 x6_4 (wrap64 (Int.tmod (IntKind.u64.wrap (a1)) 1001)) x13_3 x14_3 t702 t703 t704 = some r) ∧ Aside0 (kq ≤ kj20) ∧ Aside0 (Kd.R (Kd.int .i64) 3 w' w.heap.size (fun k_ => some k_ ≠ ((.slice Ao29 t704.length co29) : Value).ownBlock) (.slice Ao23 y676.length co23) y676) ∧ Aside0 (Kd.R k26 26 w' w.heap.size (fun _ => True) (.slice Ao22 x6_4.length co22) x6_4) ∧ Aside0 (Kd.R (Kd.int .i64) 3 w' w.heap.size (fun k_ => some k_ ≠ ((.slice Ao23 y676.length co23) : Value).ownBlock) (.slice Ao29 t704.length co29) t704) ∧ Aside0 (w'.heap[gb708]? = some (.cells #[.int .i64 t702, .bool t703, (.slice Ao29 t704.length co29)] 31 (0, 0))) ∧ Aside0 (Below w.heap.size w w'))
                case atStart => exact ⟨((-1099511627776)), (0), (by first | rfl | (simp; done) | (simp [*]; done)), (by first | rfl | (simp; done) | (simp [*]; done)), H', ⟨Nat.le_refl _⟩, ⟨by (with_reducible repeat (first | apply Kd.R_alloc | apply Kd.R_drewN | apply Kd.R_drew)); exact HO_5.out⟩, ⟨by (with_reducible repeat (first | apply Kd.R_alloc | apply Kd.R_drewN | apply Kd.R_drew)); exact HO_6.out⟩, ⟨by (with_reducible repeat (first | apply Kd.R_alloc | apply Kd.R_drewN | apply Kd.R_drew)); exact HO_709002.out⟩, ⟨by (with_reducible repeat (first | refine blk_drewN ?_ _ | refine blk_drew ?_ | refine blk_alloc ?_ _)); exact BK708.out⟩, ⟨by repeat (first | (with_reducible first | exact HB.out | apply below_alloc | apply pw_below_drewN | apply below_drew1 | refine below_set ?_ GE708.out) | exact HB.out)⟩⟩
                case round =>
                  clear H'
                  try clear c1
                  try clear p2
                  try clear c3
                  try clear c4
                  try clear c5
                  try clear p6
                  try clear q6
                  try clear hx6
                  try clear c9
                  try clear c9b0
                  try clear c10
                  try clear c10b0
                  try clear c11
                  try clear c11b0
                  try clear c13
                  try clear c17
                  try clear c17b0
                  try clear c17b1
                  try clear c17b2
                  try clear c31
                  try clear c31b0
                  try clear c31b1
                  try clear c32
                  try clear c35
                  try clear hcz28_0
                  try clear hcz28_1
                  try clear hcz28_2
                  try clear hcz33_0
                  try clear hcz33_1
                  try clear hcz33_2
                  try clear hcz34_0
                  try clear hcz34_1
                  try clear hcz34_2
                  try clear hfz28_0
                  try clear hfz28_1
                  try clear hfz28_2
                  try clear hfz33_0
                  try clear hfz33_1
                  try clear hfz33_2
                  try clear hfz34_0
                  try clear hfz34_1
                  try clear hfz34_2
                  try clear hx679_0
                  try clear p2
                  try clear p6
                  try clear p679
                  try clear q6
                  try clear q679
                  obtain ⟨x13_3, x14_3, rfl, rfl, HA, HK3, HO_5, HO_6, HO_709002, BK708, HB⟩ := hrel
                  cases gk with
                  | zero => exact absurd HA.out (by simp [bournelaw2_LowRanks.l1])
                  | succ k3 =>
                    have H := HA.out
                    clear HA
                    simp only [bournelaw2_LowRanks.l1] at H
                    by_cases c36 : x14_3 < (y676.length : Int)
                    · rw [if_pos c36] at H
                      have c36b0 : decide (x14_3 < (y676.length : Int)) = true := decide_eq_true c36
                      clear c36
                      by_cases c37 : 0 ≤ x14_3
                      · rw [if_pos c37] at H
                        have c37b0 : decide (0 ≤ x14_3) = true := decide_eq_true c37
                        clear c37
                        by_cases c38 : (rd y676 x14_3) < t702
                        · rw [if_pos c38] at H
                          have c38b0 : decide ((rd y676 x14_3) < t702) = true := decide_eq_true c38
                          clear c38
                          have H' := Aside0.mk H
                          clear H
                          have p710 : 0 ≤ (x14_3 : Int) := of_decide_eq_true (by first | (with_reducible assumption) | assumption)
                          have q710 : x14_3 < (y676.length : Int) := of_decide_eq_true (by first | (with_reducible assumption) | assumption)
                          obtain ⟨ad710, e710, hx710_0⟩ := Kd.at_int (Kd.R_reads' HO_5.out).2.2 x14_3 p710 q710
                          cases e710
                          replace p710 := eq_true p710
                          replace q710 := eq_true q710
                          have hcz39_0 : wr.cell? ⟨gb708, 0, none⟩ = some (.int .i64 t702) := (blk_cell BK708.out 0).trans rfl
                          have hcz39_1 : wr.cell? ⟨gb708, 1, none⟩ = some (.bool t703) := (blk_cell BK708.out 1).trans rfl
                          have hcz39_2 : wr.cell? ⟨gb708, 2, none⟩ = some (.slice Ao29 t704.length co29) := (blk_cell BK708.out 2).trans rfl
                          have hfz39_0 := blk_frozen BK708.out 0
                          have hfz39_1 := blk_frozen BK708.out 1
                          have hfz39_2 := blk_frozen BK708.out 2
                          have p711 : 0 ≤ (x14_3 : Int) := of_decide_eq_true (by first | (with_reducible assumption) | assumption)
                          have q711 : x14_3 < (y676.length : Int) := of_decide_eq_true (by first | (with_reducible assumption) | assumption)
                          obtain ⟨ad711, e711, hx711_0⟩ := Kd.at_int (Kd.R_reads' HO_5.out).2.2 x14_3 p711 q711
                          obtain rfl : ad710 = ad711 := (by injection e711)
                          replace p711 := eq_true p711
                          replace q711 := eq_true q711
                          go_wp2
                          repeat (go_quiet (fail); try go_wp2)
                          go_roundg k3
                          case measure => have := HJ4.out; have := HJ20.out; have := HK3.out; omega
                          case rel => exact ⟨(rd y676 x14_3), (wrap64 (x14_3 + 1)), (by first | rfl | (simp; done) | (simp [*]; done)), (by first | rfl | (simp; done) | (simp [*]; done)), H', ⟨by have := HJ4.out; have := HJ20.out; have := HK3.out; omega⟩, ⟨by (with_reducible repeat (first | apply Kd.R_alloc | apply Kd.R_drewN | apply Kd.R_drew)); exact HO_5.out⟩, ⟨by (with_reducible repeat (first | apply Kd.R_alloc | apply Kd.R_drewN | apply Kd.R_drew)); exact HO_6.out⟩, ⟨by (with_reducible repeat (first | apply Kd.R_alloc | apply Kd.R_drewN | apply Kd.R_drew)); exact HO_709002.out⟩, ⟨by (with_reducible repeat (first | refine blk_drewN ?_ _ | refine blk_drew ?_ | refine blk_alloc ?_ _)); exact BK708.out⟩, ⟨by repeat (first | (with_reducible first | exact HB.out | apply below_alloc | apply pw_below_drewN | apply below_drew1 | refine below_set ?_ GE708.out) | exact HB.out)⟩⟩
                        · rw [if_neg c38] at H
                          have c38b0 : decide ((rd y676 x14_3) < t702) = false := decide_eq_false c38
                          clear c38
                          have H' := Aside0.mk H
                          clear H
                          have p710 : 0 ≤ (x14_3 : Int) := of_decide_eq_true (by first | (with_reducible assumption) | assumption)
                          have q710 : x14_3 < (y676.length : Int) := of_decide_eq_true (by first | (with_reducible assumption) | assumption)
                          obtain ⟨ad710, e710, hx710_0⟩ := Kd.at_int (Kd.R_reads' HO_5.out).2.2 x14_3 p710 q710
                          cases e710
                          replace p710 := eq_true p710
                          replace q710 := eq_true q710
                          have hcz40_0 : wr.cell? ⟨gb708, 0, none⟩ = some (.int .i64 t702) := (blk_cell BK708.out 0).trans rfl
                          have hcz40_1 : wr.cell? ⟨gb708, 1, none⟩ = some (.bool t703) := (blk_cell BK708.out 1).trans rfl
                          have hcz40_2 : wr.cell? ⟨gb708, 2, none⟩ = some (.slice Ao29 t704.length co29) := (blk_cell BK708.out 2).trans rfl
                          have hfz40_0 := blk_frozen BK708.out 0
                          have hfz40_1 := blk_frozen BK708.out 1
                          have hfz40_2 := blk_frozen BK708.out 2
                          go_wp2
                          repeat (go_quiet (fail); try go_wp2)
                          go_roundg k3
                          case measure => have := HJ4.out; have := HJ20.out; have := HK3.out; omega
                          case rel => exact ⟨(x13_3), (wrap64 (x14_3 + 1)), (by first | rfl | (simp; done) | (simp [*]; done)), (by first | rfl | (simp; done) | (simp [*]; done)), H', ⟨by have := HJ4.out; have := HJ20.out; have := HK3.out; omega⟩, ⟨by (with_reducible repeat (first | apply Kd.R_alloc | apply Kd.R_drewN | apply Kd.R_drew)); exact HO_5.out⟩, ⟨by (with_reducible repeat (first | apply Kd.R_alloc | apply Kd.R_drewN | apply Kd.R_drew)); exact HO_6.out⟩, ⟨by (with_reducible repeat (first | apply Kd.R_alloc | apply Kd.R_drewN | apply Kd.R_drew)); exact HO_709002.out⟩, ⟨by (with_reducible repeat (first | refine blk_drewN ?_ _ | refine blk_drew ?_ | refine blk_alloc ?_ _)); exact BK708.out⟩, ⟨by repeat (first | (with_reducible first | exact HB.out | apply below_alloc | apply pw_below_drewN | apply below_drew1 | refine below_set ?_ GE708.out) | exact HB.out)⟩⟩
                      · rw [if_neg c37] at H
                        exact absurd H (by simp)
                    · rw [if_neg c36] at H
                      have c36b0 : decide (x14_3 < (y676.length : Int)) = false := decide_eq_false c36
                      clear c36
                      have H' := Aside0.mk H
                      clear H
                      go_wp2
                      repeat (go_quiet (fail); try go_wp2)
                      go_loopg [15, 16, 17] k3 (fun kq v15 v16 v17 w' => ∃ (x15_4 : Int) (x16_4 : Int) (x17_4 : Int), v15 = .int .i64 x15_4 ∧ v16 = .int .i64 x16_4 ∧ v17 = .int .i64 x17_4 ∧ Aside0 (bournelaw2_LowRanks.l2 kq x6_4 (wrap64 (Int.tmod (IntKind.u64.wrap (a1)) 1001)) x13_3 x15_4 x16_4 x17_4 t702 t703 t704 = some r) ∧ Aside0 (kq ≤ k3) ∧ Aside0 (Kd.R k26 26 w' w.heap.size (fun _ => True) (.slice Ao22 x6_4.length co22) x6_4) ∧ Aside0 (Kd.R (Kd.int .i64) 3 w' w.heap.size (fun _ => True) (.slice Ao29 t704.length co29) t704) ∧ Aside0 (w'.heap[gb708]? = some (.cells #[.int .i64 t702, .bool t703, (.slice Ao29 t704.length co29)] 31 (0, 0))) ∧ Aside0 (Below w.heap.size w w'))
                      case atStart => exact ⟨(0), (0), (0), (by first | rfl | (simp; done) | (simp [*]; done)), (by first | rfl | (simp; done) | (simp [*]; done)), (by first | rfl | (simp; done) | (simp [*]; done)), H', ⟨Nat.le_refl _⟩, ⟨by (with_reducible repeat (first | apply Kd.R_alloc | apply Kd.R_drewN | apply Kd.R_drew)); exact HO_6.out⟩, ⟨by (with_reducible repeat (first | apply Kd.R_alloc | apply Kd.R_drewN | apply Kd.R_drew)); exact Kd.R_mono HO_709002.out (fun _ hk => trivial)⟩, ⟨by (with_reducible repeat (first | refine blk_drewN ?_ _ | refine blk_drew ?_ | refine blk_alloc ?_ _)); exact BK708.out⟩, ⟨by repeat (first | (with_reducible first | exact HB.out | apply below_alloc | apply pw_below_drewN | apply below_drew1 | refine below_set ?_ GE708.out) | exact HB.out)⟩⟩
                      case round =>
                        clear H'
                        try clear c1
                        try clear p2
                        try clear c3
                        try clear c4
                        try clear c5
                        try clear p6
                        try clear q6
                        try clear hx6
                        try clear p7
                        try clear q7
                        try clear hx7
                        try clear c9
                        try clear c9b0
                        try clear c10
                        try clear c10b0
                        try clear c11
                        try clear c11b0
                        try clear c13
                        try clear c17
                        try clear c17b0
                        try clear c17b1
                        try clear c17b2
                        try clear c31
                        try clear c31b0
                        try clear c31b1
                        try clear c32
                        try clear c35
                        try clear c36
                        try clear c36b0
                        try clear c37
                        try clear c37b0
                        try clear c38
                        try clear c38b0
                        try clear hcz28_0
                        try clear hcz28_1
                        try clear hcz28_2
                        try clear hcz33_0
                        try clear hcz33_1
                        try clear hcz33_2
                        try clear hcz34_0
                        try clear hcz34_1
                        try clear hcz34_2
                        try clear hcz39_0
                        try clear hcz39_1
                        try clear hcz39_2
                        try clear hcz40_0
                        try clear hcz40_1
                        try clear hcz40_2
                        try clear hfz28_0
                        try clear hfz28_1
                        try clear hfz28_2
                        try clear hfz33_0
                        try clear hfz33_1
                        try clear hfz33_2
                        try clear hfz34_0
                        try clear hfz34_1
                        try clear hfz34_2
                        try clear hfz39_0
                        try clear hfz39_1
                        try clear hfz39_2
                        try clear hfz40_0
                        try clear hfz40_1
                        try clear hfz40_2
                        try clear hx679_0
                        try clear hx710_0
                        try clear hx711_0
                        try clear p2
                        try clear p6
                        try clear p679
                        try clear p710
                        try clear p711
                        try clear q6
                        try clear q679
                        try clear q710
                        try clear q711
                        obtain ⟨x15_4, x16_4, x17_4, rfl, rfl, rfl, HA, HK4, HO_6, HO_709002, BK708, HB⟩ := hrel
                        cases gk with
                        | zero => exact absurd HA.out (by simp [bournelaw2_LowRanks.l2])
                        | succ k4 =>
                          have H := HA.out
                          clear HA
                          simp only [bournelaw2_LowRanks.l2] at H
                          by_cases c41 : x17_4 < (x6_4.length : Int)
                          · rw [if_pos c41] at H
                            have c41b0 : decide (x17_4 < (x6_4.length : Int)) = true := decide_eq_true c41
                            clear c41
                            by_cases c42 : 0 ≤ x17_4
                            · rw [if_pos c42] at H
                              have c42b0 : decide (0 ≤ x17_4) = true := decide_eq_true c42
                              clear c42
                              by_cases c43 : ((rd_T26 x6_4 x17_4).f3) ≤ t702
                              · rw [if_pos c43] at H
                                have c43b0 : decide (((rd_T26 x6_4 x17_4).f3) ≤ t702) = true := decide_eq_true c43
                                clear c43
                                by_cases c44 : ((rd_T26 x6_4 x17_4).f3) ≤ x13_3
                                · rw [if_pos c44] at H
                                  have c44b0 : decide (((rd_T26 x6_4 x17_4).f3) ≤ x13_3) = true := decide_eq_true c44
                                  clear c44
                                  have H' := Aside0.mk H
                                  clear H
                                  have p712 : 0 ≤ (x17_4 : Int) := of_decide_eq_true (by first | (with_reducible assumption) | assumption)
                                  have q712 : x17_4 < (x6_4.length : Int) := of_decide_eq_true (by first | (with_reducible assumption) | assumption)
                                  obtain ⟨ad712, e712, hx712_0, hx712_1, hx712_2, hx712_3⟩ := at_T26 (Kd.R_reads' HO_6.out).2.2 x17_4 p712 q712
                                  cases e712
                                  replace p712 := eq_true p712
                                  replace q712 := eq_true q712
                                  have hcz45_0 : wr.cell? ⟨gb708, 0, none⟩ = some (.int .i64 t702) := (blk_cell BK708.out 0).trans rfl
                                  have hcz45_1 : wr.cell? ⟨gb708, 1, none⟩ = some (.bool t703) := (blk_cell BK708.out 1).trans rfl
                                  have hcz45_2 : wr.cell? ⟨gb708, 2, none⟩ = some (.slice Ao29 t704.length co29) := (blk_cell BK708.out 2).trans rfl
                                  have hfz45_0 := blk_frozen BK708.out 0
                                  have hfz45_1 := blk_frozen BK708.out 1
                                  have hfz45_2 := blk_frozen BK708.out 2
                                  have p713 : 0 ≤ (x17_4 : Int) := of_decide_eq_true (by first | (with_reducible assumption) | assumption)
                                  have q713 : x17_4 < (x6_4.length : Int) := of_decide_eq_true (by first | (with_reducible assumption) | assumption)
                                  obtain ⟨ad713, e713, hx713_0, hx713_1, hx713_2, hx713_3⟩ := at_T26 (Kd.R_reads' HO_6.out).2.2 x17_4 p713 q713
                                  obtain rfl : ad712 = ad713 := (by injection e713)
                                  replace p713 := eq_true p713
                                  replace q713 := eq_true q713
                                  go_wp2
                                  repeat (go_quiet (fail); try go_wp2)
                                  go_roundg k4
                                  case measure => have := HJ4.out; have := HJ20.out; have := HK3.out; have := HK4.out; omega
                                  case rel => exact ⟨(wrap64 (x15_4 + 1)), (wrap64 (x16_4 + 1)), (wrap64 (x17_4 + 1)), (by first | rfl | (simp; done) | (simp [*]; done)), (by first | rfl | (simp; done) | (simp [*]; done)), (by first | rfl | (simp; done) | (simp [*]; done)), H', ⟨by have := HJ4.out; have := HJ20.out; have := HK3.out; have := HK4.out; omega⟩, ⟨by (with_reducible repeat (first | apply Kd.R_alloc | apply Kd.R_drewN | apply Kd.R_drew)); exact HO_6.out⟩, ⟨by (with_reducible repeat (first | apply Kd.R_alloc | apply Kd.R_drewN | apply Kd.R_drew)); exact HO_709002.out⟩, ⟨by (with_reducible repeat (first | refine blk_drewN ?_ _ | refine blk_drew ?_ | refine blk_alloc ?_ _)); exact BK708.out⟩, ⟨by repeat (first | (with_reducible first | exact HB.out | apply below_alloc | apply pw_below_drewN | apply below_drew1 | refine below_set ?_ GE708.out) | exact HB.out)⟩⟩
                                · rw [if_neg c44] at H
                                  have c44b0 : decide (((rd_T26 x6_4 x17_4).f3) ≤ x13_3) = false := decide_eq_false c44
                                  clear c44
                                  have H' := Aside0.mk H
                                  clear H
                                  have p712 : 0 ≤ (x17_4 : Int) := of_decide_eq_true (by first | (with_reducible assumption) | assumption)
                                  have q712 : x17_4 < (x6_4.length : Int) := of_decide_eq_true (by first | (with_reducible assumption) | assumption)
                                  obtain ⟨ad712, e712, hx712_0, hx712_1, hx712_2, hx712_3⟩ := at_T26 (Kd.R_reads' HO_6.out).2.2 x17_4 p712 q712
                                  cases e712
                                  replace p712 := eq_true p712
                                  replace q712 := eq_true q712
                                  have hcz46_0 : wr.cell? ⟨gb708, 0, none⟩ = some (.int .i64 t702) := (blk_cell BK708.out 0).trans rfl
                                  have hcz46_1 : wr.cell? ⟨gb708, 1, none⟩ = some (.bool t703) := (blk_cell BK708.out 1).trans rfl
                                  have hcz46_2 : wr.cell? ⟨gb708, 2, none⟩ = some (.slice Ao29 t704.length co29) := (blk_cell BK708.out 2).trans rfl
                                  have hfz46_0 := blk_frozen BK708.out 0
                                  have hfz46_1 := blk_frozen BK708.out 1
                                  have hfz46_2 := blk_frozen BK708.out 2
                                  have p713 : 0 ≤ (x17_4 : Int) := of_decide_eq_true (by first | (with_reducible assumption) | assumption)
                                  have q713 : x17_4 < (x6_4.length : Int) := of_decide_eq_true (by first | (with_reducible assumption) | assumption)
                                  obtain ⟨ad713, e713, hx713_0, hx713_1, hx713_2, hx713_3⟩ := at_T26 (Kd.R_reads' HO_6.out).2.2 x17_4 p713 q713
                                  obtain rfl : ad712 = ad713 := (by injection e713)
                                  replace p713 := eq_true p713
                                  replace q713 := eq_true q713
                                  go_wp2
                                  repeat (go_quiet (fail); try go_wp2)
                                  go_roundg k4
                                  case measure => have := HJ4.out; have := HJ20.out; have := HK3.out; have := HK4.out; omega
                                  case rel => exact ⟨(wrap64 (x15_4 + 1)), (x16_4), (wrap64 (x17_4 + 1)), (by first | rfl | (simp; done) | (simp [*]; done)), (by first | rfl | (simp; done) | (simp [*]; done)), (by first | rfl | (simp; done) | (simp [*]; done)), H', ⟨by have := HJ4.out; have := HJ20.out; have := HK3.out; have := HK4.out; omega⟩, ⟨by (with_reducible repeat (first | apply Kd.R_alloc | apply Kd.R_drewN | apply Kd.R_drew)); exact HO_6.out⟩, ⟨by (with_reducible repeat (first | apply Kd.R_alloc | apply Kd.R_drewN | apply Kd.R_drew)); exact HO_709002.out⟩, ⟨by (with_reducible repeat (first | refine blk_drewN ?_ _ | refine blk_drew ?_ | refine blk_alloc ?_ _)); exact BK708.out⟩, ⟨by repeat (first | (with_reducible first | exact HB.out | apply below_alloc | apply pw_below_drewN | apply below_drew1 | refine below_set ?_ GE708.out) | exact HB.out)⟩⟩
                              · rw [if_neg c43] at H
                                have c43b0 : decide (((rd_T26 x6_4 x17_4).f3) ≤ t702) = false := decide_eq_false c43
                                clear c43
                                by_cases c47 : ((rd_T26 x6_4 x17_4).f3) ≤ x13_3
                                · rw [if_pos c47] at H
                                  have c47b0 : decide (((rd_T26 x6_4 x17_4).f3) ≤ x13_3) = true := decide_eq_true c47
                                  clear c47
                                  have H' := Aside0.mk H
                                  clear H
                                  have p712 : 0 ≤ (x17_4 : Int) := of_decide_eq_true (by first | (with_reducible assumption) | assumption)
                                  have q712 : x17_4 < (x6_4.length : Int) := of_decide_eq_true (by first | (with_reducible assumption) | assumption)
                                  obtain ⟨ad712, e712, hx712_0, hx712_1, hx712_2, hx712_3⟩ := at_T26 (Kd.R_reads' HO_6.out).2.2 x17_4 p712 q712
                                  cases e712
                                  replace p712 := eq_true p712
                                  replace q712 := eq_true q712
                                  have hcz48_0 : wr.cell? ⟨gb708, 0, none⟩ = some (.int .i64 t702) := (blk_cell BK708.out 0).trans rfl
                                  have hcz48_1 : wr.cell? ⟨gb708, 1, none⟩ = some (.bool t703) := (blk_cell BK708.out 1).trans rfl
                                  have hcz48_2 : wr.cell? ⟨gb708, 2, none⟩ = some (.slice Ao29 t704.length co29) := (blk_cell BK708.out 2).trans rfl
                                  have hfz48_0 := blk_frozen BK708.out 0
                                  have hfz48_1 := blk_frozen BK708.out 1
                                  have hfz48_2 := blk_frozen BK708.out 2
                                  have p714 : 0 ≤ (x17_4 : Int) := of_decide_eq_true (by first | (with_reducible assumption) | assumption)
                                  have q714 : x17_4 < (x6_4.length : Int) := of_decide_eq_true (by first | (with_reducible assumption) | assumption)
                                  obtain ⟨ad714, e714, hx714_0, hx714_1, hx714_2, hx714_3⟩ := at_T26 (Kd.R_reads' HO_6.out).2.2 x17_4 p714 q714
                                  obtain rfl : ad712 = ad714 := (by injection e714)
                                  replace p714 := eq_true p714
                                  replace q714 := eq_true q714
                                  go_wp2
                                  repeat (go_quiet (fail); try go_wp2)
                                  go_roundg k4
                                  case measure => have := HJ4.out; have := HJ20.out; have := HK3.out; have := HK4.out; omega
                                  case rel => exact ⟨(x15_4), (wrap64 (x16_4 + 1)), (wrap64 (x17_4 + 1)), (by first | rfl | (simp; done) | (simp [*]; done)), (by first | rfl | (simp; done) | (simp [*]; done)), (by first | rfl | (simp; done) | (simp [*]; done)), H', ⟨by have := HJ4.out; have := HJ20.out; have := HK3.out; have := HK4.out; omega⟩, ⟨by (with_reducible repeat (first | apply Kd.R_alloc | apply Kd.R_drewN | apply Kd.R_drew)); exact HO_6.out⟩, ⟨by (with_reducible repeat (first | apply Kd.R_alloc | apply Kd.R_drewN | apply Kd.R_drew)); exact HO_709002.out⟩, ⟨by (with_reducible repeat (first | refine blk_drewN ?_ _ | refine blk_drew ?_ | refine blk_alloc ?_ _)); exact BK708.out⟩, ⟨by repeat (first | (with_reducible first | exact HB.out | apply below_alloc | apply pw_below_drewN | apply below_drew1 | refine below_set ?_ GE708.out) | exact HB.out)⟩⟩
                                · rw [if_neg c47] at H
                                  have c47b0 : decide (((rd_T26 x6_4 x17_4).f3) ≤ x13_3) = false := decide_eq_false c47
                                  clear c47
                                  have H' := Aside0.mk H
                                  clear H
                                  have p712 : 0 ≤ (x17_4 : Int) := of_decide_eq_true (by first | (with_reducible assumption) | assumption)
                                  have q712 : x17_4 < (x6_4.length : Int) := of_decide_eq_true (by first | (with_reducible assumption) | assumption)
                                  obtain ⟨ad712, e712, hx712_0, hx712_1, hx712_2, hx712_3⟩ := at_T26 (Kd.R_reads' HO_6.out).2.2 x17_4 p712 q712
                                  cases e712
                                  replace p712 := eq_true p712
                                  replace q712 := eq_true q712
                                  have hcz49_0 : wr.cell? ⟨gb708, 0, none⟩ = some (.int .i64 t702) := (blk_cell BK708.out 0).trans rfl
                                  have hcz49_1 : wr.cell? ⟨gb708, 1, none⟩ = some (.bool t703) := (blk_cell BK708.out 1).trans rfl
                                  have hcz49_2 : wr.cell? ⟨gb708, 2, none⟩ = some (.slice Ao29 t704.length co29) := (blk_cell BK708.out 2).trans rfl
                                  have hfz49_0 := blk_frozen BK708.out 0
                                  have hfz49_1 := blk_frozen BK708.out 1
                                  have hfz49_2 := blk_frozen BK708.out 2
                                  have p714 : 0 ≤ (x17_4 : Int) := of_decide_eq_true (by first | (with_reducible assumption) | assumption)
                                  have q714 : x17_4 < (x6_4.length : Int) := of_decide_eq_true (by first | (with_reducible assumption) | assumption)
                                  obtain ⟨ad714, e714, hx714_0, hx714_1, hx714_2, hx714_3⟩ := at_T26 (Kd.R_reads' HO_6.out).2.2 x17_4 p714 q714
                                  obtain rfl : ad712 = ad714 := (by injection e714)
                                  replace p714 := eq_true p714
                                  replace q714 := eq_true q714
                                  go_wp2
                                  repeat (go_quiet (fail); try go_wp2)
                                  go_roundg k4
                                  case measure => have := HJ4.out; have := HJ20.out; have := HK3.out; have := HK4.out; omega
                                  case rel => exact ⟨(x15_4), (x16_4), (wrap64 (x17_4 + 1)), (by first | rfl | (simp; done) | (simp [*]; done)), (by first | rfl | (simp; done) | (simp [*]; done)), (by first | rfl | (simp; done) | (simp [*]; done)), H', ⟨by have := HJ4.out; have := HJ20.out; have := HK3.out; have := HK4.out; omega⟩, ⟨by (with_reducible repeat (first | apply Kd.R_alloc | apply Kd.R_drewN | apply Kd.R_drew)); exact HO_6.out⟩, ⟨by (with_reducible repeat (first | apply Kd.R_alloc | apply Kd.R_drewN | apply Kd.R_drew)); exact HO_709002.out⟩, ⟨by (with_reducible repeat (first | refine blk_drewN ?_ _ | refine blk_drew ?_ | refine blk_alloc ?_ _)); exact BK708.out⟩, ⟨by repeat (first | (with_reducible first | exact HB.out | apply below_alloc | apply pw_below_drewN | apply below_drew1 | refine below_set ?_ GE708.out) | exact HB.out)⟩⟩
                            · rw [if_neg c42] at H
                              exact absurd H (by simp)
                          · rw [if_neg c41] at H
                            have c41b0 : decide (x17_4 < (x6_4.length : Int)) = false := decide_eq_false c41
                            clear c41
                            by_cases c50 : x15_4 ≥ 1
                            · rw [if_pos c50] at H
                              have c50b0 : decide (1 ≤ x15_4) = true := decide_eq_true c50
                              clear c50
                              by_cases c51 : (wrap64 (x15_4 * 1000)) ≥ (wrap64 ((wrap64 (Int.tmod (IntKind.u64.wrap (a1)) 1001)) * (x6_4.length : Int)))
                              · rw [if_pos c51] at H
                                have c51b0 : decide ((wrap64 ((wrap64 (Int.tmod (IntKind.u64.wrap (a1)) 1001)) * (x6_4.length : Int))) ≤ (wrap64 (x15_4 * 1000))) = true := decide_eq_true c51
                                clear c51
                                by_cases c52 : (wrap64 (x16_4 * 1000)) < (wrap64 ((wrap64 (Int.tmod (IntKind.u64.wrap (a1)) 1001)) * (x6_4.length : Int)))
                                · rw [if_pos c52] at H
                                  have c52b0 : decide ((wrap64 (x16_4 * 1000)) < (wrap64 ((wrap64 (Int.tmod (IntKind.u64.wrap (a1)) 1001)) * (x6_4.length : Int)))) = true := decide_eq_true c52
                                  clear c52
                                  obtain rfl := Option.some.inj H
                                  go_wp2
                                  repeat (go_quiet (fail); try go_wp2)
                                  go_ret
                                  exact ⟨by first | rfl | (simp [errW_none, errW_some] <;> rfl) | (simp [*, errW_none, errW_some] <;> rfl), by repeat (first | (with_reducible first | exact HB.out | apply below_alloc | apply pw_below_drewN | apply below_drew1 | refine below_set ?_ GE708.out) | exact HB.out)⟩
                                · rw [if_neg c52] at H
                                  have c52b0 : decide ((wrap64 (x16_4 * 1000)) < (wrap64 ((wrap64 (Int.tmod (IntKind.u64.wrap (a1)) 1001)) * (x6_4.length : Int)))) = false := decide_eq_false c52
                                  clear c52
                                  obtain rfl := Option.some.inj H
                                  go_wp2
                                  repeat (go_quiet (fail); try go_wp2)
                                  go_ret
                                  exact ⟨by first | rfl | (simp [errW_none, errW_some] <;> rfl) | (simp [*, errW_none, errW_some] <;> rfl), by repeat (first | (with_reducible first | exact HB.out | apply below_alloc | apply pw_below_drewN | apply below_drew1 | refine below_set ?_ GE708.out) | exact HB.out)⟩
                              · rw [if_neg c51] at H
                                have c51b0 : decide ((wrap64 ((wrap64 (Int.tmod (IntKind.u64.wrap (a1)) 1001)) * (x6_4.length : Int))) ≤ (wrap64 (x15_4 * 1000))) = false := decide_eq_false c51
                                clear c51
                                obtain rfl := Option.some.inj H
                                go_wp2
                                repeat (go_quiet (fail); try go_wp2)
                                go_ret
                                exact ⟨by first | rfl | (simp [errW_none, errW_some] <;> rfl) | (simp [*, errW_none, errW_some] <;> rfl), by repeat (first | (with_reducible first | exact HB.out | apply below_alloc | apply pw_below_drewN | apply below_drew1 | refine below_set ?_ GE708.out) | exact HB.out)⟩
                            · rw [if_neg c50] at H
                              have c50b0 : decide (1 ≤ x15_4) = false := decide_eq_false c50
                              clear c50
                              obtain rfl := Option.some.inj H
                              go_wp2
                              repeat (go_quiet (fail); try go_wp2)
                              go_ret
                              exact ⟨by first | rfl | (simp [errW_none, errW_some] <;> rfl) | (simp [*, errW_none, errW_some] <;> rfl), by repeat (first | (with_reducible first | exact HB.out | apply below_alloc | apply pw_below_drewN | apply below_drew1 | refine below_set ?_ GE708.out) | exact HB.out)⟩
  · replace c4 := Bool.eq_false_iff.mpr c4
    subst c4
    have H1 : (some false) = some r := by rw [if_neg (show ¬ (false = true) by decide)] at H; exact H
    clear H
    have H := H1
    clear H1
    obtain rfl := Option.some.inj H
    go_enter Try.func5, Try.ntmps5
    go_wp2_with (first | (go_at_call 23; (with_reducible refine (bournelaw2_awake.calls  false _ A3.out).mono ?_); rintro e w53 ⟨rfl, hb⟩; have n0_ := Aside0.mk (below_step (by repeat (first | (with_reducible first | exact HB.out | apply below_alloc | apply pw_below_drewN | apply below_drew1) | exact HB.out)) hb); clear HB; have HB := n0_; clear n0_; (try clear hb); (try clear hb2); (try clear hk); (try clear hi)))
    repeat (go_quiet (first | (go_at_call 23; (with_reducible refine (bournelaw2_awake.calls  false _ A3.out).mono ?_); rintro e w53 ⟨rfl, hb⟩; have n0_ := Aside0.mk (below_step (by repeat (first | (with_reducible first | exact HB.out | apply below_alloc | apply pw_below_drewN | apply below_drew1) | exact HB.out)) hb); clear HB; have HB := n0_; clear n0_; (try clear hb); (try clear hb2); (try clear hk); (try clear hi))); try go_wp2_with (first | (go_at_call 23; (with_reducible refine (bournelaw2_awake.calls  false _ A3.out).mono ?_); rintro e w53 ⟨rfl, hb⟩; have n0_ := Aside0.mk (below_step (by repeat (first | (with_reducible first | exact HB.out | apply below_alloc | apply pw_below_drewN | apply below_drew1) | exact HB.out)) hb); clear HB; have HB := n0_; clear n0_; (try clear hb); (try clear hb2); (try clear hk); (try clear hi))))
    go_ret
    exact ⟨by first | rfl | (simp [errW_none, errW_some] <;> rfl) | (simp [*, errW_none, errW_some] <;> rfl), by repeat (first | (with_reducible first | exact HB.out | apply below_alloc | apply pw_below_drewN | apply below_drew1) | exact HB.out)⟩

/-- THE ONE PURE STATEMENT of bournelaw2_LowRanks: yours. -/
def bournelaw2_LowRanks.Pure : Prop := ∀ (l0 : List Int) (a1 : Int), l0.length ≤ maxLen → l0.length * 8 ≤ 140737488351232 → (∀ x ∈ l0, (Lit.int .i64 x).wf = true) → (Lit.int .i64 a1).wf = true → ∃ k, bournelaw2_LowRanks.f k l0 a1 = some true
theorem bournelaw2_LowRanks.walk (P : bournelaw2_LowRanks.Pure) (a0 : Option Addr) (len0 cap0 : Nat) (z0 : List Int) (a1 : Int) (w : World) (w0 : (a0 = none ∧ len0 = 0 ∧ cap0 = 0 ∧ z0 = []) ∨ ∃ x, a0 = some x ∧ len0 ≤ cap0 ∧ cap0 ≤ maxLen ∧ z0.length = cap0 ∧ (∀ i, i < z0.length → w.cell? (x.add i) = some (.int .i64 (z0.getD i 0))) ∧ ∀ n ∈ z0, (Lit.int .i64 n).wf = true) (y0 : len0 * 8 ≤ 140737488351232) (w1 : (Lit.int .i64 a1).wf = true) :
    Calls Try.prog 5 #[.slice a0 len0 cap0, .int .i64 a1] w fun e w' => e = .returned (.bool true) ∧ Below w.heap.size w w' := by
  obtain ⟨l0, rfl, hr0, hm0, hw0, hc0⟩ := ReadsInt.ofRowC w0
  obtain ⟨k, h⟩ := P l0 a1 hm0 y0 hw0 w1
  refine (bournelaw2_LowRanks.calls k _ _ l0 a1 true w (Kd.C_of_reads (d := (0 : Int)) (h1 := fun _ => rfl) hr0) hc0 h).mono ?_
  rintro e w' ⟨rfl, hd⟩
  exact ⟨rfl, hd⟩

end Go.Proofs.Ytggaefklcpbfnaa.Pa
