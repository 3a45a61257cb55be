/- Lemmas, contracts of functions and plain laws, part 2: what the row's proof uses. No statement of the seed is proved here. -/
import Derived.Test.YtggaefklcpbfnaaYPa0
import Derived.Test.YtggaefklcpbfnaaZLows1
import Derived.Test.YtggaefklcpbfnaaYPaItem2
import Derived.Test.YtggaefklcpbfnaaYPaBourneref1histMay
namespace Go.Proofs.Ytggaefklcpbfnaa.Pa
open Go.RowKit Go.Proofs.YtggaefklcpbfnaaW.PrintWords Go.Proofs.YtggaefklcpbfnaaW.PrintLast Go.Proofs.YtggaefklcpbfnaaW.PrintMore
attribute [local go_sem] max2_int min2_int max_two min_two max_three min_three max_four min_four   -- for this text's walks alone
set_option linter.unusedVariables false
set_option linter.unusedSimpArgs false

def bourneref1_Fold.l0 : Nat → List (S26) → List Int → Int → Int → Int → Int → Int → Int → Int → Int → Int → Int → Int → Int → Int → List Int → Option (Int × Int × Int × Int × Int × Int × Int × Int × Int × Int × Int × Int × List Int)
  | 0, _, _, _, _, _, _, _, _, _, _, _, _, _, _, _, _ => none
  | k + 1, x0, x1, x6, x549000, x549001, x549002, x549003, x549004, x549005, x549006, x549007, x549008, x549009, x549010, x549011, x549012 => if x6 < (x0.length : Int) then (if 0 ≤ x6 then ((bourneref1_One.f ((rd_T26 x0 x6).f0) ((rd_T26 x0 x6).f1) ((rd_T26 x0 x6).f2) ((rd_T26 x0 x6).f3) x1).bind fun bt550 => (if x549000 = 0 then (bourneref1_Fold.l0 k x0 x1 (wrap64 (x6 + 1)) bt550.1 bt550.2.1 bt550.2.2.1 bt550.2.2.2.1 bt550.2.2.2.2.1 bt550.2.2.2.2.2.1 bt550.2.2.2.2.2.2.1 bt550.2.2.2.2.2.2.2.1 bt550.2.2.2.2.2.2.2.2.1 bt550.2.2.2.2.2.2.2.2.2.1 bt550.2.2.2.2.2.2.2.2.2.2.1 bt550.2.2.2.2.2.2.2.2.2.2.2.1 bt550.2.2.2.2.2.2.2.2.2.2.2.2.1) else ((bourneref1_two.f x549000 x549001 x549002 x549003 x549004 x549005 x549006 x549007 x549008 x549009 x549010 x549011 x549012 bt550.1 bt550.2.1 bt550.2.2.1 bt550.2.2.2.1 bt550.2.2.2.2.1 bt550.2.2.2.2.2.1 bt550.2.2.2.2.2.2.1 bt550.2.2.2.2.2.2.2.1 bt550.2.2.2.2.2.2.2.2.1 bt550.2.2.2.2.2.2.2.2.2.1 bt550.2.2.2.2.2.2.2.2.2.2.1 bt550.2.2.2.2.2.2.2.2.2.2.2.1 bt550.2.2.2.2.2.2.2.2.2.2.2.2.1).bind fun bt567 => (bourneref1_Fold.l0 k x0 x1 (wrap64 (x6 + 1)) bt567.1 bt567.2.1 bt567.2.2.1 bt567.2.2.2.1 bt567.2.2.2.2.1 bt567.2.2.2.2.2.1 bt567.2.2.2.2.2.2.1 bt567.2.2.2.2.2.2.2.1 bt567.2.2.2.2.2.2.2.2.1 bt567.2.2.2.2.2.2.2.2.2.1 bt567.2.2.2.2.2.2.2.2.2.2.1 bt567.2.2.2.2.2.2.2.2.2.2.2.1 bt567.2.2.2.2.2.2.2.2.2.2.2.2)))) else (none)) else (some (x549000, x549001, x549002, x549003, x549004, x549005, x549006, x549007, x549008, x549009, x549010, x549011, x549012))
def bourneref1_Fold.f (k : Nat) (l0 : List (S26)) (l1 : List Int) : Option (Int × Int × Int × Int × Int × Int × Int × Int × Int × Int × Int × Int × List Int) := if 0 ≤ (wrap64 ((l1.length : Int) + 1)) then (if (wrap64 ((l1.length : Int) + 1) : Int).toNat ≤ 35184372088832 then (bourneref1_Fold.l0 k l0 l1 0 0 0 0 0 0 0 0 0 0 0 0 0 (List.replicate (wrap64 ((l1.length : Int) + 1) : Int).toNat 0)) else (none)) else (none)
set_option maxHeartbeats 8000000 in
set_option maxRecDepth 100000 in
theorem bourneref1_Fold.calls (k : Nat) (A0 : Option Addr) (c0 : Nat) (l0 : List (S26)) (A1 : Option Addr) (c1 : Nat) (l1 : List Int) (r1 : Int) (r2 : Int) (r3 : Int) (r4 : Int) (r5 : Int) (r6 : Int) (r7 : Int) (r8 : Int) (r9 : Int) (r10 : Int) (r11 : Int) (r12 : Int) (r13 : List Int) (w : World) (hr0 : Kd.C k26 w A0 l0.length l0) (hc0 : l0.length ≤ c0) (hr1 : Kd.C (Kd.int .i64) w A1 l1.length l1) (hc1 : l1.length ≤ c1) (h : bourneref1_Fold.f k l0 l1 = some (r1, r2, r3, r4, r5, r6, r7, r8, r9, r10, r11, r12, r13)) :
    Calls Try.prog 43 #[.slice A0 l0.length c0, .slice A1 l1.length c1] w fun e w' => ∃ v12_ : Value, e = .returned (.agg #[.int .i64 r1, .int .i64 r2, .int .i64 r3, .int .i64 r4, .int .i64 r5, .int .i64 r6, .int .i64 r7, .int .i64 r8, .int .i64 r9, .int .i64 r10, .int .i64 r11, .int .i64 r12, v12_]) ∧ Kd.R (Kd.int .i64) 3 w' w.heap.size (fun _ => True) v12_ r13 ∧ Below w.heap.size w w' := by
  have hu28 := Try.underlying28
  have hu26 := Try.underlying26
  have HR0 := Aside0.mk hr0
  have HC0 := Aside0.mk hc0
  clear hr0 hc0
  have HR1 := Aside0.mk hr1
  have HC1 := Aside0.mk hc1
  clear hr1 hc1
  have HB := Aside0.mk (Below.refl w.heap.size w)
  have H : (if 0 ≤ (wrap64 ((l1.length : Int) + 1)) then (if (wrap64 ((l1.length : Int) + 1) : Int).toNat ≤ 35184372088832 then (bourneref1_Fold.l0 k l0 l1 0 0 0 0 0 0 0 0 0 0 0 0 0 (List.replicate (wrap64 ((l1.length : Int) + 1) : Int).toNat 0)) else (none)) else (none)) = some (r1, r2, r3, r4, r5, r6, r7, r8, r9, r10, r11, r12, r13) := h
  clear h
  obtain ⟨ji3, hji3⟩ : ∃ j_ : Int, (wrap64 ((l1.length : Int) + 1)) = j_ := ⟨_, rfl⟩
  replace H : (if 0 ≤ (ji3) then (if (ji3 : Int).toNat ≤ 35184372088832 then (bourneref1_Fold.l0 k l0 l1 0 0 0 0 0 0 0 0 0 0 0 0 0 (List.replicate (ji3 : Int).toNat 0)) else (none)) else (none)) = some (r1, r2, r3, r4, r5, r6, r7, r8, r9, r10, r11, r12, r13) := by first | (rw [hji3] at H; exact H) | (simp only [hji3] at H ⊢; exact H)
  have hji3w : (IntKind.i64.wrap ((l1.length : Int) + 1)) = ji3 := (i64_w _).trans hji3
  by_cases c4 : 0 ≤ (ji3)
  · rw [if_pos c4] at H
    have c4b0 := eq_true c4
    have c4b1 : decide (0 ≤ (ji3)) = true := decide_eq_true c4
    clear c4
    by_cases c5 : (ji3 : Int).toNat ≤ 35184372088832
    · rw [if_pos c5] at H
      have c5b0 := eq_true c5
      have c5b1 : decide ((ji3 : Int).toNat ≤ 35184372088832) = true := decide_eq_true c5
      clear c5
      obtain ⟨y545, hy545⟩ : ∃ y_ : List Int, y_ = (List.replicate (ji3 : Int).toNat 0) := ⟨_, rfl⟩
      replace H : (bourneref1_Fold.l0 k l0 l1 0 0 0 0 0 0 0 0 0 0 0 0 0 y545) = some (r1, r2, r3, r4, r5, r6, r7, r8, r9, r10, r11, r12, r13) := by first | (rw [hy545]; with_reducible exact H) | (have H2_ := (Option.bind_some _ _).symm.trans H; rw [hy545]; with_reducible exact H2_) | (have H2_ := (Option.bind_some _ _).symm.trans H; with_reducible exact H2_) | with_reducible exact H | (rw [hy545]; exact H) | exact H
      have Ny545 := Aside0.mk hy545
      clear hy545
      have H' := Aside0.mk H
      clear H
      go_enter Try.func43, Try.ntmps43
      go_wp2_with (first | ((with_reducible refine gate_dst (N := 4) rfl ?_); refine box_event ?hg (N := 4) ?hd (cs := #[.int .i64 0, .int .i64 0, .int .i64 0, .int .i64 0, .int .i64 0, .int .i64 0, .int .i64 0, .int .i64 0, .int .i64 0, .int .i64 0, .int .i64 0, .int .i64 0, .slice none 0 0]) (t := 28) ?hr ?_; (case hd => rfl); (case hg => rfl); (case hr => first | (go_simp; done) | (go_simp; rfl)); intro gb544 hg w6 hbox hb; have n0_ := Aside0.mk (below_step (by repeat (first | (with_reducible first | exact HB.out | apply below_alloc | apply pw_below_drewN | apply below_drew1) | exact HB.out)) hb); have n1_ := Aside0.mk (hbox); have n2_ := Aside0.mk ((by rw [hg]; exact (below_size (by repeat (first | (with_reducible first | exact HB.out | apply below_alloc | apply pw_below_drewN | apply below_drew1) | exact HB.out))) : w.heap.size ≤ gb544)); have n3_ := Aside0.mk ((by rw [hg]; exact (below_size (by repeat (first | (with_reducible first | exact HB.out | apply below_alloc | apply pw_below_drewN | apply below_drew1) | exact HB.out))) : w.heap.size ≤ gb544)); clear HB; have HB := n0_; have BK544 := n1_; have GW544 := n2_; have GE544 := n3_; clear n0_ n1_ n2_ n3_; clear hb hbox hg) | ((with_reducible refine gate_dst (N := 12) rfl ?_); refine Kd.R_make (Kd.int .i64) _ 3 rfl (N := 12) rfl 22 _ _ rfl ji3 rfl rfl Try.underlying22 (.int .i64 0) 8 info3 rfl (by decide) (by omega) 0 (ok := fun _ => True) (okp := fun _ => True) rfl (fun _ hk => hk) trivial (of_decide_eq_true (by first | (with_reducible assumption) | assumption)) (Nat.le_trans (Nat.mul_le_mul_right _ (of_decide_eq_true (by first | (with_reducible assumption) | assumption) : ji3.toNat ≤ 35184372088832)) (by omega)) (Below.refl _ _) (Nat.le_refl _) ?_; intro v546 w7 ho8 hb hg_ hnew_; clear hg_ hnew_; (first | rw [← Ny545.out] at ho8 | (simp only [Int.reduceToNat] at ho8; rw [← Ny545.out] at ho8)); have n0_ := Aside0.mk (Kd.R_lower ho8 (below_size (by repeat (first | (with_reducible first | exact HB.out | apply below_alloc | apply pw_below_drewN | apply below_drew1 | refine below_set ?_ GE544.out) | exact HB.out)))); have n1_ := Aside0.mk (blk_below (g := gb544) (o := .cells #[.int .i64 0, .int .i64 0, .int .i64 0, .int .i64 0, .int .i64 0, .int .i64 0, .int .i64 0, .int .i64 0, .int .i64 0, .int .i64 0, .int .i64 0, .int .i64 0, .slice none 0 0] 28 (0, 0)) (by (with_reducible repeat (first | refine blk_drewN ?_ _ | refine blk_drew ?_ | refine blk_alloc ?_ _)); exact BK544.out) hb); have n2_ := Aside0.mk (below_step (by repeat (first | (with_reducible first | exact HB.out | apply below_alloc | apply pw_below_drewN | apply below_drew1 | refine below_set ?_ GE544.out) | exact HB.out)) hb); clear BK544; clear HB; have HO547 := n0_; have BK544 := n1_; have HB := n2_; clear n0_ n1_ n2_; clear hb ho8; obtain ⟨Ao9, co9, eo9⟩ := Kd.R_slice HO547.out; subst eo9) | ((with_reducible refine gate_dst (N := 5) rfl ?_); refine box_event ?hg (N := 5) ?hd (cs := #[.int .i64 0, .int .i64 0, .int .i64 0, .int .i64 0, .int .i64 0, .int .i64 0, .int .i64 0, .int .i64 0, .int .i64 0, .int .i64 0, .int .i64 0, .int .i64 0, .slice none 0 0]) (t := 28) ?hr ?_; (case hd => rfl); (case hg => rfl); (case hr => first | (go_simp; done) | (go_simp; rfl)); intro gb548 hg w10 hbox hb; have n0_ := Aside0.mk (Kd.R_below (by (with_reducible repeat (first | apply Kd.R_alloc | apply Kd.R_drewN | apply Kd.R_drew)); exact HO547.out) hb); have n1_ := Aside0.mk (blk_below (g := gb544) (o := .cells #[.int .i64 0, .int .i64 0, .int .i64 0, .int .i64 0, .int .i64 0, .int .i64 0, .int .i64 0, .int .i64 0, .int .i64 0, .int .i64 0, .int .i64 0, .int .i64 0, .slice none 0 0] 28 (0, 0)) (by (with_reducible repeat (first | refine blk_drewN ?_ _ | refine blk_drew ?_ | refine blk_alloc ?_ _)); exact BK544.out) hb); have n2_ := Aside0.mk (below_step (by repeat (first | (with_reducible first | exact HB.out | apply below_alloc | apply pw_below_drewN | apply below_drew1 | refine below_set ?_ GE544.out) | exact HB.out)) hb); have n3_ := Aside0.mk (hbox); have n4_ := Aside0.mk ((by rw [hg]; exact (below_size (by repeat (first | (with_reducible first | exact HB.out | apply below_alloc | apply pw_below_drewN | apply below_drew1 | refine below_set ?_ GE544.out) | exact HB.out))) : w.heap.size ≤ gb548)); have n5_ := Aside0.mk ((by rw [hg]; exact (below_size (by repeat (first | (with_reducible first | exact HB.out | apply below_alloc | apply pw_below_drewN | apply below_drew1 | refine below_set ?_ GE544.out) | exact HB.out))) : w.heap.size ≤ gb548)); have n6_ := Aside0.mk ((by rw [hg]; exact Nat.ne_of_lt (blk_lt (g := gb544) (o := .cells #[.int .i64 0, .int .i64 0, .int .i64 0, .int .i64 0, .int .i64 0, .int .i64 0, .int .i64 0, .int .i64 0, .int .i64 0, .int .i64 0, .int .i64 0, .int .i64 0, .slice none 0 0] 28 (0, 0)) (by (with_reducible repeat (first | refine blk_drewN ?_ _ | refine blk_drew ?_ | refine blk_alloc ?_ _)); exact BK544.out)) : gb544 ≠ gb548)); have n7_ := Aside0.mk ((by rw [hg]; exact Nat.ne_of_gt (blk_lt (g := gb544) (o := .cells #[.int .i64 0, .int .i64 0, .int .i64 0, .int .i64 0, .int .i64 0, .int .i64 0, .int .i64 0, .int .i64 0, .int .i64 0, .int .i64 0, .int .i64 0, .int .i64 0, .slice none 0 0] 28 (0, 0)) (by (with_reducible repeat (first | refine blk_drewN ?_ _ | refine blk_drew ?_ | refine blk_alloc ?_ _)); exact BK544.out)) : gb548 ≠ gb544)); clear HO547; clear BK544; clear HB; have HO547 := n0_; have BK544 := n1_; have HB := n2_; have BK548 := n3_; have GW548 := n4_; have GE548 := n5_; have NB544_548 := n6_; have NB548_544 := n7_; clear n0_ n1_ n2_ n3_ n4_ n5_ n6_ n7_; clear hb hbox hg; have hnb11 := NB548_544.out; have hnc11 := NB544_548.out; have hcz12_0 : w10.cell? ⟨gb548, 0, none⟩ = some (.int .i64 0) := (blk_cell BK548.out 0).trans rfl; have hcz12_1 : w10.cell? ⟨gb548, 1, none⟩ = some (.int .i64 0) := (blk_cell BK548.out 1).trans rfl; have hcz12_2 : w10.cell? ⟨gb548, 2, none⟩ = some (.int .i64 0) := (blk_cell BK548.out 2).trans rfl; have hcz12_3 : w10.cell? ⟨gb548, 3, none⟩ = some (.int .i64 0) := (blk_cell BK548.out 3).trans rfl; have hcz12_4 : w10.cell? ⟨gb548, 4, none⟩ = some (.int .i64 0) := (blk_cell BK548.out 4).trans rfl; have hcz12_5 : w10.cell? ⟨gb548, 5, none⟩ = some (.int .i64 0) := (blk_cell BK548.out 5).trans rfl; have hcz12_6 : w10.cell? ⟨gb548, 6, none⟩ = some (.int .i64 0) := (blk_cell BK548.out 6).trans rfl; have hcz12_7 : w10.cell? ⟨gb548, 7, none⟩ = some (.int .i64 0) := (blk_cell BK548.out 7).trans rfl; have hcz12_8 : w10.cell? ⟨gb548, 8, none⟩ = some (.int .i64 0) := (blk_cell BK548.out 8).trans rfl; have hcz12_9 : w10.cell? ⟨gb548, 9, none⟩ = some (.int .i64 0) := (blk_cell BK548.out 9).trans rfl; have hcz12_10 : w10.cell? ⟨gb548, 10, none⟩ = some (.int .i64 0) := (blk_cell BK548.out 10).trans rfl; have hcz12_11 : w10.cell? ⟨gb548, 11, none⟩ = some (.int .i64 0) := (blk_cell BK548.out 11).trans rfl; have hcz12_12 : w10.cell? ⟨gb548, 12, none⟩ = some (.slice none 0 0) := (blk_cell BK548.out 12).trans rfl; have hfz12_0 := blk_frozen BK548.out 0; have hfz12_1 := blk_frozen BK548.out 1; have hfz12_2 := blk_frozen BK548.out 2; have hfz12_3 := blk_frozen BK548.out 3; have hfz12_4 := blk_frozen BK548.out 4; have hfz12_5 := blk_frozen BK548.out 5; have hfz12_6 := blk_frozen BK548.out 6; have hfz12_7 := blk_frozen BK548.out 7; have hfz12_8 := blk_frozen BK548.out 8; have hfz12_9 := blk_frozen BK548.out 9; have hfz12_10 := blk_frozen BK548.out 10; have hfz12_11 := blk_frozen BK548.out 11; have hfz12_12 := blk_frozen BK548.out 12))
      go_loopg [6] k (fun kq v6 w' => ∃ (x6_1 : Int) (x549000_1 : Int) (x549001_1 : Int) (x549002_1 : Int) (x549003_1 : Int) (x549004_1 : Int) (x549005_1 : Int) (x549006_1 : Int) (x549007_1 : Int) (x549008_1 : Int) (x549009_1 : Int) (x549010_1 : Int) (x549011_1 : Int) (x549012_1 : List Int) (u549012 : Value), v6 = .int .i64 x6_1 ∧ Aside0 (bourneref1_Fold.l0 kq l0 l1 x6_1 x549000_1 x549001_1 x549002_1 x549003_1 x549004_1 x549005_1 x549006_1 x549007_1 x549008_1 x549009_1 x549010_1 x549011_1 x549012_1 = some (r1, r2, r3, r4, r5, r6, r7, r8, r9, r10, r11, r12, r13)) ∧ Aside0 (kq ≤ k) ∧ Aside0 (Kd.R (Kd.int .i64) 3 w' w.heap.size (fun _ => True) u549012 x549012_1) ∧ Aside0 (w'.heap[gb544]? = some (.cells #[.int .i64 0, .int .i64 0, .int .i64 0, .int .i64 0, .int .i64 0, .int .i64 0, .int .i64 0, .int .i64 0, .int .i64 0, .int .i64 0, .int .i64 0, .int .i64 0, (.slice none 0 0)] 28 (0, 0))) ∧ Aside0 (w'.heap[gb548]? = some (.cells #[.int .i64 x549000_1, .int .i64 x549001_1, .int .i64 x549002_1, .int .i64 x549003_1, .int .i64 x549004_1, .int .i64 x549005_1, .int .i64 x549006_1, .int .i64 x549007_1, .int .i64 x549008_1, .int .i64 x549009_1, .int .i64 x549010_1, .int .i64 x549011_1, u549012] 28 (0, 0))) ∧ Aside0 (Below w.heap.size w w'))
      case atStart => exact ⟨(0), (0), (0), (0), (0), (0), (0), (0), (0), (0), (0), (0), (0), (y545), (.slice Ao9 y545.length co9), (by first | rfl | (simp; done) | (simp [*]; done)), H', ⟨Nat.le_refl _⟩, ⟨by (with_reducible repeat (first | apply Kd.R_alloc | apply Kd.R_drewN | apply Kd.R_drew)); exact Kd.R_mono (Kd.R_far (p := ⟨gb548, 12, none⟩) (Kd.R_far (p := ⟨gb548, 11, none⟩) (Kd.R_far (p := ⟨gb548, 10, none⟩) (Kd.R_far (p := ⟨gb548, 9, none⟩) (Kd.R_far (p := ⟨gb548, 8, none⟩) (Kd.R_far (p := ⟨gb548, 7, none⟩) (Kd.R_far (p := ⟨gb548, 6, none⟩) (Kd.R_far (p := ⟨gb548, 5, none⟩) (Kd.R_far (p := ⟨gb548, 4, none⟩) (Kd.R_far (p := ⟨gb548, 3, none⟩) (Kd.R_far (p := ⟨gb548, 2, none⟩) (Kd.R_far (p := ⟨gb548, 1, none⟩) (Kd.R_far (p := ⟨gb548, 0, none⟩) (Kd.R_types HO547.out BK548.out (by decide)) (fun _ hk => hk.2) (.int .i64 0)) (fun _ hk => hk.2) (.int .i64 0)) (fun _ hk => hk.2) (.int .i64 0)) (fun _ hk => hk.2) (.int .i64 0)) (fun _ hk => hk.2) (.int .i64 0)) (fun _ hk => hk.2) (.int .i64 0)) (fun _ hk => hk.2) (.int .i64 0)) (fun _ hk => hk.2) (.int .i64 0)) (fun _ hk => hk.2) (.int .i64 0)) (fun _ hk => hk.2) (.int .i64 0)) (fun _ hk => hk.2) (.int .i64 0)) (fun _ hk => hk.2) (.int .i64 0)) (fun _ hk => hk.2) (.slice Ao9 y545.length co9)) (fun _ hk => trivial)⟩, ⟨by (with_reducible repeat (first | refine blk_drewN ?_ _ | refine blk_drew ?_ | refine blk_alloc ?_ _)); refine blk_far ?_ NB544_548.out _; (with_reducible repeat (first | refine blk_drewN ?_ _ | refine blk_drew ?_ | refine blk_alloc ?_ _)); refine blk_far ?_ NB544_548.out _; (with_reducible repeat (first | refine blk_drewN ?_ _ | refine blk_drew ?_ | refine blk_alloc ?_ _)); refine blk_far ?_ NB544_548.out _; (with_reducible repeat (first | refine blk_drewN ?_ _ | refine blk_drew ?_ | refine blk_alloc ?_ _)); refine blk_far ?_ NB544_548.out _; (with_reducible repeat (first | refine blk_drewN ?_ _ | refine blk_drew ?_ | refine blk_alloc ?_ _)); refine blk_far ?_ NB544_548.out _; (with_reducible repeat (first | refine blk_drewN ?_ _ | refine blk_drew ?_ | refine blk_alloc ?_ _)); refine blk_far ?_ NB544_548.out _; (with_reducible repeat (first | refine blk_drewN ?_ _ | refine blk_drew ?_ | refine blk_alloc ?_ _)); refine blk_far ?_ NB544_548.out _; (with_reducible repeat (first | refine blk_drewN ?_ _ | refine blk_drew ?_ | refine blk_alloc ?_ _)); refine blk_far ?_ NB544_548.out _; (with_reducible repeat (first | refine blk_drewN ?_ _ | refine blk_drew ?_ | refine blk_alloc ?_ _)); refine blk_far ?_ NB544_548.out _; (with_reducible repeat (first | refine blk_drewN ?_ _ | refine blk_drew ?_ | refine blk_alloc ?_ _)); refine blk_far ?_ NB544_548.out _; (with_reducible repeat (first | refine blk_drewN ?_ _ | refine blk_drew ?_ | refine blk_alloc ?_ _)); refine blk_far ?_ NB544_548.out _; (with_reducible repeat (first | refine blk_drewN ?_ _ | refine blk_drew ?_ | refine blk_alloc ?_ _)); refine blk_far ?_ NB544_548.out _; (with_reducible repeat (first | refine blk_drewN ?_ _ | refine blk_drew ?_ | refine blk_alloc ?_ _)); refine blk_far ?_ NB544_548.out _; (with_reducible repeat (first | refine blk_drewN ?_ _ | refine blk_drew ?_ | refine blk_alloc ?_ _)); exact BK544.out⟩, ⟨by (with_reducible repeat (first | refine blk_drewN ?_ _ | refine blk_drew ?_ | refine blk_alloc ?_ _)); refine blk_put (cs := #[.int .i64 0, .int .i64 0, .int .i64 0, .int .i64 0, .int .i64 0, .int .i64 0, .int .i64 0, .int .i64 0, .int .i64 0, .int .i64 0, .int .i64 0, .int .i64 0, .slice none 0 0]) ?_ 12 _ rfl; (with_reducible repeat (first | refine blk_drewN ?_ _ | refine blk_drew ?_ | refine blk_alloc ?_ _)); refine blk_put (cs := #[.int .i64 0, .int .i64 0, .int .i64 0, .int .i64 0, .int .i64 0, .int .i64 0, .int .i64 0, .int .i64 0, .int .i64 0, .int .i64 0, .int .i64 0, .int .i64 0, .slice none 0 0]) ?_ 11 _ rfl; (with_reducible repeat (first | refine blk_drewN ?_ _ | refine blk_drew ?_ | refine blk_alloc ?_ _)); refine blk_put (cs := #[.int .i64 0, .int .i64 0, .int .i64 0, .int .i64 0, .int .i64 0, .int .i64 0, .int .i64 0, .int .i64 0, .int .i64 0, .int .i64 0, .int .i64 0, .int .i64 0, .slice none 0 0]) ?_ 10 _ rfl; (with_reducible repeat (first | refine blk_drewN ?_ _ | refine blk_drew ?_ | refine blk_alloc ?_ _)); refine blk_put (cs := #[.int .i64 0, .int .i64 0, .int .i64 0, .int .i64 0, .int .i64 0, .int .i64 0, .int .i64 0, .int .i64 0, .int .i64 0, .int .i64 0, .int .i64 0, .int .i64 0, .slice none 0 0]) ?_ 9 _ rfl; (with_reducible repeat (first | refine blk_drewN ?_ _ | refine blk_drew ?_ | refine blk_alloc ?_ _)); refine blk_put (cs := #[.int .i64 0, .int .i64 0, .int .i64 0, .int .i64 0, .int .i64 0, .int .i64 0, .int .i64 0, .int .i64 0, .int .i64 0, .int .i64 0, .int .i64 0, .int .i64 0, .slice none 0 0]) ?_ 8 _ rfl; (with_reducible repeat (first | refine blk_drewN ?_ _ | refine blk_drew ?_ | refine blk_alloc ?_ _)); refine blk_put (cs := #[.int .i64 0, .int .i64 0, .int .i64 0, .int .i64 0, .int .i64 0, .int .i64 0, .int .i64 0, .int .i64 0, .int .i64 0, .int .i64 0, .int .i64 0, .int .i64 0, .slice none 0 0]) ?_ 7 _ rfl; (with_reducible repeat (first | refine blk_drewN ?_ _ | refine blk_drew ?_ | refine blk_alloc ?_ _)); refine blk_put (cs := #[.int .i64 0, .int .i64 0, .int .i64 0, .int .i64 0, .int .i64 0, .int .i64 0, .int .i64 0, .int .i64 0, .int .i64 0, .int .i64 0, .int .i64 0, .int .i64 0, .slice none 0 0]) ?_ 6 _ rfl; (with_reducible repeat (first | refine blk_drewN ?_ _ | refine blk_drew ?_ | refine blk_alloc ?_ _)); refine blk_put (cs := #[.int .i64 0, .int .i64 0, .int .i64 0, .int .i64 0, .int .i64 0, .int .i64 0, .int .i64 0, .int .i64 0, .int .i64 0, .int .i64 0, .int .i64 0, .int .i64 0, .slice none 0 0]) ?_ 5 _ rfl; (with_reducible repeat (first | refine blk_drewN ?_ _ | refine blk_drew ?_ | refine blk_alloc ?_ _)); refine blk_put (cs := #[.int .i64 0, .int .i64 0, .int .i64 0, .int .i64 0, .int .i64 0, .int .i64 0, .int .i64 0, .int .i64 0, .int .i64 0, .int .i64 0, .int .i64 0, .int .i64 0, .slice none 0 0]) ?_ 4 _ rfl; (with_reducible repeat (first | refine blk_drewN ?_ _ | refine blk_drew ?_ | refine blk_alloc ?_ _)); refine blk_put (cs := #[.int .i64 0, .int .i64 0, .int .i64 0, .int .i64 0, .int .i64 0, .int .i64 0, .int .i64 0, .int .i64 0, .int .i64 0, .int .i64 0, .int .i64 0, .int .i64 0, .slice none 0 0]) ?_ 3 _ rfl; (with_reducible repeat (first | refine blk_drewN ?_ _ | refine blk_drew ?_ | refine blk_alloc ?_ _)); refine blk_put (cs := #[.int .i64 0, .int .i64 0, .int .i64 0, .int .i64 0, .int .i64 0, .int .i64 0, .int .i64 0, .int .i64 0, .int .i64 0, .int .i64 0, .int .i64 0, .int .i64 0, .slice none 0 0]) ?_ 2 _ rfl; (with_reducible repeat (first | refine blk_drewN ?_ _ | refine blk_drew ?_ | refine blk_alloc ?_ _)); refine blk_put (cs := #[.int .i64 0, .int .i64 0, .int .i64 0, .int .i64 0, .int .i64 0, .int .i64 0, .int .i64 0, .int .i64 0, .int .i64 0, .int .i64 0, .int .i64 0, .int .i64 0, .slice none 0 0]) ?_ 1 _ rfl; (with_reducible repeat (first | refine blk_drewN ?_ _ | refine blk_drew ?_ | refine blk_alloc ?_ _)); refine blk_put (cs := #[.int .i64 0, .int .i64 0, .int .i64 0, .int .i64 0, .int .i64 0, .int .i64 0, .int .i64 0, .int .i64 0, .int .i64 0, .int .i64 0, .int .i64 0, .int .i64 0, .slice none 0 0]) ?_ 0 _ rfl; (with_reducible repeat (first | refine blk_drewN ?_ _ | refine blk_drew ?_ | refine blk_alloc ?_ _)); exact BK548.out⟩, ⟨by repeat (first | (with_reducible first | exact HB.out | apply below_alloc | apply pw_below_drewN | apply below_drew1 | refine below_set ?_ GE544.out | refine below_set ?_ GE548.out) | exact HB.out)⟩⟩
      case round =>
        clear H'
        try clear c1
        try clear p2
        try clear c4
        try clear c4b0
        try clear c4b1
        try clear c5
        try clear c5b0
        try clear c5b1
        try clear p6
        try clear c11
        try clear hcz12_0
        try clear hcz12_1
        try clear hcz12_10
        try clear hcz12_11
        try clear hcz12_12
        try clear hcz12_2
        try clear hcz12_3
        try clear hcz12_4
        try clear hcz12_5
        try clear hcz12_6
        try clear hcz12_7
        try clear hcz12_8
        try clear hcz12_9
        try clear hfz12_0
        try clear hfz12_1
        try clear hfz12_10
        try clear hfz12_11
        try clear hfz12_12
        try clear hfz12_2
        try clear hfz12_3
        try clear hfz12_4
        try clear hfz12_5
        try clear hfz12_6
        try clear hfz12_7
        try clear hfz12_8
        try clear hfz12_9
        obtain ⟨x6_1, x549000_1, x549001_1, x549002_1, x549003_1, x549004_1, x549005_1, x549006_1, x549007_1, x549008_1, x549009_1, x549010_1, x549011_1, x549012_1, u549012, rfl, HA, HK1, HO_549012, BK544, BK548, HB⟩ := hrel
        cases gk with
        | zero => exact absurd HA.out (by simp [bourneref1_Fold.l0])
        | succ k1 =>
          have H := HA.out
          clear HA
          simp only [bourneref1_Fold.l0] at H
          by_cases c13 : x6_1 < (l0.length : Int)
          · rw [if_pos c13] at H
            have c13b0 : decide (x6_1 < (l0.length : Int)) = true := decide_eq_true c13
            clear c13
            by_cases c14 : 0 ≤ x6_1
            · rw [if_pos c14] at H
              have c14b0 : decide (0 ≤ x6_1) = true := decide_eq_true c14
              clear c14
              replace H := Option.bind_eq_some_iff.mp H
              obtain ⟨⟨t550, t551, t552, t553, t554, t555, t556, t557, t558, t559, t560, t561, t562, t565⟩, A150, H⟩ := H
              replace H : (if x549000_1 = 0 then (bourneref1_Fold.l0 k1 l0 l1 (wrap64 (x6_1 + 1)) t550 t551 t552 t553 t554 t555 t556 t557 t558 t559 t560 t561 t562) else ((bourneref1_two.f x549000_1 x549001_1 x549002_1 x549003_1 x549004_1 x549005_1 x549006_1 x549007_1 x549008_1 x549009_1 x549010_1 x549011_1 x549012_1 t550 t551 t552 t553 t554 t555 t556 t557 t558 t559 t560 t561 t562).bind fun bt567 => (bourneref1_Fold.l0 k1 l0 l1 (wrap64 (x6_1 + 1)) bt567.1 bt567.2.1 bt567.2.2.1 bt567.2.2.2.1 bt567.2.2.2.2.1 bt567.2.2.2.2.2.1 bt567.2.2.2.2.2.2.1 bt567.2.2.2.2.2.2.2.1 bt567.2.2.2.2.2.2.2.2.1 bt567.2.2.2.2.2.2.2.2.2.1 bt567.2.2.2.2.2.2.2.2.2.2.1 bt567.2.2.2.2.2.2.2.2.2.2.2.1 bt567.2.2.2.2.2.2.2.2.2.2.2.2))) = some (r1, r2, r3, r4, r5, r6, r7, r8, r9, r10, r11, r12, r13) := H
              have A15 := Aside0.mk A150
              clear A150
              by_cases c16 : x549000_1 = 0
              · rw [if_pos c16] at H
                have c16b0 : (x549000_1 == 0) = true := beq_iff_eq.mpr c16
                have c16b1 : (x549000_1 != 0) = false := bne_eq_false_iff_eq.mpr c16
                clear c16
                have H' := Aside0.mk H
                clear H
                have p549 : 0 ≤ (x6_1 : Int) := of_decide_eq_true (by first | (with_reducible assumption) | assumption)
                have q549 : x6_1 < (l0.length : Int) := of_decide_eq_true (by first | (with_reducible assumption) | assumption)
                obtain ⟨ad549, e549, hx549_0, hx549_1, hx549_2, hx549_3⟩ := at_T26 HR0.out x6_1 p549 q549
                cases e549
                replace hx549_0 := (HB.out.cell (World.block_lt_of_cell? w _ hx549_0)).trans hx549_0
                replace hx549_1 := (HB.out.cell (World.block_lt_of_cell? w _ hx549_1)).trans hx549_1
                replace hx549_2 := (HB.out.cell (World.block_lt_of_cell? w _ hx549_2)).trans hx549_2
                replace hx549_3 := (HB.out.cell (World.block_lt_of_cell? w _ hx549_3)).trans hx549_3
                replace p549 := eq_true p549
                replace q549 := eq_true q549
                go_wp2_with (first | ((with_reducible refine gate_callee (f := 29) rfl ?_); refine goesL_ (some 26) rfl rfl Try.func29 (by kernel_rfl) rfl #[.agg #[.int .i64 ((rd_T26 l0 x6_1).f0), .int .i64 ((rd_T26 l0 x6_1).f1), .int .i64 ((rd_T26 l0 x6_1).f2), .int .i64 ((rd_T26 l0 x6_1).f3)], .slice A1 l1.length c1] rfl (by (try simp only [List.map_toArray, List.map_cons, List.map_nil]); first | done | rfl | (simp only [List.length_drop, List.length_take]; rfl)) ?_; (with_reducible refine (bourneref1_One.calls ((rd_T26 l0 x6_1).f0) ((rd_T26 l0 x6_1).f1) ((rd_T26 l0 x6_1).f2) ((rd_T26 l0 x6_1).f3) _ _ l1 t550 t551 t552 t553 t554 t555 t556 t557 t558 t559 t560 t561 t562 t565 _ ?side1 ?side2 A15.out).mono ?_); (case side1 => repeat (first | exact (Kd.C_below HR1.out HB.out) | (with_reducible refine Kd.C_alloc ?_ _) | (with_reducible refine Kd.C_drewN ?_ _) | (with_reducible refine Kd.C_drew ?_))); (case side2 => exact HC1.out); rintro e w17 ⟨v563, rfl, ho0, hb⟩; refine ⟨_, rfl, ?_⟩; have n0_ := Aside0.mk (Kd.R_elder' (by (with_reducible repeat (first | apply Kd.R_alloc | apply Kd.R_drewN | apply Kd.R_drew)); exact HO_549012.out) (Kd.R_base ho0) hb); have n1_ := Aside0.mk (Kd.R_lower (Kd.R_new' ho0 (Kd.R_lt (by (with_reducible repeat (first | apply Kd.R_alloc | apply Kd.R_drewN | apply Kd.R_drew)); exact HO_549012.out))) (below_size (by repeat (first | (with_reducible first | exact HB.out | apply below_alloc | apply pw_below_drewN | apply below_drew1 | refine below_set ?_ GE544.out | refine below_set ?_ GE548.out) | exact HB.out)))); have n2_ := Aside0.mk (blk_below (g := gb544) (o := .cells #[.int .i64 0, .int .i64 0, .int .i64 0, .int .i64 0, .int .i64 0, .int .i64 0, .int .i64 0, .int .i64 0, .int .i64 0, .int .i64 0, .int .i64 0, .int .i64 0, .slice none 0 0] 28 (0, 0)) (by (with_reducible repeat (first | refine blk_drewN ?_ _ | refine blk_drew ?_ | refine blk_alloc ?_ _)); exact BK544.out) hb); have n3_ := Aside0.mk (blk_below (g := gb548) (o := .cells #[.int .i64 x549000_1, .int .i64 x549001_1, .int .i64 x549002_1, .int .i64 x549003_1, .int .i64 x549004_1, .int .i64 x549005_1, .int .i64 x549006_1, .int .i64 x549007_1, .int .i64 x549008_1, .int .i64 x549009_1, .int .i64 x549010_1, .int .i64 x549011_1, u549012] 28 (0, 0)) (by (with_reducible repeat (first | refine blk_drewN ?_ _ | refine blk_drew ?_ | refine blk_alloc ?_ _)); exact BK548.out) hb); have n4_ := Aside0.mk (below_step (by repeat (first | (with_reducible first | exact HB.out | apply below_alloc | apply pw_below_drewN | apply below_drew1 | refine below_set ?_ GE544.out | refine below_set ?_ GE548.out) | exact HB.out)) hb); clear HO_549012; clear BK544; clear BK548; clear HB; have HO_549012 := n0_; have HO564 := n1_; have BK544 := n2_; have BK548 := n3_; have HB := n4_; clear n0_ n1_ n2_ n3_ n4_; (try clear hb); (try clear hb2); (try clear hk); (try clear hi); (try clear ho0)) | ((with_reducible refine gate_dst (N := 7) rfl ?_); refine box_event ?hg (N := 7) ?hd (cs := #[.int .i64 0, .int .i64 0, .int .i64 0, .int .i64 0, .int .i64 0, .int .i64 0, .int .i64 0, .int .i64 0, .int .i64 0, .int .i64 0, .int .i64 0, .int .i64 0, .slice none 0 0]) (t := 28) ?hr ?_; (case hd => rfl); (case hg => rfl); (case hr => first | (go_simp; done) | (go_simp; rfl)); intro gb566 hg w18 hbox hb; have n0_ := Aside0.mk (Kd.R_below (by (with_reducible repeat (first | apply Kd.R_alloc | apply Kd.R_drewN | apply Kd.R_drew)); exact HO_549012.out) hb); have n1_ := Aside0.mk (Kd.R_below (by (with_reducible repeat (first | apply Kd.R_alloc | apply Kd.R_drewN | apply Kd.R_drew)); exact HO564.out) hb); have n2_ := Aside0.mk (blk_below (g := gb544) (o := .cells #[.int .i64 0, .int .i64 0, .int .i64 0, .int .i64 0, .int .i64 0, .int .i64 0, .int .i64 0, .int .i64 0, .int .i64 0, .int .i64 0, .int .i64 0, .int .i64 0, .slice none 0 0] 28 (0, 0)) (by (with_reducible repeat (first | refine blk_drewN ?_ _ | refine blk_drew ?_ | refine blk_alloc ?_ _)); exact BK544.out) hb); have n3_ := Aside0.mk (blk_below (g := gb548) (o := .cells #[.int .i64 x549000_1, .int .i64 x549001_1, .int .i64 x549002_1, .int .i64 x549003_1, .int .i64 x549004_1, .int .i64 x549005_1, .int .i64 x549006_1, .int .i64 x549007_1, .int .i64 x549008_1, .int .i64 x549009_1, .int .i64 x549010_1, .int .i64 x549011_1, u549012] 28 (0, 0)) (by (with_reducible repeat (first | refine blk_drewN ?_ _ | refine blk_drew ?_ | refine blk_alloc ?_ _)); exact BK548.out) hb); have n4_ := Aside0.mk (below_step (by repeat (first | (with_reducible first | exact HB.out | apply below_alloc | apply pw_below_drewN | apply below_drew1 | refine below_set ?_ GE544.out | refine below_set ?_ GE548.out) | exact HB.out)) hb); have n5_ := Aside0.mk (hbox); have n6_ := Aside0.mk ((by rw [hg]; exact (below_size (by repeat (first | (with_reducible first | exact HB.out | apply below_alloc | apply pw_below_drewN | apply below_drew1 | refine below_set ?_ GE544.out | refine below_set ?_ GE548.out) | exact HB.out))) : w.heap.size ≤ gb566)); have n7_ := Aside0.mk ((by rw [hg]; exact (below_size (by repeat (first | (with_reducible first | exact HB.out | apply below_alloc | apply pw_below_drewN | apply below_drew1 | refine below_set ?_ GE544.out | refine below_set ?_ GE548.out) | exact HB.out))) : w.heap.size ≤ gb566)); have n8_ := Aside0.mk ((by rw [hg]; exact Nat.ne_of_lt (blk_lt (g := gb544) (o := .cells #[.int .i64 0, .int .i64 0, .int .i64 0, .int .i64 0, .int .i64 0, .int .i64 0, .int .i64 0, .int .i64 0, .int .i64 0, .int .i64 0, .int .i64 0, .int .i64 0, .slice none 0 0] 28 (0, 0)) (by (with_reducible repeat (first | refine blk_drewN ?_ _ | refine blk_drew ?_ | refine blk_alloc ?_ _)); exact BK544.out)) : gb544 ≠ gb566)); have n9_ := Aside0.mk ((by rw [hg]; exact Nat.ne_of_gt (blk_lt (g := gb544) (o := .cells #[.int .i64 0, .int .i64 0, .int .i64 0, .int .i64 0, .int .i64 0, .int .i64 0, .int .i64 0, .int .i64 0, .int .i64 0, .int .i64 0, .int .i64 0, .int .i64 0, .slice none 0 0] 28 (0, 0)) (by (with_reducible repeat (first | refine blk_drewN ?_ _ | refine blk_drew ?_ | refine blk_alloc ?_ _)); exact BK544.out)) : gb566 ≠ gb544)); have n10_ := Aside0.mk ((by rw [hg]; exact Nat.ne_of_lt (blk_lt (g := gb548) (o := .cells #[.int .i64 x549000_1, .int .i64 x549001_1, .int .i64 x549002_1, .int .i64 x549003_1, .int .i64 x549004_1, .int .i64 x549005_1, .int .i64 x549006_1, .int .i64 x549007_1, .int .i64 x549008_1, .int .i64 x549009_1, .int .i64 x549010_1, .int .i64 x549011_1, u549012] 28 (0, 0)) (by (with_reducible repeat (first | refine blk_drewN ?_ _ | refine blk_drew ?_ | refine blk_alloc ?_ _)); exact BK548.out)) : gb548 ≠ gb566)); have n11_ := Aside0.mk ((by rw [hg]; exact Nat.ne_of_gt (blk_lt (g := gb548) (o := .cells #[.int .i64 x549000_1, .int .i64 x549001_1, .int .i64 x549002_1, .int .i64 x549003_1, .int .i64 x549004_1, .int .i64 x549005_1, .int .i64 x549006_1, .int .i64 x549007_1, .int .i64 x549008_1, .int .i64 x549009_1, .int .i64 x549010_1, .int .i64 x549011_1, u549012] 28 (0, 0)) (by (with_reducible repeat (first | refine blk_drewN ?_ _ | refine blk_drew ?_ | refine blk_alloc ?_ _)); exact BK548.out)) : gb566 ≠ gb548)); clear HO_549012; clear HO564; clear BK544; clear BK548; clear HB; have HO_549012 := n0_; have HO564 := n1_; have BK544 := n2_; have BK548 := n3_; have HB := n4_; have BK566 := n5_; have GW566 := n6_; have GE566 := n7_; have NB544_566 := n8_; have NB566_544 := n9_; have NB548_566 := n10_; have NB566_548 := n11_; clear n0_ n1_ n2_ n3_ n4_ n5_ n6_ n7_ n8_ n9_ n10_ n11_; clear hb hbox hg; have hnb19 := NB566_544.out; have hnc19 := NB544_566.out; have hnb20 := NB566_548.out; have hnc20 := NB548_566.out; have hcz21_0 : w18.cell? ⟨gb566, 0, none⟩ = some (.int .i64 0) := (blk_cell BK566.out 0).trans rfl; have hcz21_1 : w18.cell? ⟨gb566, 1, none⟩ = some (.int .i64 0) := (blk_cell BK566.out 1).trans rfl; have hcz21_2 : w18.cell? ⟨gb566, 2, none⟩ = some (.int .i64 0) := (blk_cell BK566.out 2).trans rfl; have hcz21_3 : w18.cell? ⟨gb566, 3, none⟩ = some (.int .i64 0) := (blk_cell BK566.out 3).trans rfl; have hcz21_4 : w18.cell? ⟨gb566, 4, none⟩ = some (.int .i64 0) := (blk_cell BK566.out 4).trans rfl; have hcz21_5 : w18.cell? ⟨gb566, 5, none⟩ = some (.int .i64 0) := (blk_cell BK566.out 5).trans rfl; have hcz21_6 : w18.cell? ⟨gb566, 6, none⟩ = some (.int .i64 0) := (blk_cell BK566.out 6).trans rfl; have hcz21_7 : w18.cell? ⟨gb566, 7, none⟩ = some (.int .i64 0) := (blk_cell BK566.out 7).trans rfl; have hcz21_8 : w18.cell? ⟨gb566, 8, none⟩ = some (.int .i64 0) := (blk_cell BK566.out 8).trans rfl; have hcz21_9 : w18.cell? ⟨gb566, 9, none⟩ = some (.int .i64 0) := (blk_cell BK566.out 9).trans rfl; have hcz21_10 : w18.cell? ⟨gb566, 10, none⟩ = some (.int .i64 0) := (blk_cell BK566.out 10).trans rfl; have hcz21_11 : w18.cell? ⟨gb566, 11, none⟩ = some (.int .i64 0) := (blk_cell BK566.out 11).trans rfl; have hcz21_12 : w18.cell? ⟨gb566, 12, none⟩ = some (.slice none 0 0) := (blk_cell BK566.out 12).trans rfl; have hfz21_0 := blk_frozen BK566.out 0; have hfz21_1 := blk_frozen BK566.out 1; have hfz21_2 := blk_frozen BK566.out 2; have hfz21_3 := blk_frozen BK566.out 3; have hfz21_4 := blk_frozen BK566.out 4; have hfz21_5 := blk_frozen BK566.out 5; have hfz21_6 := blk_frozen BK566.out 6; have hfz21_7 := blk_frozen BK566.out 7; have hfz21_8 := blk_frozen BK566.out 8; have hfz21_9 := blk_frozen BK566.out 9; have hfz21_10 := blk_frozen BK566.out 10; have hfz21_11 := blk_frozen BK566.out 11; have hfz21_12 := blk_frozen BK566.out 12; obtain ⟨Ao22, co22, eo22⟩ := Kd.R_slice HO564.out; subst eo22; have hnb23 := NB548_544.out; have hnc23 := NB544_548.out; have hcz24_0 : w18.cell? ⟨gb548, 0, none⟩ = some (.int .i64 x549000_1) := (blk_cell BK548.out 0).trans rfl; have hcz24_1 : w18.cell? ⟨gb548, 1, none⟩ = some (.int .i64 x549001_1) := (blk_cell BK548.out 1).trans rfl; have hcz24_2 : w18.cell? ⟨gb548, 2, none⟩ = some (.int .i64 x549002_1) := (blk_cell BK548.out 2).trans rfl; have hcz24_3 : w18.cell? ⟨gb548, 3, none⟩ = some (.int .i64 x549003_1) := (blk_cell BK548.out 3).trans rfl; have hcz24_4 : w18.cell? ⟨gb548, 4, none⟩ = some (.int .i64 x549004_1) := (blk_cell BK548.out 4).trans rfl; have hcz24_5 : w18.cell? ⟨gb548, 5, none⟩ = some (.int .i64 x549005_1) := (blk_cell BK548.out 5).trans rfl; have hcz24_6 : w18.cell? ⟨gb548, 6, none⟩ = some (.int .i64 x549006_1) := (blk_cell BK548.out 6).trans rfl; have hcz24_7 : w18.cell? ⟨gb548, 7, none⟩ = some (.int .i64 x549007_1) := (blk_cell BK548.out 7).trans rfl; have hcz24_8 : w18.cell? ⟨gb548, 8, none⟩ = some (.int .i64 x549008_1) := (blk_cell BK548.out 8).trans rfl; have hcz24_9 : w18.cell? ⟨gb548, 9, none⟩ = some (.int .i64 x549009_1) := (blk_cell BK548.out 9).trans rfl; have hcz24_10 : w18.cell? ⟨gb548, 10, none⟩ = some (.int .i64 x549010_1) := (blk_cell BK548.out 10).trans rfl; have hcz24_11 : w18.cell? ⟨gb548, 11, none⟩ = some (.int .i64 x549011_1) := (blk_cell BK548.out 11).trans rfl; have hcz24_12 : w18.cell? ⟨gb548, 12, none⟩ = some (u549012) := (blk_cell BK548.out 12).trans rfl; have hfz24_0 := blk_frozen BK548.out 0; have hfz24_1 := blk_frozen BK548.out 1; have hfz24_2 := blk_frozen BK548.out 2; have hfz24_3 := blk_frozen BK548.out 3; have hfz24_4 := blk_frozen BK548.out 4; have hfz24_5 := blk_frozen BK548.out 5; have hfz24_6 := blk_frozen BK548.out 6; have hfz24_7 := blk_frozen BK548.out 7; have hfz24_8 := blk_frozen BK548.out 8; have hfz24_9 := blk_frozen BK548.out 9; have hfz24_10 := blk_frozen BK548.out 10; have hfz24_11 := blk_frozen BK548.out 11; have hfz24_12 := blk_frozen BK548.out 12))
                go_roundg k1
                case measure => have := HK1.out; omega
                case rel => exact ⟨(wrap64 (x6_1 + 1)), (t550), (t551), (t552), (t553), (t554), (t555), (t556), (t557), (t558), (t559), (t560), (t561), (t562), (.slice Ao22 t562.length co22), (by first | rfl | (simp; done) | (simp [*]; done)), H', ⟨by have := HK1.out; omega⟩, ⟨by (with_reducible repeat (first | apply Kd.R_alloc | apply Kd.R_drewN | apply Kd.R_drew)); exact Kd.R_mono (Kd.R_far (p := ⟨gb548, 12, none⟩) (Kd.R_far (p := ⟨gb548, 11, none⟩) (Kd.R_far (p := ⟨gb548, 10, none⟩) (Kd.R_far (p := ⟨gb548, 9, none⟩) (Kd.R_far (p := ⟨gb548, 8, none⟩) (Kd.R_far (p := ⟨gb548, 7, none⟩) (Kd.R_far (p := ⟨gb548, 6, none⟩) (Kd.R_far (p := ⟨gb548, 5, none⟩) (Kd.R_far (p := ⟨gb548, 4, none⟩) (Kd.R_far (p := ⟨gb548, 3, none⟩) (Kd.R_far (p := ⟨gb548, 2, none⟩) (Kd.R_far (p := ⟨gb548, 1, none⟩) (Kd.R_far (p := ⟨gb548, 0, none⟩) (Kd.R_far (p := ⟨gb566, 12, none⟩) (Kd.R_far (p := ⟨gb566, 11, none⟩) (Kd.R_far (p := ⟨gb566, 10, none⟩) (Kd.R_far (p := ⟨gb566, 9, none⟩) (Kd.R_far (p := ⟨gb566, 8, none⟩) (Kd.R_far (p := ⟨gb566, 7, none⟩) (Kd.R_far (p := ⟨gb566, 6, none⟩) (Kd.R_far (p := ⟨gb566, 5, none⟩) (Kd.R_far (p := ⟨gb566, 4, none⟩) (Kd.R_far (p := ⟨gb566, 3, none⟩) (Kd.R_far (p := ⟨gb566, 2, none⟩) (Kd.R_far (p := ⟨gb566, 1, none⟩) (Kd.R_far (p := ⟨gb566, 0, none⟩) (Kd.R_types (Kd.R_types HO564.out BK566.out (by decide)) BK548.out (by decide)) (fun _ hk => hk.1.2) (.int .i64 t550)) (fun _ hk => hk.1.2) (.int .i64 t551)) (fun _ hk => hk.1.2) (.int .i64 t552)) (fun _ hk => hk.1.2) (.int .i64 t553)) (fun _ hk => hk.1.2) (.int .i64 t554)) (fun _ hk => hk.1.2) (.int .i64 t555)) (fun _ hk => hk.1.2) (.int .i64 t556)) (fun _ hk => hk.1.2) (.int .i64 t557)) (fun _ hk => hk.1.2) (.int .i64 t558)) (fun _ hk => hk.1.2) (.int .i64 t559)) (fun _ hk => hk.1.2) (.int .i64 t560)) (fun _ hk => hk.1.2) (.int .i64 t561)) (fun _ hk => hk.1.2) (.slice Ao22 t562.length co22)) (fun _ hk => hk.2) (.int .i64 t550)) (fun _ hk => hk.2) (.int .i64 t551)) (fun _ hk => hk.2) (.int .i64 t552)) (fun _ hk => hk.2) (.int .i64 t553)) (fun _ hk => hk.2) (.int .i64 t554)) (fun _ hk => hk.2) (.int .i64 t555)) (fun _ hk => hk.2) (.int .i64 t556)) (fun _ hk => hk.2) (.int .i64 t557)) (fun _ hk => hk.2) (.int .i64 t558)) (fun _ hk => hk.2) (.int .i64 t559)) (fun _ hk => hk.2) (.int .i64 t560)) (fun _ hk => hk.2) (.int .i64 t561)) (fun _ hk => hk.2) (.slice Ao22 t562.length co22)) (fun _ hk => trivial)⟩, ⟨by (with_reducible repeat (first | refine blk_drewN ?_ _ | refine blk_drew ?_ | refine blk_alloc ?_ _)); refine blk_far ?_ NB544_548.out _; (with_reducible repeat (first | refine blk_drewN ?_ _ | refine blk_drew ?_ | refine blk_alloc ?_ _)); refine blk_far ?_ NB544_548.out _; (with_reducible repeat (first | refine blk_drewN ?_ _ | refine blk_drew ?_ | refine blk_alloc ?_ _)); refine blk_far ?_ NB544_548.out _; (with_reducible repeat (first | refine blk_drewN ?_ _ | refine blk_drew ?_ | refine blk_alloc ?_ _)); refine blk_far ?_ NB544_548.out _; (with_reducible repeat (first | refine blk_drewN ?_ _ | refine blk_drew ?_ | refine blk_alloc ?_ _)); refine blk_far ?_ NB544_548.out _; (with_reducible repeat (first | refine blk_drewN ?_ _ | refine blk_drew ?_ | refine blk_alloc ?_ _)); refine blk_far ?_ NB544_548.out _; (with_reducible repeat (first | refine blk_drewN ?_ _ | refine blk_drew ?_ | refine blk_alloc ?_ _)); refine blk_far ?_ NB544_548.out _; (with_reducible repeat (first | refine blk_drewN ?_ _ | refine blk_drew ?_ | refine blk_alloc ?_ _)); refine blk_far ?_ NB544_548.out _; (with_reducible repeat (first | refine blk_drewN ?_ _ | refine blk_drew ?_ | refine blk_alloc ?_ _)); refine blk_far ?_ NB544_548.out _; (with_reducible repeat (first | refine blk_drewN ?_ _ | refine blk_drew ?_ | refine blk_alloc ?_ _)); refine blk_far ?_ NB544_548.out _; (with_reducible repeat (first | refine blk_drewN ?_ _ | refine blk_drew ?_ | refine blk_alloc ?_ _)); refine blk_far ?_ NB544_548.out _; (with_reducible repeat (first | refine blk_drewN ?_ _ | refine blk_drew ?_ | refine blk_alloc ?_ _)); refine blk_far ?_ NB544_548.out _; (with_reducible repeat (first | refine blk_drewN ?_ _ | refine blk_drew ?_ | refine blk_alloc ?_ _)); refine blk_far ?_ NB544_548.out _; (with_reducible repeat (first | refine blk_drewN ?_ _ | refine blk_drew ?_ | refine blk_alloc ?_ _)); refine blk_far ?_ NB544_566.out _; (with_reducible repeat (first | refine blk_drewN ?_ _ | refine blk_drew ?_ | refine blk_alloc ?_ _)); refine blk_far ?_ NB544_566.out _; (with_reducible repeat (first | refine blk_drewN ?_ _ | refine blk_drew ?_ | refine blk_alloc ?_ _)); refine blk_far ?_ NB544_566.out _; (with_reducible repeat (first | refine blk_drewN ?_ _ | refine blk_drew ?_ | refine blk_alloc ?_ _)); refine blk_far ?_ NB544_566.out _; (with_reducible repeat (first | refine blk_drewN ?_ _ | refine blk_drew ?_ | refine blk_alloc ?_ _)); refine blk_far ?_ NB544_566.out _; (with_reducible repeat (first | refine blk_drewN ?_ _ | refine blk_drew ?_ | refine blk_alloc ?_ _)); refine blk_far ?_ NB544_566.out _; (with_reducible repeat (first | refine blk_drewN ?_ _ | refine blk_drew ?_ | refine blk_alloc ?_ _)); refine blk_far ?_ NB544_566.out _; (with_reducible repeat (first | refine blk_drewN ?_ _ | refine blk_drew ?_ | refine blk_alloc ?_ _)); refine blk_far ?_ NB544_566.out _; (with_reducible repeat (first | refine blk_drewN ?_ _ | refine blk_drew ?_ | refine blk_alloc ?_ _)); refine blk_far ?_ NB544_566.out _; (with_reducible repeat (first | refine blk_drewN ?_ _ | refine blk_drew ?_ | refine blk_alloc ?_ _)); refine blk_far ?_ NB544_566.out _; (with_reducible repeat (first | refine blk_drewN ?_ _ | refine blk_drew ?_ | refine blk_alloc ?_ _)); refine blk_far ?_ NB544_566.out _; (with_reducible repeat (first | refine blk_drewN ?_ _ | refine blk_drew ?_ | refine blk_alloc ?_ _)); refine blk_far ?_ NB544_566.out _; (with_reducible repeat (first | refine blk_drewN ?_ _ | refine blk_drew ?_ | refine blk_alloc ?_ _)); refine blk_far ?_ NB544_566.out _; (with_reducible repeat (first | refine blk_drewN ?_ _ | refine blk_drew ?_ | refine blk_alloc ?_ _)); exact BK544.out⟩, ⟨by (with_reducible repeat (first | refine blk_drewN ?_ _ | refine blk_drew ?_ | refine blk_alloc ?_ _)); refine blk_put (cs := #[.int .i64 t550, .int .i64 t551, .int .i64 t552, .int .i64 t553, .int .i64 t554, .int .i64 t555, .int .i64 t556, .int .i64 t557, .int .i64 t558, .int .i64 t559, .int .i64 t560, .int .i64 t561, u549012]) ?_ 12 _ rfl; (with_reducible repeat (first | refine blk_drewN ?_ _ | refine blk_drew ?_ | refine blk_alloc ?_ _)); refine blk_put (cs := #[.int .i64 t550, .int .i64 t551, .int .i64 t552, .int .i64 t553, .int .i64 t554, .int .i64 t555, .int .i64 t556, .int .i64 t557, .int .i64 t558, .int .i64 t559, .int .i64 t560, .int .i64 x549011_1, u549012]) ?_ 11 _ rfl; (with_reducible repeat (first | refine blk_drewN ?_ _ | refine blk_drew ?_ | refine blk_alloc ?_ _)); refine blk_put (cs := #[.int .i64 t550, .int .i64 t551, .int .i64 t552, .int .i64 t553, .int .i64 t554, .int .i64 t555, .int .i64 t556, .int .i64 t557, .int .i64 t558, .int .i64 t559, .int .i64 x549010_1, .int .i64 x549011_1, u549012]) ?_ 10 _ rfl; (with_reducible repeat (first | refine blk_drewN ?_ _ | refine blk_drew ?_ | refine blk_alloc ?_ _)); refine blk_put (cs := #[.int .i64 t550, .int .i64 t551, .int .i64 t552, .int .i64 t553, .int .i64 t554, .int .i64 t555, .int .i64 t556, .int .i64 t557, .int .i64 t558, .int .i64 x549009_1, .int .i64 x549010_1, .int .i64 x549011_1, u549012]) ?_ 9 _ rfl; (with_reducible repeat (first | refine blk_drewN ?_ _ | refine blk_drew ?_ | refine blk_alloc ?_ _)); refine blk_put (cs := #[.int .i64 t550, .int .i64 t551, .int .i64 t552, .int .i64 t553, .int .i64 t554, .int .i64 t555, .int .i64 t556, .int .i64 t557, .int .i64 x549008_1, .int .i64 x549009_1, .int .i64 x549010_1, .int .i64 x549011_1, u549012]) ?_ 8 _ rfl; (with_reducible repeat (first | refine blk_drewN ?_ _ | refine blk_drew ?_ | refine blk_alloc ?_ _)); refine blk_put (cs := #[.int .i64 t550, .int .i64 t551, .int .i64 t552, .int .i64 t553, .int .i64 t554, .int .i64 t555, .int .i64 t556, .int .i64 x549007_1, .int .i64 x549008_1, .int .i64 x549009_1, .int .i64 x549010_1, .int .i64 x549011_1, u549012]) ?_ 7 _ rfl; (with_reducible repeat (first | refine blk_drewN ?_ _ | refine blk_drew ?_ | refine blk_alloc ?_ _)); refine blk_put (cs := #[.int .i64 t550, .int .i64 t551, .int .i64 t552, .int .i64 t553, .int .i64 t554, .int .i64 t555, .int .i64 x549006_1, .int .i64 x549007_1, .int .i64 x549008_1, .int .i64 x549009_1, .int .i64 x549010_1, .int .i64 x549011_1, u549012]) ?_ 6 _ rfl; (with_reducible repeat (first | refine blk_drewN ?_ _ | refine blk_drew ?_ | refine blk_alloc ?_ _)); refine blk_put (cs := #[.int .i64 t550, .int .i64 t551, .int .i64 t552, .int .i64 t553, .int .i64 t554, .int .i64 x549005_1, .int .i64 x549006_1, .int .i64 x549007_1, .int .i64 x549008_1, .int .i64 x549009_1, .int .i64 x549010_1, .int .i64 x549011_1, u549012]) ?_ 5 _ rfl; (with_reducible repeat (first | refine blk_drewN ?_ _ | refine blk_drew ?_ | refine blk_alloc ?_ _)); refine blk_put (cs := #[.int .i64 t550, .int .i64 t551, .int .i64 t552, .int .i64 t553, .int .i64 x549004_1, .int .i64 x549005_1, .int .i64 x549006_1, .int .i64 x549007_1, .int .i64 x549008_1, .int .i64 x549009_1, .int .i64 x549010_1, .int .i64 x549011_1, u549012]) ?_ 4 _ rfl; (with_reducible repeat (first | refine blk_drewN ?_ _ | refine blk_drew ?_ | refine blk_alloc ?_ _)); refine blk_put (cs := #[.int .i64 t550, .int .i64 t551, .int .i64 t552, .int .i64 x549003_1, .int .i64 x549004_1, .int .i64 x549005_1, .int .i64 x549006_1, .int .i64 x549007_1, .int .i64 x549008_1, .int .i64 x549009_1, .int .i64 x549010_1, .int .i64 x549011_1, u549012]) ?_ 3 _ rfl; (with_reducible repeat (first | refine blk_drewN ?_ _ | refine blk_drew ?_ | refine blk_alloc ?_ _)); refine blk_put (cs := #[.int .i64 t550, .int .i64 t551, .int .i64 x549002_1, .int .i64 x549003_1, .int .i64 x549004_1, .int .i64 x549005_1, .int .i64 x549006_1, .int .i64 x549007_1, .int .i64 x549008_1, .int .i64 x549009_1, .int .i64 x549010_1, .int .i64 x549011_1, u549012]) ?_ 2 _ rfl; (with_reducible repeat (first | refine blk_drewN ?_ _ | refine blk_drew ?_ | refine blk_alloc ?_ _)); refine blk_put (cs := #[.int .i64 t550, .int .i64 x549001_1, .int .i64 x549002_1, .int .i64 x549003_1, .int .i64 x549004_1, .int .i64 x549005_1, .int .i64 x549006_1, .int .i64 x549007_1, .int .i64 x549008_1, .int .i64 x549009_1, .int .i64 x549010_1, .int .i64 x549011_1, u549012]) ?_ 1 _ rfl; (with_reducible repeat (first | refine blk_drewN ?_ _ | refine blk_drew ?_ | refine blk_alloc ?_ _)); refine blk_put (cs := #[.int .i64 x549000_1, .int .i64 x549001_1, .int .i64 x549002_1, .int .i64 x549003_1, .int .i64 x549004_1, .int .i64 x549005_1, .int .i64 x549006_1, .int .i64 x549007_1, .int .i64 x549008_1, .int .i64 x549009_1, .int .i64 x549010_1, .int .i64 x549011_1, u549012]) ?_ 0 _ rfl; (with_reducible repeat (first | refine blk_drewN ?_ _ | refine blk_drew ?_ | refine blk_alloc ?_ _)); refine blk_far ?_ NB548_566.out _; (with_reducible repeat (first | refine blk_drewN ?_ _ | refine blk_drew ?_ | refine blk_alloc ?_ _)); refine blk_far ?_ NB548_566.out _; (with_reducible repeat (first | refine blk_drewN ?_ _ | refine blk_drew ?_ | refine blk_alloc ?_ _)); refine blk_far ?_ NB548_566.out _; (with_reducible repeat (first | refine blk_drewN ?_ _ | refine blk_drew ?_ | refine blk_alloc ?_ _)); refine blk_far ?_ NB548_566.out _; (with_reducible repeat (first | refine blk_drewN ?_ _ | refine blk_drew ?_ | refine blk_alloc ?_ _)); refine blk_far ?_ NB548_566.out _; (with_reducible repeat (first | refine blk_drewN ?_ _ | refine blk_drew ?_ | refine blk_alloc ?_ _)); refine blk_far ?_ NB548_566.out _; (with_reducible repeat (first | refine blk_drewN ?_ _ | refine blk_drew ?_ | refine blk_alloc ?_ _)); refine blk_far ?_ NB548_566.out _; (with_reducible repeat (first | refine blk_drewN ?_ _ | refine blk_drew ?_ | refine blk_alloc ?_ _)); refine blk_far ?_ NB548_566.out _; (with_reducible repeat (first | refine blk_drewN ?_ _ | refine blk_drew ?_ | refine blk_alloc ?_ _)); refine blk_far ?_ NB548_566.out _; (with_reducible repeat (first | refine blk_drewN ?_ _ | refine blk_drew ?_ | refine blk_alloc ?_ _)); refine blk_far ?_ NB548_566.out _; (with_reducible repeat (first | refine blk_drewN ?_ _ | refine blk_drew ?_ | refine blk_alloc ?_ _)); refine blk_far ?_ NB548_566.out _; (with_reducible repeat (first | refine blk_drewN ?_ _ | refine blk_drew ?_ | refine blk_alloc ?_ _)); refine blk_far ?_ NB548_566.out _; (with_reducible repeat (first | refine blk_drewN ?_ _ | refine blk_drew ?_ | refine blk_alloc ?_ _)); refine blk_far ?_ NB548_566.out _; (with_reducible repeat (first | refine blk_drewN ?_ _ | refine blk_drew ?_ | refine blk_alloc ?_ _)); exact BK548.out⟩, ⟨by repeat (first | (with_reducible first | exact HB.out | apply below_alloc | apply pw_below_drewN | apply below_drew1 | refine below_set ?_ GE544.out | refine below_set ?_ GE548.out | refine below_set ?_ GE566.out) | exact HB.out)⟩⟩
              · rw [if_neg c16] at H
                have c16b0 : (x549000_1 == 0) = false := beq_eq_false_iff_ne.mpr c16
                have c16b1 : (x549000_1 != 0) = true := bne_iff_ne.mpr c16
                replace H := Option.bind_eq_some_iff.mp H
                obtain ⟨⟨t567, t568, t569, t570, t571, t572, t573, t574, t575, t576, t577, t578, t579⟩, A250, H⟩ := H
                replace H : (bourneref1_Fold.l0 k1 l0 l1 (wrap64 (x6_1 + 1)) t567 t568 t569 t570 t571 t572 t573 t574 t575 t576 t577 t578 t579) = some (r1, r2, r3, r4, r5, r6, r7, r8, r9, r10, r11, r12, r13) := H
                have A25 := Aside0.mk A250
                clear A250
                have H' := Aside0.mk H
                clear H
                have p549 : 0 ≤ (x6_1 : Int) := of_decide_eq_true (by first | (with_reducible assumption) | assumption)
                have q549 : x6_1 < (l0.length : Int) := of_decide_eq_true (by first | (with_reducible assumption) | assumption)
                obtain ⟨ad549, e549, hx549_0, hx549_1, hx549_2, hx549_3⟩ := at_T26 HR0.out x6_1 p549 q549
                cases e549
                replace hx549_0 := (HB.out.cell (World.block_lt_of_cell? w _ hx549_0)).trans hx549_0
                replace hx549_1 := (HB.out.cell (World.block_lt_of_cell? w _ hx549_1)).trans hx549_1
                replace hx549_2 := (HB.out.cell (World.block_lt_of_cell? w _ hx549_2)).trans hx549_2
                replace hx549_3 := (HB.out.cell (World.block_lt_of_cell? w _ hx549_3)).trans hx549_3
                replace p549 := eq_true p549
                replace q549 := eq_true q549
                go_wp2_with (first | ((with_reducible refine gate_callee (f := 29) rfl ?_); refine goesL_ (some 26) rfl rfl Try.func29 (by kernel_rfl) rfl #[.agg #[.int .i64 ((rd_T26 l0 x6_1).f0), .int .i64 ((rd_T26 l0 x6_1).f1), .int .i64 ((rd_T26 l0 x6_1).f2), .int .i64 ((rd_T26 l0 x6_1).f3)], .slice A1 l1.length c1] rfl (by (try simp only [List.map_toArray, List.map_cons, List.map_nil]); first | done | rfl | (simp only [List.length_drop, List.length_take]; rfl)) ?_; (with_reducible refine (bourneref1_One.calls ((rd_T26 l0 x6_1).f0) ((rd_T26 l0 x6_1).f1) ((rd_T26 l0 x6_1).f2) ((rd_T26 l0 x6_1).f3) _ _ l1 t550 t551 t552 t553 t554 t555 t556 t557 t558 t559 t560 t561 t562 t565 _ ?side1 ?side2 A15.out).mono ?_); (case side1 => repeat (first | exact (Kd.C_below HR1.out HB.out) | (with_reducible refine Kd.C_alloc ?_ _) | (with_reducible refine Kd.C_drewN ?_ _) | (with_reducible refine Kd.C_drew ?_))); (case side2 => exact HC1.out); rintro e w26 ⟨v563, rfl, ho0, hb⟩; refine ⟨_, rfl, ?_⟩; have n0_ := Aside0.mk (Kd.R_elder' (by (with_reducible repeat (first | apply Kd.R_alloc | apply Kd.R_drewN | apply Kd.R_drew)); exact HO_549012.out) (Kd.R_base ho0) hb); have n1_ := Aside0.mk (Kd.R_lower (Kd.R_new' ho0 (Kd.R_lt (by (with_reducible repeat (first | apply Kd.R_alloc | apply Kd.R_drewN | apply Kd.R_drew)); exact HO_549012.out))) (below_size (by repeat (first | (with_reducible first | exact HB.out | apply below_alloc | apply pw_below_drewN | apply below_drew1 | refine below_set ?_ GE544.out | refine below_set ?_ GE548.out) | exact HB.out)))); have n2_ := Aside0.mk (blk_below (g := gb544) (o := .cells #[.int .i64 0, .int .i64 0, .int .i64 0, .int .i64 0, .int .i64 0, .int .i64 0, .int .i64 0, .int .i64 0, .int .i64 0, .int .i64 0, .int .i64 0, .int .i64 0, .slice none 0 0] 28 (0, 0)) (by (with_reducible repeat (first | refine blk_drewN ?_ _ | refine blk_drew ?_ | refine blk_alloc ?_ _)); exact BK544.out) hb); have n3_ := Aside0.mk (blk_below (g := gb548) (o := .cells #[.int .i64 x549000_1, .int .i64 x549001_1, .int .i64 x549002_1, .int .i64 x549003_1, .int .i64 x549004_1, .int .i64 x549005_1, .int .i64 x549006_1, .int .i64 x549007_1, .int .i64 x549008_1, .int .i64 x549009_1, .int .i64 x549010_1, .int .i64 x549011_1, u549012] 28 (0, 0)) (by (with_reducible repeat (first | refine blk_drewN ?_ _ | refine blk_drew ?_ | refine blk_alloc ?_ _)); exact BK548.out) hb); have n4_ := Aside0.mk (below_step (by repeat (first | (with_reducible first | exact HB.out | apply below_alloc | apply pw_below_drewN | apply below_drew1 | refine below_set ?_ GE544.out | refine below_set ?_ GE548.out) | exact HB.out)) hb); clear HO_549012; clear BK544; clear BK548; clear HB; have HO_549012 := n0_; have HO564 := n1_; have BK544 := n2_; have BK548 := n3_; have HB := n4_; clear n0_ n1_ n2_ n3_ n4_; (try clear hb); (try clear hb2); (try clear hk); (try clear hi); (try clear ho0)) | ((with_reducible refine gate_dst (N := 7) rfl ?_); refine box_event ?hg (N := 7) ?hd (cs := #[.int .i64 0, .int .i64 0, .int .i64 0, .int .i64 0, .int .i64 0, .int .i64 0, .int .i64 0, .int .i64 0, .int .i64 0, .int .i64 0, .int .i64 0, .int .i64 0, .slice none 0 0]) (t := 28) ?hr ?_; (case hd => rfl); (case hg => rfl); (case hr => first | (go_simp; done) | (go_simp; rfl)); intro gb566 hg w27 hbox hb; have n0_ := Aside0.mk (Kd.R_below (by (with_reducible repeat (first | apply Kd.R_alloc | apply Kd.R_drewN | apply Kd.R_drew)); exact HO_549012.out) hb); have n1_ := Aside0.mk (Kd.R_below (by (with_reducible repeat (first | apply Kd.R_alloc | apply Kd.R_drewN | apply Kd.R_drew)); exact HO564.out) hb); have n2_ := Aside0.mk (blk_below (g := gb544) (o := .cells #[.int .i64 0, .int .i64 0, .int .i64 0, .int .i64 0, .int .i64 0, .int .i64 0, .int .i64 0, .int .i64 0, .int .i64 0, .int .i64 0, .int .i64 0, .int .i64 0, .slice none 0 0] 28 (0, 0)) (by (with_reducible repeat (first | refine blk_drewN ?_ _ | refine blk_drew ?_ | refine blk_alloc ?_ _)); exact BK544.out) hb); have n3_ := Aside0.mk (blk_below (g := gb548) (o := .cells #[.int .i64 x549000_1, .int .i64 x549001_1, .int .i64 x549002_1, .int .i64 x549003_1, .int .i64 x549004_1, .int .i64 x549005_1, .int .i64 x549006_1, .int .i64 x549007_1, .int .i64 x549008_1, .int .i64 x549009_1, .int .i64 x549010_1, .int .i64 x549011_1, u549012] 28 (0, 0)) (by (with_reducible repeat (first | refine blk_drewN ?_ _ | refine blk_drew ?_ | refine blk_alloc ?_ _)); exact BK548.out) hb); have n4_ := Aside0.mk (below_step (by repeat (first | (with_reducible first | exact HB.out | apply below_alloc | apply pw_below_drewN | apply below_drew1 | refine below_set ?_ GE544.out | refine below_set ?_ GE548.out) | exact HB.out)) hb); have n5_ := Aside0.mk (hbox); have n6_ := Aside0.mk ((by rw [hg]; exact (below_size (by repeat (first | (with_reducible first | exact HB.out | apply below_alloc | apply pw_below_drewN | apply below_drew1 | refine below_set ?_ GE544.out | refine below_set ?_ GE548.out) | exact HB.out))) : w.heap.size ≤ gb566)); have n7_ := Aside0.mk ((by rw [hg]; exact (below_size (by repeat (first | (with_reducible first | exact HB.out | apply below_alloc | apply pw_below_drewN | apply below_drew1 | refine below_set ?_ GE544.out | refine below_set ?_ GE548.out) | exact HB.out))) : w.heap.size ≤ gb566)); have n8_ := Aside0.mk ((by rw [hg]; exact Nat.ne_of_lt (blk_lt (g := gb544) (o := .cells #[.int .i64 0, .int .i64 0, .int .i64 0, .int .i64 0, .int .i64 0, .int .i64 0, .int .i64 0, .int .i64 0, .int .i64 0, .int .i64 0, .int .i64 0, .int .i64 0, .slice none 0 0] 28 (0, 0)) (by (with_reducible repeat (first | refine blk_drewN ?_ _ | refine blk_drew ?_ | refine blk_alloc ?_ _)); exact BK544.out)) : gb544 ≠ gb566)); have n9_ := Aside0.mk ((by rw [hg]; exact Nat.ne_of_gt (blk_lt (g := gb544) (o := .cells #[.int .i64 0, .int .i64 0, .int .i64 0, .int .i64 0, .int .i64 0, .int .i64 0, .int .i64 0, .int .i64 0, .int .i64 0, .int .i64 0, .int .i64 0, .int .i64 0, .slice none 0 0] 28 (0, 0)) (by (with_reducible repeat (first | refine blk_drewN ?_ _ | refine blk_drew ?_ | refine blk_alloc ?_ _)); exact BK544.out)) : gb566 ≠ gb544)); have n10_ := Aside0.mk ((by rw [hg]; exact Nat.ne_of_lt (blk_lt (g := gb548) (o := .cells #[.int .i64 x549000_1, .int .i64 x549001_1, .int .i64 x549002_1, .int .i64 x549003_1, .int .i64 x549004_1, .int .i64 x549005_1, .int .i64 x549006_1, .int .i64 x549007_1, .int .i64 x549008_1, .int .i64 x549009_1, .int .i64 x549010_1, .int .i64 x549011_1, u549012] 28 (0, 0)) (by (with_reducible repeat (first | refine blk_drewN ?_ _ | refine blk_drew ?_ | refine blk_alloc ?_ _)); exact BK548.out)) : gb548 ≠ gb566)); have n11_ := Aside0.mk ((by rw [hg]; exact Nat.ne_of_gt (blk_lt (g := gb548) (o := .cells #[.int .i64 x549000_1, .int .i64 x549001_1, .int .i64 x549002_1, .int .i64 x549003_1, .int .i64 x549004_1, .int .i64 x549005_1, .int .i64 x549006_1, .int .i64 x549007_1, .int .i64 x549008_1, .int .i64 x549009_1, .int .i64 x549010_1, .int .i64 x549011_1, u549012] 28 (0, 0)) (by (with_reducible repeat (first | refine blk_drewN ?_ _ | refine blk_drew ?_ | refine blk_alloc ?_ _)); exact BK548.out)) : gb566 ≠ gb548)); clear HO_549012; clear HO564; clear BK544; clear BK548; clear HB; have HO_549012 := n0_; have HO564 := n1_; have BK544 := n2_; have BK548 := n3_; have HB := n4_; have BK566 := n5_; have GW566 := n6_; have GE566 := n7_; have NB544_566 := n8_; have NB566_544 := n9_; have NB548_566 := n10_; have NB566_548 := n11_; clear n0_ n1_ n2_ n3_ n4_ n5_ n6_ n7_ n8_ n9_ n10_ n11_; clear hb hbox hg; have hnb28 := NB566_544.out; have hnc28 := NB544_566.out; have hnb29 := NB566_548.out; have hnc29 := NB548_566.out; have hcz30_0 : w27.cell? ⟨gb566, 0, none⟩ = some (.int .i64 0) := (blk_cell BK566.out 0).trans rfl; have hcz30_1 : w27.cell? ⟨gb566, 1, none⟩ = some (.int .i64 0) := (blk_cell BK566.out 1).trans rfl; have hcz30_2 : w27.cell? ⟨gb566, 2, none⟩ = some (.int .i64 0) := (blk_cell BK566.out 2).trans rfl; have hcz30_3 : w27.cell? ⟨gb566, 3, none⟩ = some (.int .i64 0) := (blk_cell BK566.out 3).trans rfl; have hcz30_4 : w27.cell? ⟨gb566, 4, none⟩ = some (.int .i64 0) := (blk_cell BK566.out 4).trans rfl; have hcz30_5 : w27.cell? ⟨gb566, 5, none⟩ = some (.int .i64 0) := (blk_cell BK566.out 5).trans rfl; have hcz30_6 : w27.cell? ⟨gb566, 6, none⟩ = some (.int .i64 0) := (blk_cell BK566.out 6).trans rfl; have hcz30_7 : w27.cell? ⟨gb566, 7, none⟩ = some (.int .i64 0) := (blk_cell BK566.out 7).trans rfl; have hcz30_8 : w27.cell? ⟨gb566, 8, none⟩ = some (.int .i64 0) := (blk_cell BK566.out 8).trans rfl; have hcz30_9 : w27.cell? ⟨gb566, 9, none⟩ = some (.int .i64 0) := (blk_cell BK566.out 9).trans rfl; have hcz30_10 : w27.cell? ⟨gb566, 10, none⟩ = some (.int .i64 0) := (blk_cell BK566.out 10).trans rfl; have hcz30_11 : w27.cell? ⟨gb566, 11, none⟩ = some (.int .i64 0) := (blk_cell BK566.out 11).trans rfl; have hcz30_12 : w27.cell? ⟨gb566, 12, none⟩ = some (.slice none 0 0) := (blk_cell BK566.out 12).trans rfl; have hfz30_0 := blk_frozen BK566.out 0; have hfz30_1 := blk_frozen BK566.out 1; have hfz30_2 := blk_frozen BK566.out 2; have hfz30_3 := blk_frozen BK566.out 3; have hfz30_4 := blk_frozen BK566.out 4; have hfz30_5 := blk_frozen BK566.out 5; have hfz30_6 := blk_frozen BK566.out 6; have hfz30_7 := blk_frozen BK566.out 7; have hfz30_8 := blk_frozen BK566.out 8; have hfz30_9 := blk_frozen BK566.out 9; have hfz30_10 := blk_frozen BK566.out 10; have hfz30_11 := blk_frozen BK566.out 11; have hfz30_12 := blk_frozen BK566.out 12; obtain ⟨Ao31, co31, eo31⟩ := Kd.R_slice HO564.out; subst eo31; have hnb32 := NB548_544.out; have hnc32 := NB544_548.out; have hcz33_0 : w27.cell? ⟨gb548, 0, none⟩ = some (.int .i64 x549000_1) := (blk_cell BK548.out 0).trans rfl; have hcz33_1 : w27.cell? ⟨gb548, 1, none⟩ = some (.int .i64 x549001_1) := (blk_cell BK548.out 1).trans rfl; have hcz33_2 : w27.cell? ⟨gb548, 2, none⟩ = some (.int .i64 x549002_1) := (blk_cell BK548.out 2).trans rfl; have hcz33_3 : w27.cell? ⟨gb548, 3, none⟩ = some (.int .i64 x549003_1) := (blk_cell BK548.out 3).trans rfl; have hcz33_4 : w27.cell? ⟨gb548, 4, none⟩ = some (.int .i64 x549004_1) := (blk_cell BK548.out 4).trans rfl; have hcz33_5 : w27.cell? ⟨gb548, 5, none⟩ = some (.int .i64 x549005_1) := (blk_cell BK548.out 5).trans rfl; have hcz33_6 : w27.cell? ⟨gb548, 6, none⟩ = some (.int .i64 x549006_1) := (blk_cell BK548.out 6).trans rfl; have hcz33_7 : w27.cell? ⟨gb548, 7, none⟩ = some (.int .i64 x549007_1) := (blk_cell BK548.out 7).trans rfl; have hcz33_8 : w27.cell? ⟨gb548, 8, none⟩ = some (.int .i64 x549008_1) := (blk_cell BK548.out 8).trans rfl; have hcz33_9 : w27.cell? ⟨gb548, 9, none⟩ = some (.int .i64 x549009_1) := (blk_cell BK548.out 9).trans rfl; have hcz33_10 : w27.cell? ⟨gb548, 10, none⟩ = some (.int .i64 x549010_1) := (blk_cell BK548.out 10).trans rfl; have hcz33_11 : w27.cell? ⟨gb548, 11, none⟩ = some (.int .i64 x549011_1) := (blk_cell BK548.out 11).trans rfl; have hcz33_12 : w27.cell? ⟨gb548, 12, none⟩ = some (u549012) := (blk_cell BK548.out 12).trans rfl; have hfz33_0 := blk_frozen BK548.out 0; have hfz33_1 := blk_frozen BK548.out 1; have hfz33_2 := blk_frozen BK548.out 2; have hfz33_3 := blk_frozen BK548.out 3; have hfz33_4 := blk_frozen BK548.out 4; have hfz33_5 := blk_frozen BK548.out 5; have hfz33_6 := blk_frozen BK548.out 6; have hfz33_7 := blk_frozen BK548.out 7; have hfz33_8 := blk_frozen BK548.out 8; have hfz33_9 := blk_frozen BK548.out 9; have hfz33_10 := blk_frozen BK548.out 10; have hfz33_11 := blk_frozen BK548.out 11; have hfz33_12 := blk_frozen BK548.out 12; obtain ⟨Ao34, co34, eo34⟩ := Kd.R_slice HO_549012.out; subst eo34) | ((with_reducible refine gate_callee (f := 53) rfl ?_); refine goesL_ (some 35) rfl rfl Try.func53 (by kernel_rfl) rfl #[.agg #[.int .i64 x549000_1, .int .i64 x549001_1, .int .i64 x549002_1, .int .i64 x549003_1, .int .i64 x549004_1, .int .i64 x549005_1, .int .i64 x549006_1, .int .i64 x549007_1, .int .i64 x549008_1, .int .i64 x549009_1, .int .i64 x549010_1, .int .i64 x549011_1, .slice Ao34 x549012_1.length co34], .agg #[.int .i64 t550, .int .i64 t551, .int .i64 t552, .int .i64 t553, .int .i64 t554, .int .i64 t555, .int .i64 t556, .int .i64 t557, .int .i64 t558, .int .i64 t559, .int .i64 t560, .int .i64 t561, .slice Ao31 t562.length co31]] rfl (by (try simp only [List.map_toArray, List.map_cons, List.map_nil]); first | done | rfl | (simp only [List.length_drop, List.length_take]; rfl)) ?_; (with_reducible refine (bourneref1_two.calls x549000_1 x549001_1 x549002_1 x549003_1 x549004_1 x549005_1 x549006_1 x549007_1 x549008_1 x549009_1 x549010_1 x549011_1 _ _ x549012_1 t550 t551 t552 t553 t554 t555 t556 t557 t558 t559 t560 t561 _ _ t562 t567 t568 t569 t570 t571 t572 t573 t574 t575 t576 t577 t578 t579 _ ?side1 ?side2 ?side3 ?side4 A25.out).mono ?_); (case side1 => refine (Kd.R_reads' (e := 3) (base := w.heap.size) (ok := fun k_ => (True ∧ some k_ ≠ (.slice Ao31 t562.length co31 : Value).ownBlock)) (n := x549012_1.length) (c := co34) ?_).2.2; exact (by (with_reducible repeat (first | apply Kd.R_alloc | apply Kd.R_drewN | apply Kd.R_drew)); exact (Kd.R_mono (Kd.R_far (p := ⟨gb566, 12, none⟩) (Kd.R_far (p := ⟨gb566, 11, none⟩) (Kd.R_far (p := ⟨gb566, 10, none⟩) (Kd.R_far (p := ⟨gb566, 9, none⟩) (Kd.R_far (p := ⟨gb566, 8, none⟩) (Kd.R_far (p := ⟨gb566, 7, none⟩) (Kd.R_far (p := ⟨gb566, 6, none⟩) (Kd.R_far (p := ⟨gb566, 5, none⟩) (Kd.R_far (p := ⟨gb566, 4, none⟩) (Kd.R_far (p := ⟨gb566, 3, none⟩) (Kd.R_far (p := ⟨gb566, 2, none⟩) (Kd.R_far (p := ⟨gb566, 1, none⟩) (Kd.R_far (p := ⟨gb566, 0, none⟩) (Kd.R_types HO_549012.out BK566.out (by decide)) (fun _ hk => hk.2) (.int .i64 t550)) (fun _ hk => hk.2) (.int .i64 t551)) (fun _ hk => hk.2) (.int .i64 t552)) (fun _ hk => hk.2) (.int .i64 t553)) (fun _ hk => hk.2) (.int .i64 t554)) (fun _ hk => hk.2) (.int .i64 t555)) (fun _ hk => hk.2) (.int .i64 t556)) (fun _ hk => hk.2) (.int .i64 t557)) (fun _ hk => hk.2) (.int .i64 t558)) (fun _ hk => hk.2) (.int .i64 t559)) (fun _ hk => hk.2) (.int .i64 t560)) (fun _ hk => hk.2) (.int .i64 t561)) (fun _ hk => hk.2) (.slice Ao31 t562.length co31)) (fun _ h_ => h_.1)))); (case side2 => exact (Kd.R_reads' HO_549012.out).2.1); (case side3 => refine (Kd.R_reads' (e := 3) (base := w.heap.size) (ok := fun k_ => (True ∧ some k_ ≠ (.slice Ao34 x549012_1.length co34 : Value).ownBlock)) (n := t562.length) (c := co31) ?_).2.2; exact (by (with_reducible repeat (first | apply Kd.R_alloc | apply Kd.R_drewN | apply Kd.R_drew)); exact (Kd.R_mono (Kd.R_far (p := ⟨gb566, 12, none⟩) (Kd.R_far (p := ⟨gb566, 11, none⟩) (Kd.R_far (p := ⟨gb566, 10, none⟩) (Kd.R_far (p := ⟨gb566, 9, none⟩) (Kd.R_far (p := ⟨gb566, 8, none⟩) (Kd.R_far (p := ⟨gb566, 7, none⟩) (Kd.R_far (p := ⟨gb566, 6, none⟩) (Kd.R_far (p := ⟨gb566, 5, none⟩) (Kd.R_far (p := ⟨gb566, 4, none⟩) (Kd.R_far (p := ⟨gb566, 3, none⟩) (Kd.R_far (p := ⟨gb566, 2, none⟩) (Kd.R_far (p := ⟨gb566, 1, none⟩) (Kd.R_far (p := ⟨gb566, 0, none⟩) (Kd.R_types HO564.out BK566.out (by decide)) (fun _ hk => hk.2) (.int .i64 t550)) (fun _ hk => hk.2) (.int .i64 t551)) (fun _ hk => hk.2) (.int .i64 t552)) (fun _ hk => hk.2) (.int .i64 t553)) (fun _ hk => hk.2) (.int .i64 t554)) (fun _ hk => hk.2) (.int .i64 t555)) (fun _ hk => hk.2) (.int .i64 t556)) (fun _ hk => hk.2) (.int .i64 t557)) (fun _ hk => hk.2) (.int .i64 t558)) (fun _ hk => hk.2) (.int .i64 t559)) (fun _ hk => hk.2) (.int .i64 t560)) (fun _ hk => hk.2) (.int .i64 t561)) (fun _ hk => hk.2) (.slice Ao31 t562.length co31)) (fun _ h_ => h_.1)))); (case side4 => exact (Kd.R_reads' HO564.out).2.1); rintro e w35 ⟨v580, rfl, ho0, hb⟩; refine ⟨_, rfl, ?_⟩; have n0_ := Aside0.mk (Kd.R_elder' (by (with_reducible repeat (first | apply Kd.R_alloc | apply Kd.R_drewN | apply Kd.R_drew)); exact (Kd.R_mono (Kd.R_far (p := ⟨gb566, 12, none⟩) (Kd.R_far (p := ⟨gb566, 11, none⟩) (Kd.R_far (p := ⟨gb566, 10, none⟩) (Kd.R_far (p := ⟨gb566, 9, none⟩) (Kd.R_far (p := ⟨gb566, 8, none⟩) (Kd.R_far (p := ⟨gb566, 7, none⟩) (Kd.R_far (p := ⟨gb566, 6, none⟩) (Kd.R_far (p := ⟨gb566, 5, none⟩) (Kd.R_far (p := ⟨gb566, 4, none⟩) (Kd.R_far (p := ⟨gb566, 3, none⟩) (Kd.R_far (p := ⟨gb566, 2, none⟩) (Kd.R_far (p := ⟨gb566, 1, none⟩) (Kd.R_far (p := ⟨gb566, 0, none⟩) (Kd.R_types HO_549012.out BK566.out (by decide)) (fun _ hk => hk.2) (.int .i64 t550)) (fun _ hk => hk.2) (.int .i64 t551)) (fun _ hk => hk.2) (.int .i64 t552)) (fun _ hk => hk.2) (.int .i64 t553)) (fun _ hk => hk.2) (.int .i64 t554)) (fun _ hk => hk.2) (.int .i64 t555)) (fun _ hk => hk.2) (.int .i64 t556)) (fun _ hk => hk.2) (.int .i64 t557)) (fun _ hk => hk.2) (.int .i64 t558)) (fun _ hk => hk.2) (.int .i64 t559)) (fun _ hk => hk.2) (.int .i64 t560)) (fun _ hk => hk.2) (.int .i64 t561)) (fun _ hk => hk.2) (.slice Ao31 t562.length co31)) (fun _ h_ => h_.1))) (Kd.R_base ho0) hb); have n1_ := Aside0.mk (Kd.R_elder' (by (with_reducible repeat (first | apply Kd.R_alloc | apply Kd.R_drewN | apply Kd.R_drew)); exact (Kd.R_mono (Kd.R_far (p := ⟨gb566, 12, none⟩) (Kd.R_far (p := ⟨gb566, 11, none⟩) (Kd.R_far (p := ⟨gb566, 10, none⟩) (Kd.R_far (p := ⟨gb566, 9, none⟩) (Kd.R_far (p := ⟨gb566, 8, none⟩) (Kd.R_far (p := ⟨gb566, 7, none⟩) (Kd.R_far (p := ⟨gb566, 6, none⟩) (Kd.R_far (p := ⟨gb566, 5, none⟩) (Kd.R_far (p := ⟨gb566, 4, none⟩) (Kd.R_far (p := ⟨gb566, 3, none⟩) (Kd.R_far (p := ⟨gb566, 2, none⟩) (Kd.R_far (p := ⟨gb566, 1, none⟩) (Kd.R_far (p := ⟨gb566, 0, none⟩) (Kd.R_types HO564.out BK566.out (by decide)) (fun _ hk => hk.2) (.int .i64 t550)) (fun _ hk => hk.2) (.int .i64 t551)) (fun _ hk => hk.2) (.int .i64 t552)) (fun _ hk => hk.2) (.int .i64 t553)) (fun _ hk => hk.2) (.int .i64 t554)) (fun _ hk => hk.2) (.int .i64 t555)) (fun _ hk => hk.2) (.int .i64 t556)) (fun _ hk => hk.2) (.int .i64 t557)) (fun _ hk => hk.2) (.int .i64 t558)) (fun _ hk => hk.2) (.int .i64 t559)) (fun _ hk => hk.2) (.int .i64 t560)) (fun _ hk => hk.2) (.int .i64 t561)) (fun _ hk => hk.2) (.slice Ao31 t562.length co31)) (fun _ h_ => h_.1))) (Kd.R_base ho0) hb); have n2_ := Aside0.mk (Kd.R_lower (Kd.R_new' (Kd.R_new' ho0 (Kd.R_lt (by (with_reducible repeat (first | apply Kd.R_alloc | apply Kd.R_drewN | apply Kd.R_drew)); exact (Kd.R_mono (Kd.R_far (p := ⟨gb566, 12, none⟩) (Kd.R_far (p := ⟨gb566, 11, none⟩) (Kd.R_far (p := ⟨gb566, 10, none⟩) (Kd.R_far (p := ⟨gb566, 9, none⟩) (Kd.R_far (p := ⟨gb566, 8, none⟩) (Kd.R_far (p := ⟨gb566, 7, none⟩) (Kd.R_far (p := ⟨gb566, 6, none⟩) (Kd.R_far (p := ⟨gb566, 5, none⟩) (Kd.R_far (p := ⟨gb566, 4, none⟩) (Kd.R_far (p := ⟨gb566, 3, none⟩) (Kd.R_far (p := ⟨gb566, 2, none⟩) (Kd.R_far (p := ⟨gb566, 1, none⟩) (Kd.R_far (p := ⟨gb566, 0, none⟩) (Kd.R_types HO_549012.out BK566.out (by decide)) (fun _ hk => hk.2) (.int .i64 t550)) (fun _ hk => hk.2) (.int .i64 t551)) (fun _ hk => hk.2) (.int .i64 t552)) (fun _ hk => hk.2) (.int .i64 t553)) (fun _ hk => hk.2) (.int .i64 t554)) (fun _ hk => hk.2) (.int .i64 t555)) (fun _ hk => hk.2) (.int .i64 t556)) (fun _ hk => hk.2) (.int .i64 t557)) (fun _ hk => hk.2) (.int .i64 t558)) (fun _ hk => hk.2) (.int .i64 t559)) (fun _ hk => hk.2) (.int .i64 t560)) (fun _ hk => hk.2) (.int .i64 t561)) (fun _ hk => hk.2) (.slice Ao31 t562.length co31)) (fun _ h_ => h_.1))))) (Kd.R_lt (by (with_reducible repeat (first | apply Kd.R_alloc | apply Kd.R_drewN | apply Kd.R_drew)); exact (Kd.R_mono (Kd.R_far (p := ⟨gb566, 12, none⟩) (Kd.R_far (p := ⟨gb566, 11, none⟩) (Kd.R_far (p := ⟨gb566, 10, none⟩) (Kd.R_far (p := ⟨gb566, 9, none⟩) (Kd.R_far (p := ⟨gb566, 8, none⟩) (Kd.R_far (p := ⟨gb566, 7, none⟩) (Kd.R_far (p := ⟨gb566, 6, none⟩) (Kd.R_far (p := ⟨gb566, 5, none⟩) (Kd.R_far (p := ⟨gb566, 4, none⟩) (Kd.R_far (p := ⟨gb566, 3, none⟩) (Kd.R_far (p := ⟨gb566, 2, none⟩) (Kd.R_far (p := ⟨gb566, 1, none⟩) (Kd.R_far (p := ⟨gb566, 0, none⟩) (Kd.R_types HO564.out BK566.out (by decide)) (fun _ hk => hk.2) (.int .i64 t550)) (fun _ hk => hk.2) (.int .i64 t551)) (fun _ hk => hk.2) (.int .i64 t552)) (fun _ hk => hk.2) (.int .i64 t553)) (fun _ hk => hk.2) (.int .i64 t554)) (fun _ hk => hk.2) (.int .i64 t555)) (fun _ hk => hk.2) (.int .i64 t556)) (fun _ hk => hk.2) (.int .i64 t557)) (fun _ hk => hk.2) (.int .i64 t558)) (fun _ hk => hk.2) (.int .i64 t559)) (fun _ hk => hk.2) (.int .i64 t560)) (fun _ hk => hk.2) (.int .i64 t561)) (fun _ hk => hk.2) (.slice Ao31 t562.length co31)) (fun _ h_ => h_.1))))) (below_size (by repeat (first | (with_reducible first | exact HB.out | apply below_alloc | apply pw_below_drewN | apply below_drew1 | refine below_set ?_ GE544.out | refine below_set ?_ GE548.out | refine below_set ?_ GE566.out) | exact HB.out)))); have n3_ := Aside0.mk (blk_below (g := gb544) (o := .cells #[.int .i64 0, .int .i64 0, .int .i64 0, .int .i64 0, .int .i64 0, .int .i64 0, .int .i64 0, .int .i64 0, .int .i64 0, .int .i64 0, .int .i64 0, .int .i64 0, .slice none 0 0] 28 (0, 0)) (by (with_reducible repeat (first | refine blk_drewN ?_ _ | refine blk_drew ?_ | refine blk_alloc ?_ _)); refine blk_far ?_ NB544_566.out _; (with_reducible repeat (first | refine blk_drewN ?_ _ | refine blk_drew ?_ | refine blk_alloc ?_ _)); refine blk_far ?_ NB544_566.out _; (with_reducible repeat (first | refine blk_drewN ?_ _ | refine blk_drew ?_ | refine blk_alloc ?_ _)); refine blk_far ?_ NB544_566.out _; (with_reducible repeat (first | refine blk_drewN ?_ _ | refine blk_drew ?_ | refine blk_alloc ?_ _)); refine blk_far ?_ NB544_566.out _; (with_reducible repeat (first | refine blk_drewN ?_ _ | refine blk_drew ?_ | refine blk_alloc ?_ _)); refine blk_far ?_ NB544_566.out _; (with_reducible repeat (first | refine blk_drewN ?_ _ | refine blk_drew ?_ | refine blk_alloc ?_ _)); refine blk_far ?_ NB544_566.out _; (with_reducible repeat (first | refine blk_drewN ?_ _ | refine blk_drew ?_ | refine blk_alloc ?_ _)); refine blk_far ?_ NB544_566.out _; (with_reducible repeat (first | refine blk_drewN ?_ _ | refine blk_drew ?_ | refine blk_alloc ?_ _)); refine blk_far ?_ NB544_566.out _; (with_reducible repeat (first | refine blk_drewN ?_ _ | refine blk_drew ?_ | refine blk_alloc ?_ _)); refine blk_far ?_ NB544_566.out _; (with_reducible repeat (first | refine blk_drewN ?_ _ | refine blk_drew ?_ | refine blk_alloc ?_ _)); refine blk_far ?_ NB544_566.out _; (with_reducible repeat (first | refine blk_drewN ?_ _ | refine blk_drew ?_ | refine blk_alloc ?_ _)); refine blk_far ?_ NB544_566.out _; (with_reducible repeat (first | refine blk_drewN ?_ _ | refine blk_drew ?_ | refine blk_alloc ?_ _)); refine blk_far ?_ NB544_566.out _; (with_reducible repeat (first | refine blk_drewN ?_ _ | refine blk_drew ?_ | refine blk_alloc ?_ _)); refine blk_far ?_ NB544_566.out _; (with_reducible repeat (first | refine blk_drewN ?_ _ | refine blk_drew ?_ | refine blk_alloc ?_ _)); exact BK544.out) hb); have n4_ := Aside0.mk (blk_below (g := gb548) (o := .cells #[.int .i64 x549000_1, .int .i64 x549001_1, .int .i64 x549002_1, .int .i64 x549003_1, .int .i64 x549004_1, .int .i64 x549005_1, .int .i64 x549006_1, .int .i64 x549007_1, .int .i64 x549008_1, .int .i64 x549009_1, .int .i64 x549010_1, .int .i64 x549011_1, .slice Ao34 x549012_1.length co34] 28 (0, 0)) (by (with_reducible repeat (first | refine blk_drewN ?_ _ | refine blk_drew ?_ | refine blk_alloc ?_ _)); refine blk_far ?_ NB548_566.out _; (with_reducible repeat (first | refine blk_drewN ?_ _ | refine blk_drew ?_ | refine blk_alloc ?_ _)); refine blk_far ?_ NB548_566.out _; (with_reducible repeat (first | refine blk_drewN ?_ _ | refine blk_drew ?_ | refine blk_alloc ?_ _)); refine blk_far ?_ NB548_566.out _; (with_reducible repeat (first | refine blk_drewN ?_ _ | refine blk_drew ?_ | refine blk_alloc ?_ _)); refine blk_far ?_ NB548_566.out _; (with_reducible repeat (first | refine blk_drewN ?_ _ | refine blk_drew ?_ | refine blk_alloc ?_ _)); refine blk_far ?_ NB548_566.out _; (with_reducible repeat (first | refine blk_drewN ?_ _ | refine blk_drew ?_ | refine blk_alloc ?_ _)); refine blk_far ?_ NB548_566.out _; (with_reducible repeat (first | refine blk_drewN ?_ _ | refine blk_drew ?_ | refine blk_alloc ?_ _)); refine blk_far ?_ NB548_566.out _; (with_reducible repeat (first | refine blk_drewN ?_ _ | refine blk_drew ?_ | refine blk_alloc ?_ _)); refine blk_far ?_ NB548_566.out _; (with_reducible repeat (first | refine blk_drewN ?_ _ | refine blk_drew ?_ | refine blk_alloc ?_ _)); refine blk_far ?_ NB548_566.out _; (with_reducible repeat (first | refine blk_drewN ?_ _ | refine blk_drew ?_ | refine blk_alloc ?_ _)); refine blk_far ?_ NB548_566.out _; (with_reducible repeat (first | refine blk_drewN ?_ _ | refine blk_drew ?_ | refine blk_alloc ?_ _)); refine blk_far ?_ NB548_566.out _; (with_reducible repeat (first | refine blk_drewN ?_ _ | refine blk_drew ?_ | refine blk_alloc ?_ _)); refine blk_far ?_ NB548_566.out _; (with_reducible repeat (first | refine blk_drewN ?_ _ | refine blk_drew ?_ | refine blk_alloc ?_ _)); refine blk_far ?_ NB548_566.out _; (with_reducible repeat (first | refine blk_drewN ?_ _ | refine blk_drew ?_ | refine blk_alloc ?_ _)); exact BK548.out) hb); have n5_ := Aside0.mk (blk_below (g := gb566) (o := .cells #[.int .i64 t550, .int .i64 t551, .int .i64 t552, .int .i64 t553, .int .i64 t554, .int .i64 t555, .int .i64 t556, .int .i64 t557, .int .i64 t558, .int .i64 t559, .int .i64 t560, .int .i64 t561, .slice Ao31 t562.length co31] 28 (0, 0)) (by (with_reducible repeat (first | refine blk_drewN ?_ _ | refine blk_drew ?_ | refine blk_alloc ?_ _)); refine blk_put (cs := #[.int .i64 t550, .int .i64 t551, .int .i64 t552, .int .i64 t553, .int .i64 t554, .int .i64 t555, .int .i64 t556, .int .i64 t557, .int .i64 t558, .int .i64 t559, .int .i64 t560, .int .i64 t561, .slice none 0 0]) ?_ 12 _ rfl; (with_reducible repeat (first | refine blk_drewN ?_ _ | refine blk_drew ?_ | refine blk_alloc ?_ _)); refine blk_put (cs := #[.int .i64 t550, .int .i64 t551, .int .i64 t552, .int .i64 t553, .int .i64 t554, .int .i64 t555, .int .i64 t556, .int .i64 t557, .int .i64 t558, .int .i64 t559, .int .i64 t560, .int .i64 0, .slice none 0 0]) ?_ 11 _ rfl; (with_reducible repeat (first | refine blk_drewN ?_ _ | refine blk_drew ?_ | refine blk_alloc ?_ _)); refine blk_put (cs := #[.int .i64 t550, .int .i64 t551, .int .i64 t552, .int .i64 t553, .int .i64 t554, .int .i64 t555, .int .i64 t556, .int .i64 t557, .int .i64 t558, .int .i64 t559, .int .i64 0, .int .i64 0, .slice none 0 0]) ?_ 10 _ rfl; (with_reducible repeat (first | refine blk_drewN ?_ _ | refine blk_drew ?_ | refine blk_alloc ?_ _)); refine blk_put (cs := #[.int .i64 t550, .int .i64 t551, .int .i64 t552, .int .i64 t553, .int .i64 t554, .int .i64 t555, .int .i64 t556, .int .i64 t557, .int .i64 t558, .int .i64 0, .int .i64 0, .int .i64 0, .slice none 0 0]) ?_ 9 _ rfl; (with_reducible repeat (first | refine blk_drewN ?_ _ | refine blk_drew ?_ | refine blk_alloc ?_ _)); refine blk_put (cs := #[.int .i64 t550, .int .i64 t551, .int .i64 t552, .int .i64 t553, .int .i64 t554, .int .i64 t555, .int .i64 t556, .int .i64 t557, .int .i64 0, .int .i64 0, .int .i64 0, .int .i64 0, .slice none 0 0]) ?_ 8 _ rfl; (with_reducible repeat (first | refine blk_drewN ?_ _ | refine blk_drew ?_ | refine blk_alloc ?_ _)); refine blk_put (cs := #[.int .i64 t550, .int .i64 t551, .int .i64 t552, .int .i64 t553, .int .i64 t554, .int .i64 t555, .int .i64 t556, .int .i64 0, .int .i64 0, .int .i64 0, .int .i64 0, .int .i64 0, .slice none 0 0]) ?_ 7 _ rfl; (with_reducible repeat (first | refine blk_drewN ?_ _ | refine blk_drew ?_ | refine blk_alloc ?_ _)); refine blk_put (cs := #[.int .i64 t550, .int .i64 t551, .int .i64 t552, .int .i64 t553, .int .i64 t554, .int .i64 t555, .int .i64 0, .int .i64 0, .int .i64 0, .int .i64 0, .int .i64 0, .int .i64 0, .slice none 0 0]) ?_ 6 _ rfl; (with_reducible repeat (first | refine blk_drewN ?_ _ | refine blk_drew ?_ | refine blk_alloc ?_ _)); refine blk_put (cs := #[.int .i64 t550, .int .i64 t551, .int .i64 t552, .int .i64 t553, .int .i64 t554, .int .i64 0, .int .i64 0, .int .i64 0, .int .i64 0, .int .i64 0, .int .i64 0, .int .i64 0, .slice none 0 0]) ?_ 5 _ rfl; (with_reducible repeat (first | refine blk_drewN ?_ _ | refine blk_drew ?_ | refine blk_alloc ?_ _)); refine blk_put (cs := #[.int .i64 t550, .int .i64 t551, .int .i64 t552, .int .i64 t553, .int .i64 0, .int .i64 0, .int .i64 0, .int .i64 0, .int .i64 0, .int .i64 0, .int .i64 0, .int .i64 0, .slice none 0 0]) ?_ 4 _ rfl; (with_reducible repeat (first | refine blk_drewN ?_ _ | refine blk_drew ?_ | refine blk_alloc ?_ _)); refine blk_put (cs := #[.int .i64 t550, .int .i64 t551, .int .i64 t552, .int .i64 0, .int .i64 0, .int .i64 0, .int .i64 0, .int .i64 0, .int .i64 0, .int .i64 0, .int .i64 0, .int .i64 0, .slice none 0 0]) ?_ 3 _ rfl; (with_reducible repeat (first | refine blk_drewN ?_ _ | refine blk_drew ?_ | refine blk_alloc ?_ _)); refine blk_put (cs := #[.int .i64 t550, .int .i64 t551, .int .i64 0, .int .i64 0, .int .i64 0, .int .i64 0, .int .i64 0, .int .i64 0, .int .i64 0, .int .i64 0, .int .i64 0, .int .i64 0, .slice none 0 0]) ?_ 2 _ rfl; (with_reducible repeat (first | refine blk_drewN ?_ _ | refine blk_drew ?_ | refine blk_alloc ?_ _)); refine blk_put (cs := #[.int .i64 t550, .int .i64 0, .int .i64 0, .int .i64 0, .int .i64 0, .int .i64 0, .int .i64 0, .int .i64 0, .int .i64 0, .int .i64 0, .int .i64 0, .int .i64 0, .slice none 0 0]) ?_ 1 _ rfl; (with_reducible repeat (first | refine blk_drewN ?_ _ | refine blk_drew ?_ | refine blk_alloc ?_ _)); refine blk_put (cs := #[.int .i64 0, .int .i64 0, .int .i64 0, .int .i64 0, .int .i64 0, .int .i64 0, .int .i64 0, .int .i64 0, .int .i64 0, .int .i64 0, .int .i64 0, .int .i64 0, .slice none 0 0]) ?_ 0 _ rfl; (with_reducible repeat (first | refine blk_drewN ?_ _ | refine blk_drew ?_ | refine blk_alloc ?_ _)); exact BK566.out) hb); have n6_ := Aside0.mk (below_step (by repeat (first | (with_reducible first | exact HB.out | apply below_alloc | apply pw_below_drewN | apply below_drew1 | refine below_set ?_ GE544.out | refine below_set ?_ GE548.out | refine below_set ?_ GE566.out) | exact HB.out)) hb); clear HO_549012; clear HO564; clear BK544; clear BK548; clear BK566; clear HB; have HO_549012 := n0_; have HO564 := n1_; have HO581 := n2_; have BK544 := n3_; have BK548 := n4_; have BK566 := n5_; have HB := n6_; clear n0_ n1_ n2_ n3_ n4_ n5_ n6_; (try clear hb); (try clear hb2); (try clear hk); (try clear hi); (try clear ho0); have hcz36_0 : w35.cell? ⟨gb548, 0, none⟩ = some (.int .i64 x549000_1) := (blk_cell BK548.out 0).trans rfl; have hcz36_1 : w35.cell? ⟨gb548, 1, none⟩ = some (.int .i64 x549001_1) := (blk_cell BK548.out 1).trans rfl; have hcz36_2 : w35.cell? ⟨gb548, 2, none⟩ = some (.int .i64 x549002_1) := (blk_cell BK548.out 2).trans rfl; have hcz36_3 : w35.cell? ⟨gb548, 3, none⟩ = some (.int .i64 x549003_1) := (blk_cell BK548.out 3).trans rfl; have hcz36_4 : w35.cell? ⟨gb548, 4, none⟩ = some (.int .i64 x549004_1) := (blk_cell BK548.out 4).trans rfl; have hcz36_5 : w35.cell? ⟨gb548, 5, none⟩ = some (.int .i64 x549005_1) := (blk_cell BK548.out 5).trans rfl; have hcz36_6 : w35.cell? ⟨gb548, 6, none⟩ = some (.int .i64 x549006_1) := (blk_cell BK548.out 6).trans rfl; have hcz36_7 : w35.cell? ⟨gb548, 7, none⟩ = some (.int .i64 x549007_1) := (blk_cell BK548.out 7).trans rfl; have hcz36_8 : w35.cell? ⟨gb548, 8, none⟩ = some (.int .i64 x549008_1) := (blk_cell BK548.out 8).trans rfl; have hcz36_9 : w35.cell? ⟨gb548, 9, none⟩ = some (.int .i64 x549009_1) := (blk_cell BK548.out 9).trans rfl; have hcz36_10 : w35.cell? ⟨gb548, 10, none⟩ = some (.int .i64 x549010_1) := (blk_cell BK548.out 10).trans rfl; have hcz36_11 : w35.cell? ⟨gb548, 11, none⟩ = some (.int .i64 x549011_1) := (blk_cell BK548.out 11).trans rfl; have hcz36_12 : w35.cell? ⟨gb548, 12, none⟩ = some (.slice Ao34 x549012_1.length co34) := (blk_cell BK548.out 12).trans rfl; have hfz36_0 := blk_frozen BK548.out 0; have hfz36_1 := blk_frozen BK548.out 1; have hfz36_2 := blk_frozen BK548.out 2; have hfz36_3 := blk_frozen BK548.out 3; have hfz36_4 := blk_frozen BK548.out 4; have hfz36_5 := blk_frozen BK548.out 5; have hfz36_6 := blk_frozen BK548.out 6; have hfz36_7 := blk_frozen BK548.out 7; have hfz36_8 := blk_frozen BK548.out 8; have hfz36_9 := blk_frozen BK548.out 9; have hfz36_10 := blk_frozen BK548.out 10; have hfz36_11 := blk_frozen BK548.out 11; have hfz36_12 := blk_frozen BK548.out 12; obtain ⟨Ao37, co37, eo37⟩ := Kd.R_slice HO581.out; subst eo37))
                go_roundg k1
                case measure => have := HK1.out; omega
                case rel => exact ⟨(wrap64 (x6_1 + 1)), (t567), (t568), (t569), (t570), (t571), (t572), (t573), (t574), (t575), (t576), (t577), (t578), (t579), (.slice Ao37 t579.length co37), (by first | rfl | (simp; done) | (simp [*]; done)), H', ⟨by have := HK1.out; omega⟩, ⟨by (with_reducible repeat (first | apply Kd.R_alloc | apply Kd.R_drewN | apply Kd.R_drew)); exact Kd.R_mono (Kd.R_far (p := ⟨gb548, 12, none⟩) (Kd.R_far (p := ⟨gb548, 11, none⟩) (Kd.R_far (p := ⟨gb548, 10, none⟩) (Kd.R_far (p := ⟨gb548, 9, none⟩) (Kd.R_far (p := ⟨gb548, 8, none⟩) (Kd.R_far (p := ⟨gb548, 7, none⟩) (Kd.R_far (p := ⟨gb548, 6, none⟩) (Kd.R_far (p := ⟨gb548, 5, none⟩) (Kd.R_far (p := ⟨gb548, 4, none⟩) (Kd.R_far (p := ⟨gb548, 3, none⟩) (Kd.R_far (p := ⟨gb548, 2, none⟩) (Kd.R_far (p := ⟨gb548, 1, none⟩) (Kd.R_far (p := ⟨gb548, 0, none⟩) (Kd.R_types HO581.out BK548.out (by decide)) (fun _ hk => hk.2) (.int .i64 t567)) (fun _ hk => hk.2) (.int .i64 t568)) (fun _ hk => hk.2) (.int .i64 t569)) (fun _ hk => hk.2) (.int .i64 t570)) (fun _ hk => hk.2) (.int .i64 t571)) (fun _ hk => hk.2) (.int .i64 t572)) (fun _ hk => hk.2) (.int .i64 t573)) (fun _ hk => hk.2) (.int .i64 t574)) (fun _ hk => hk.2) (.int .i64 t575)) (fun _ hk => hk.2) (.int .i64 t576)) (fun _ hk => hk.2) (.int .i64 t577)) (fun _ hk => hk.2) (.int .i64 t578)) (fun _ hk => hk.2) (.slice Ao37 t579.length co37)) (fun _ hk => trivial)⟩, ⟨by (with_reducible repeat (first | refine blk_drewN ?_ _ | refine blk_drew ?_ | refine blk_alloc ?_ _)); refine blk_far ?_ NB544_548.out _; (with_reducible repeat (first | refine blk_drewN ?_ _ | refine blk_drew ?_ | refine blk_alloc ?_ _)); refine blk_far ?_ NB544_548.out _; (with_reducible repeat (first | refine blk_drewN ?_ _ | refine blk_drew ?_ | refine blk_alloc ?_ _)); refine blk_far ?_ NB544_548.out _; (with_reducible repeat (first | refine blk_drewN ?_ _ | refine blk_drew ?_ | refine blk_alloc ?_ _)); refine blk_far ?_ NB544_548.out _; (with_reducible repeat (first | refine blk_drewN ?_ _ | refine blk_drew ?_ | refine blk_alloc ?_ _)); refine blk_far ?_ NB544_548.out _; (with_reducible repeat (first | refine blk_drewN ?_ _ | refine blk_drew ?_ | refine blk_alloc ?_ _)); refine blk_far ?_ NB544_548.out _; (with_reducible repeat (first | refine blk_drewN ?_ _ | refine blk_drew ?_ | refine blk_alloc ?_ _)); refine blk_far ?_ NB544_548.out _; (with_reducible repeat (first | refine blk_drewN ?_ _ | refine blk_drew ?_ | refine blk_alloc ?_ _)); refine blk_far ?_ NB544_548.out _; (with_reducible repeat (first | refine blk_drewN ?_ _ | refine blk_drew ?_ | refine blk_alloc ?_ _)); refine blk_far ?_ NB544_548.out _; (with_reducible repeat (first | refine blk_drewN ?_ _ | refine blk_drew ?_ | refine blk_alloc ?_ _)); refine blk_far ?_ NB544_548.out _; (with_reducible repeat (first | refine blk_drewN ?_ _ | refine blk_drew ?_ | refine blk_alloc ?_ _)); refine blk_far ?_ NB544_548.out _; (with_reducible repeat (first | refine blk_drewN ?_ _ | refine blk_drew ?_ | refine blk_alloc ?_ _)); refine blk_far ?_ NB544_548.out _; (with_reducible repeat (first | refine blk_drewN ?_ _ | refine blk_drew ?_ | refine blk_alloc ?_ _)); refine blk_far ?_ NB544_548.out _; (with_reducible repeat (first | refine blk_drewN ?_ _ | refine blk_drew ?_ | refine blk_alloc ?_ _)); exact BK544.out⟩, ⟨by (with_reducible repeat (first | refine blk_drewN ?_ _ | refine blk_drew ?_ | refine blk_alloc ?_ _)); refine blk_put (cs := #[.int .i64 t567, .int .i64 t568, .int .i64 t569, .int .i64 t570, .int .i64 t571, .int .i64 t572, .int .i64 t573, .int .i64 t574, .int .i64 t575, .int .i64 t576, .int .i64 t577, .int .i64 t578, .slice Ao34 x549012_1.length co34]) ?_ 12 _ rfl; (with_reducible repeat (first | refine blk_drewN ?_ _ | refine blk_drew ?_ | refine blk_alloc ?_ _)); refine blk_put (cs := #[.int .i64 t567, .int .i64 t568, .int .i64 t569, .int .i64 t570, .int .i64 t571, .int .i64 t572, .int .i64 t573, .int .i64 t574, .int .i64 t575, .int .i64 t576, .int .i64 t577, .int .i64 x549011_1, .slice Ao34 x549012_1.length co34]) ?_ 11 _ rfl; (with_reducible repeat (first | refine blk_drewN ?_ _ | refine blk_drew ?_ | refine blk_alloc ?_ _)); refine blk_put (cs := #[.int .i64 t567, .int .i64 t568, .int .i64 t569, .int .i64 t570, .int .i64 t571, .int .i64 t572, .int .i64 t573, .int .i64 t574, .int .i64 t575, .int .i64 t576, .int .i64 x549010_1, .int .i64 x549011_1, .slice Ao34 x549012_1.length co34]) ?_ 10 _ rfl; (with_reducible repeat (first | refine blk_drewN ?_ _ | refine blk_drew ?_ | refine blk_alloc ?_ _)); refine blk_put (cs := #[.int .i64 t567, .int .i64 t568, .int .i64 t569, .int .i64 t570, .int .i64 t571, .int .i64 t572, .int .i64 t573, .int .i64 t574, .int .i64 t575, .int .i64 x549009_1, .int .i64 x549010_1, .int .i64 x549011_1, .slice Ao34 x549012_1.length co34]) ?_ 9 _ rfl; (with_reducible repeat (first | refine blk_drewN ?_ _ | refine blk_drew ?_ | refine blk_alloc ?_ _)); refine blk_put (cs := #[.int .i64 t567, .int .i64 t568, .int .i64 t569, .int .i64 t570, .int .i64 t571, .int .i64 t572, .int .i64 t573, .int .i64 t574, .int .i64 x549008_1, .int .i64 x549009_1, .int .i64 x549010_1, .int .i64 x549011_1, .slice Ao34 x549012_1.length co34]) ?_ 8 _ rfl; (with_reducible repeat (first | refine blk_drewN ?_ _ | refine blk_drew ?_ | refine blk_alloc ?_ _)); refine blk_put (cs := #[.int .i64 t567, .int .i64 t568, .int .i64 t569, .int .i64 t570, .int .i64 t571, .int .i64 t572, .int .i64 t573, .int .i64 x549007_1, .int .i64 x549008_1, .int .i64 x549009_1, .int .i64 x549010_1, .int .i64 x549011_1, .slice Ao34 x549012_1.length co34]) ?_ 7 _ rfl; (with_reducible repeat (first | refine blk_drewN ?_ _ | refine blk_drew ?_ | refine blk_alloc ?_ _)); refine blk_put (cs := #[.int .i64 t567, .int .i64 t568, .int .i64 t569, .int .i64 t570, .int .i64 t571, .int .i64 t572, .int .i64 x549006_1, .int .i64 x549007_1, .int .i64 x549008_1, .int .i64 x549009_1, .int .i64 x549010_1, .int .i64 x549011_1, .slice Ao34 x549012_1.length co34]) ?_ 6 _ rfl; (with_reducible repeat (first | refine blk_drewN ?_ _ | refine blk_drew ?_ | refine blk_alloc ?_ _)); refine blk_put (cs := #[.int .i64 t567, .int .i64 t568, .int .i64 t569, .int .i64 t570, .int .i64 t571, .int .i64 x549005_1, .int .i64 x549006_1, .int .i64 x549007_1, .int .i64 x549008_1, .int .i64 x549009_1, .int .i64 x549010_1, .int .i64 x549011_1, .slice Ao34 x549012_1.length co34]) ?_ 5 _ rfl; (with_reducible repeat (first | refine blk_drewN ?_ _ | refine blk_drew ?_ | refine blk_alloc ?_ _)); refine blk_put (cs := #[.int .i64 t567, .int .i64 t568, .int .i64 t569, .int .i64 t570, .int .i64 x549004_1, .int .i64 x549005_1, .int .i64 x549006_1, .int .i64 x549007_1, .int .i64 x549008_1, .int .i64 x549009_1, .int .i64 x549010_1, .int .i64 x549011_1, .slice Ao34 x549012_1.length co34]) ?_ 4 _ rfl; (with_reducible repeat (first | refine blk_drewN ?_ _ | refine blk_drew ?_ | refine blk_alloc ?_ _)); refine blk_put (cs := #[.int .i64 t567, .int .i64 t568, .int .i64 t569, .int .i64 x549003_1, .int .i64 x549004_1, .int .i64 x549005_1, .int .i64 x549006_1, .int .i64 x549007_1, .int .i64 x549008_1, .int .i64 x549009_1, .int .i64 x549010_1, .int .i64 x549011_1, .slice Ao34 x549012_1.length co34]) ?_ 3 _ rfl; (with_reducible repeat (first | refine blk_drewN ?_ _ | refine blk_drew ?_ | refine blk_alloc ?_ _)); refine blk_put (cs := #[.int .i64 t567, .int .i64 t568, .int .i64 x549002_1, .int .i64 x549003_1, .int .i64 x549004_1, .int .i64 x549005_1, .int .i64 x549006_1, .int .i64 x549007_1, .int .i64 x549008_1, .int .i64 x549009_1, .int .i64 x549010_1, .int .i64 x549011_1, .slice Ao34 x549012_1.length co34]) ?_ 2 _ rfl; (with_reducible repeat (first | refine blk_drewN ?_ _ | refine blk_drew ?_ | refine blk_alloc ?_ _)); refine blk_put (cs := #[.int .i64 t567, .int .i64 x549001_1, .int .i64 x549002_1, .int .i64 x549003_1, .int .i64 x549004_1, .int .i64 x549005_1, .int .i64 x549006_1, .int .i64 x549007_1, .int .i64 x549008_1, .int .i64 x549009_1, .int .i64 x549010_1, .int .i64 x549011_1, .slice Ao34 x549012_1.length co34]) ?_ 1 _ rfl; (with_reducible repeat (first | refine blk_drewN ?_ _ | refine blk_drew ?_ | refine blk_alloc ?_ _)); refine blk_put (cs := #[.int .i64 x549000_1, .int .i64 x549001_1, .int .i64 x549002_1, .int .i64 x549003_1, .int .i64 x549004_1, .int .i64 x549005_1, .int .i64 x549006_1, .int .i64 x549007_1, .int .i64 x549008_1, .int .i64 x549009_1, .int .i64 x549010_1, .int .i64 x549011_1, .slice Ao34 x549012_1.length co34]) ?_ 0 _ rfl; (with_reducible repeat (first | refine blk_drewN ?_ _ | refine blk_drew ?_ | refine blk_alloc ?_ _)); exact BK548.out⟩, ⟨by repeat (first | (with_reducible first | exact HB.out | apply below_alloc | apply pw_below_drewN | apply below_drew1 | refine below_set ?_ GE544.out | refine below_set ?_ GE548.out | refine below_set ?_ GE566.out) | exact HB.out)⟩⟩
            · rw [if_neg c14] at H
              exact absurd H (by simp)
          · rw [if_neg c13] at H
            have c13b0 : decide (x6_1 < (l0.length : Int)) = false := decide_eq_false c13
            clear c13
            simp only [Option.some.injEq, Prod.mk.injEq] at H
            obtain ⟨rfl, rfl, rfl, rfl, rfl, rfl, rfl, rfl, rfl, rfl, rfl, rfl, rfl⟩ := H
            have hnb38 := NB548_544.out
            have hnc38 := NB544_548.out
            have hcz39_0 : wr.cell? ⟨gb548, 0, none⟩ = some (.int .i64 x549000_1) := (blk_cell BK548.out 0).trans rfl
            have hcz39_1 : wr.cell? ⟨gb548, 1, none⟩ = some (.int .i64 x549001_1) := (blk_cell BK548.out 1).trans rfl
            have hcz39_2 : wr.cell? ⟨gb548, 2, none⟩ = some (.int .i64 x549002_1) := (blk_cell BK548.out 2).trans rfl
            have hcz39_3 : wr.cell? ⟨gb548, 3, none⟩ = some (.int .i64 x549003_1) := (blk_cell BK548.out 3).trans rfl
            have hcz39_4 : wr.cell? ⟨gb548, 4, none⟩ = some (.int .i64 x549004_1) := (blk_cell BK548.out 4).trans rfl
            have hcz39_5 : wr.cell? ⟨gb548, 5, none⟩ = some (.int .i64 x549005_1) := (blk_cell BK548.out 5).trans rfl
            have hcz39_6 : wr.cell? ⟨gb548, 6, none⟩ = some (.int .i64 x549006_1) := (blk_cell BK548.out 6).trans rfl
            have hcz39_7 : wr.cell? ⟨gb548, 7, none⟩ = some (.int .i64 x549007_1) := (blk_cell BK548.out 7).trans rfl
            have hcz39_8 : wr.cell? ⟨gb548, 8, none⟩ = some (.int .i64 x549008_1) := (blk_cell BK548.out 8).trans rfl
            have hcz39_9 : wr.cell? ⟨gb548, 9, none⟩ = some (.int .i64 x549009_1) := (blk_cell BK548.out 9).trans rfl
            have hcz39_10 : wr.cell? ⟨gb548, 10, none⟩ = some (.int .i64 x549010_1) := (blk_cell BK548.out 10).trans rfl
            have hcz39_11 : wr.cell? ⟨gb548, 11, none⟩ = some (.int .i64 x549011_1) := (blk_cell BK548.out 11).trans rfl
            have hcz39_12 : wr.cell? ⟨gb548, 12, none⟩ = some (u549012) := (blk_cell BK548.out 12).trans rfl
            have hfz39_0 := blk_frozen BK548.out 0
            have hfz39_1 := blk_frozen BK548.out 1
            have hfz39_2 := blk_frozen BK548.out 2
            have hfz39_3 := blk_frozen BK548.out 3
            have hfz39_4 := blk_frozen BK548.out 4
            have hfz39_5 := blk_frozen BK548.out 5
            have hfz39_6 := blk_frozen BK548.out 6
            have hfz39_7 := blk_frozen BK548.out 7
            have hfz39_8 := blk_frozen BK548.out 8
            have hfz39_9 := blk_frozen BK548.out 9
            have hfz39_10 := blk_frozen BK548.out 10
            have hfz39_11 := blk_frozen BK548.out 11
            have hfz39_12 := blk_frozen BK548.out 12
            have hcz40_0 : wr.cell? ⟨gb544, 0, none⟩ = some (.int .i64 0) := (blk_cell BK544.out 0).trans rfl
            have hcz40_1 : wr.cell? ⟨gb544, 1, none⟩ = some (.int .i64 0) := (blk_cell BK544.out 1).trans rfl
            have hcz40_2 : wr.cell? ⟨gb544, 2, none⟩ = some (.int .i64 0) := (blk_cell BK544.out 2).trans rfl
            have hcz40_3 : wr.cell? ⟨gb544, 3, none⟩ = some (.int .i64 0) := (blk_cell BK544.out 3).trans rfl
            have hcz40_4 : wr.cell? ⟨gb544, 4, none⟩ = some (.int .i64 0) := (blk_cell BK544.out 4).trans rfl
            have hcz40_5 : wr.cell? ⟨gb544, 5, none⟩ = some (.int .i64 0) := (blk_cell BK544.out 5).trans rfl
            have hcz40_6 : wr.cell? ⟨gb544, 6, none⟩ = some (.int .i64 0) := (blk_cell BK544.out 6).trans rfl
            have hcz40_7 : wr.cell? ⟨gb544, 7, none⟩ = some (.int .i64 0) := (blk_cell BK544.out 7).trans rfl
            have hcz40_8 : wr.cell? ⟨gb544, 8, none⟩ = some (.int .i64 0) := (blk_cell BK544.out 8).trans rfl
            have hcz40_9 : wr.cell? ⟨gb544, 9, none⟩ = some (.int .i64 0) := (blk_cell BK544.out 9).trans rfl
            have hcz40_10 : wr.cell? ⟨gb544, 10, none⟩ = some (.int .i64 0) := (blk_cell BK544.out 10).trans rfl
            have hcz40_11 : wr.cell? ⟨gb544, 11, none⟩ = some (.int .i64 0) := (blk_cell BK544.out 11).trans rfl
            have hcz40_12 : wr.cell? ⟨gb544, 12, none⟩ = some (.slice none 0 0) := (blk_cell BK544.out 12).trans rfl
            have hfz40_0 := blk_frozen BK544.out 0
            have hfz40_1 := blk_frozen BK544.out 1
            have hfz40_2 := blk_frozen BK544.out 2
            have hfz40_3 := blk_frozen BK544.out 3
            have hfz40_4 := blk_frozen BK544.out 4
            have hfz40_5 := blk_frozen BK544.out 5
            have hfz40_6 := blk_frozen BK544.out 6
            have hfz40_7 := blk_frozen BK544.out 7
            have hfz40_8 := blk_frozen BK544.out 8
            have hfz40_9 := blk_frozen BK544.out 9
            have hfz40_10 := blk_frozen BK544.out 10
            have hfz40_11 := blk_frozen BK544.out 11
            have hfz40_12 := blk_frozen BK544.out 12
            obtain ⟨Ao41, co41, eo41⟩ := Kd.R_slice HO_549012.out
            subst eo41
            go_wp2
            refine bodyPost_ret (results_cell_row rfl _ _ gb544 28 #[.int .i64 x549000_1, .int .i64 x549001_1, .int .i64 x549002_1, .int .i64 x549003_1, .int .i64 x549004_1, .int .i64 x549005_1, .int .i64 x549006_1, .int .i64 x549007_1, .int .i64 x549008_1, .int .i64 x549009_1, .int .i64 x549010_1, .int .i64 x549011_1, .slice Ao41 x549012_1.length co41] (0, 0) _ rfl (by (with_reducible repeat (first | refine blk_drewN ?_ _ | refine blk_drew ?_ | refine blk_alloc ?_ _)); refine blk_put (cs := #[.int .i64 x549000_1, .int .i64 x549001_1, .int .i64 x549002_1, .int .i64 x549003_1, .int .i64 x549004_1, .int .i64 x549005_1, .int .i64 x549006_1, .int .i64 x549007_1, .int .i64 x549008_1, .int .i64 x549009_1, .int .i64 x549010_1, .int .i64 x549011_1, .slice none 0 0]) ?_ 12 _ rfl; (with_reducible repeat (first | refine blk_drewN ?_ _ | refine blk_drew ?_ | refine blk_alloc ?_ _)); refine blk_put (cs := #[.int .i64 x549000_1, .int .i64 x549001_1, .int .i64 x549002_1, .int .i64 x549003_1, .int .i64 x549004_1, .int .i64 x549005_1, .int .i64 x549006_1, .int .i64 x549007_1, .int .i64 x549008_1, .int .i64 x549009_1, .int .i64 x549010_1, .int .i64 0, .slice none 0 0]) ?_ 11 _ rfl; (with_reducible repeat (first | refine blk_drewN ?_ _ | refine blk_drew ?_ | refine blk_alloc ?_ _)); refine blk_put (cs := #[.int .i64 x549000_1, .int .i64 x549001_1, .int .i64 x549002_1, .int .i64 x549003_1, .int .i64 x549004_1, .int .i64 x549005_1, .int .i64 x549006_1, .int .i64 x549007_1, .int .i64 x549008_1, .int .i64 x549009_1, .int .i64 0, .int .i64 0, .slice none 0 0]) ?_ 10 _ rfl; (with_reducible repeat (first | refine blk_drewN ?_ _ | refine blk_drew ?_ | refine blk_alloc ?_ _)); refine blk_put (cs := #[.int .i64 x549000_1, .int .i64 x549001_1, .int .i64 x549002_1, .int .i64 x549003_1, .int .i64 x549004_1, .int .i64 x549005_1, .int .i64 x549006_1, .int .i64 x549007_1, .int .i64 x549008_1, .int .i64 0, .int .i64 0, .int .i64 0, .slice none 0 0]) ?_ 9 _ rfl; (with_reducible repeat (first | refine blk_drewN ?_ _ | refine blk_drew ?_ | refine blk_alloc ?_ _)); refine blk_put (cs := #[.int .i64 x549000_1, .int .i64 x549001_1, .int .i64 x549002_1, .int .i64 x549003_1, .int .i64 x549004_1, .int .i64 x549005_1, .int .i64 x549006_1, .int .i64 x549007_1, .int .i64 0, .int .i64 0, .int .i64 0, .int .i64 0, .slice none 0 0]) ?_ 8 _ rfl; (with_reducible repeat (first | refine blk_drewN ?_ _ | refine blk_drew ?_ | refine blk_alloc ?_ _)); refine blk_put (cs := #[.int .i64 x549000_1, .int .i64 x549001_1, .int .i64 x549002_1, .int .i64 x549003_1, .int .i64 x549004_1, .int .i64 x549005_1, .int .i64 x549006_1, .int .i64 0, .int .i64 0, .int .i64 0, .int .i64 0, .int .i64 0, .slice none 0 0]) ?_ 7 _ rfl; (with_reducible repeat (first | refine blk_drewN ?_ _ | refine blk_drew ?_ | refine blk_alloc ?_ _)); refine blk_put (cs := #[.int .i64 x549000_1, .int .i64 x549001_1, .int .i64 x549002_1, .int .i64 x549003_1, .int .i64 x549004_1, .int .i64 x549005_1, .int .i64 0, .int .i64 0, .int .i64 0, .int .i64 0, .int .i64 0, .int .i64 0, .slice none 0 0]) ?_ 6 _ rfl; (with_reducible repeat (first | refine blk_drewN ?_ _ | refine blk_drew ?_ | refine blk_alloc ?_ _)); refine blk_put (cs := #[.int .i64 x549000_1, .int .i64 x549001_1, .int .i64 x549002_1, .int .i64 x549003_1, .int .i64 x549004_1, .int .i64 0, .int .i64 0, .int .i64 0, .int .i64 0, .int .i64 0, .int .i64 0, .int .i64 0, .slice none 0 0]) ?_ 5 _ rfl; (with_reducible repeat (first | refine blk_drewN ?_ _ | refine blk_drew ?_ | refine blk_alloc ?_ _)); refine blk_put (cs := #[.int .i64 x549000_1, .int .i64 x549001_1, .int .i64 x549002_1, .int .i64 x549003_1, .int .i64 0, .int .i64 0, .int .i64 0, .int .i64 0, .int .i64 0, .int .i64 0, .int .i64 0, .int .i64 0, .slice none 0 0]) ?_ 4 _ rfl; (with_reducible repeat (first | refine blk_drewN ?_ _ | refine blk_drew ?_ | refine blk_alloc ?_ _)); refine blk_put (cs := #[.int .i64 x549000_1, .int .i64 x549001_1, .int .i64 x549002_1, .int .i64 0, .int .i64 0, .int .i64 0, .int .i64 0, .int .i64 0, .int .i64 0, .int .i64 0, .int .i64 0, .int .i64 0, .slice none 0 0]) ?_ 3 _ rfl; (with_reducible repeat (first | refine blk_drewN ?_ _ | refine blk_drew ?_ | refine blk_alloc ?_ _)); refine blk_put (cs := #[.int .i64 x549000_1, .int .i64 x549001_1, .int .i64 0, .int .i64 0, .int .i64 0, .int .i64 0, .int .i64 0, .int .i64 0, .int .i64 0, .int .i64 0, .int .i64 0, .int .i64 0, .slice none 0 0]) ?_ 2 _ rfl; (with_reducible repeat (first | refine blk_drewN ?_ _ | refine blk_drew ?_ | refine blk_alloc ?_ _)); refine blk_put (cs := #[.int .i64 x549000_1, .int .i64 0, .int .i64 0, .int .i64 0, .int .i64 0, .int .i64 0, .int .i64 0, .int .i64 0, .int .i64 0, .int .i64 0, .int .i64 0, .int .i64 0, .slice none 0 0]) ?_ 1 _ rfl; (with_reducible repeat (first | refine blk_drewN ?_ _ | refine blk_drew ?_ | refine blk_alloc ?_ _)); refine blk_put (cs := #[.int .i64 0, .int .i64 0, .int .i64 0, .int .i64 0, .int .i64 0, .int .i64 0, .int .i64 0, .int .i64 0, .int .i64 0, .int .i64 0, .int .i64 0, .int .i64 0, .slice none 0 0]) ?_ 0 _ rfl; (with_reducible repeat (first | refine blk_drewN ?_ _ | refine blk_drew ?_ | refine blk_alloc ?_ _)); exact BK544.out) Try.underlying28 rfl (by kernel_rfl)) rfl ?_
            exact ⟨_, by first | rfl | (simp [errW_none, errW_some] <;> rfl) | (simp only [← hji3]; first | rfl | (simp [errW_none, errW_some] <;> rfl)) | (simp [*, errW_none, errW_some] <;> rfl), by (with_reducible repeat (first | apply Kd.R_alloc | apply Kd.R_drewN | apply Kd.R_drew)); exact Kd.R_mono (Kd.R_far (p := ⟨gb544, 12, none⟩) (Kd.R_far (p := ⟨gb544, 11, none⟩) (Kd.R_far (p := ⟨gb544, 10, none⟩) (Kd.R_far (p := ⟨gb544, 9, none⟩) (Kd.R_far (p := ⟨gb544, 8, none⟩) (Kd.R_far (p := ⟨gb544, 7, none⟩) (Kd.R_far (p := ⟨gb544, 6, none⟩) (Kd.R_far (p := ⟨gb544, 5, none⟩) (Kd.R_far (p := ⟨gb544, 4, none⟩) (Kd.R_far (p := ⟨gb544, 3, none⟩) (Kd.R_far (p := ⟨gb544, 2, none⟩) (Kd.R_far (p := ⟨gb544, 1, none⟩) (Kd.R_far (p := ⟨gb544, 0, none⟩) (Kd.R_types HO_549012.out BK544.out (by decide)) (fun _ hk => hk.2) (.int .i64 x549000_1)) (fun _ hk => hk.2) (.int .i64 x549001_1)) (fun _ hk => hk.2) (.int .i64 x549002_1)) (fun _ hk => hk.2) (.int .i64 x549003_1)) (fun _ hk => hk.2) (.int .i64 x549004_1)) (fun _ hk => hk.2) (.int .i64 x549005_1)) (fun _ hk => hk.2) (.int .i64 x549006_1)) (fun _ hk => hk.2) (.int .i64 x549007_1)) (fun _ hk => hk.2) (.int .i64 x549008_1)) (fun _ hk => hk.2) (.int .i64 x549009_1)) (fun _ hk => hk.2) (.int .i64 x549010_1)) (fun _ hk => hk.2) (.int .i64 x549011_1)) (fun _ hk => hk.2) (.slice Ao41 x549012_1.length co41)) (fun _ hk => trivial), by repeat (first | (with_reducible first | exact HB.out | apply below_alloc | apply pw_below_drewN | apply below_drew1 | refine below_set ?_ GE544.out | refine below_set ?_ GE548.out) | exact HB.out)⟩
    · rw [if_neg c5] at H
      exact absurd H (by simp)
  · rw [if_neg c4] at H
    exact absurd H (by simp)

def bournelaw2_fold.f (k : Nat) (l0 : List (S26)) (l1 : List Int) : Option (Int × Int × Int × Int × Int × Int × Int × Int × Int × Int × Int × Int × List Int) := (bourneref1_Fold.f k l0 l1).bind fun bt583 => (some (bt583.1, bt583.2.1, bt583.2.2.1, bt583.2.2.2.1, bt583.2.2.2.2.1, bt583.2.2.2.2.2.1, bt583.2.2.2.2.2.2.1, bt583.2.2.2.2.2.2.2.1, bt583.2.2.2.2.2.2.2.2.1, bt583.2.2.2.2.2.2.2.2.2.1, bt583.2.2.2.2.2.2.2.2.2.2.1, bt583.2.2.2.2.2.2.2.2.2.2.2.1, bt583.2.2.2.2.2.2.2.2.2.2.2.2))
set_option maxHeartbeats 8000000 in
set_option maxRecDepth 100000 in
theorem bournelaw2_fold.calls (k : Nat) (A0 : Option Addr) (c0 : Nat) (l0 : List (S26)) (A1 : Option Addr) (c1 : Nat) (l1 : List Int) (r1 : Int) (r2 : Int) (r3 : Int) (r4 : Int) (r5 : Int) (r6 : Int) (r7 : Int) (r8 : Int) (r9 : Int) (r10 : Int) (r11 : Int) (r12 : Int) (r13 : List Int) (w : World) (hr0 : Kd.C k26 w A0 l0.length l0) (hc0 : l0.length ≤ c0) (hr1 : Kd.C (Kd.int .i64) w A1 l1.length l1) (hc1 : l1.length ≤ c1) (h : bournelaw2_fold.f k l0 l1 = some (r1, r2, r3, r4, r5, r6, r7, r8, r9, r10, r11, r12, r13)) :
    Calls Try.prog 25 #[.slice A0 l0.length c0, .slice A1 l1.length c1] w fun e w' => ∃ v12_ : Value, e = .returned (.agg #[.int .i64 r1, .int .i64 r2, .int .i64 r3, .int .i64 r4, .int .i64 r5, .int .i64 r6, .int .i64 r7, .int .i64 r8, .int .i64 r9, .int .i64 r10, .int .i64 r11, .int .i64 r12, v12_]) ∧ Kd.R (Kd.int .i64) 3 w' w.heap.size (fun _ => True) v12_ r13 ∧ Below w.heap.size w w' := by
  have hu28 := Try.underlying28
  have HR0 := Aside0.mk hr0
  have HC0 := Aside0.mk hc0
  clear hr0 hc0
  have HR1 := Aside0.mk hr1
  have HC1 := Aside0.mk hc1
  clear hr1 hc1
  have HB := Aside0.mk (Below.refl w.heap.size w)
  have H : ((bourneref1_Fold.f k l0 l1).bind fun bt583 => (some (bt583.1, bt583.2.1, bt583.2.2.1, bt583.2.2.2.1, bt583.2.2.2.2.1, bt583.2.2.2.2.2.1, bt583.2.2.2.2.2.2.1, bt583.2.2.2.2.2.2.2.1, bt583.2.2.2.2.2.2.2.2.1, bt583.2.2.2.2.2.2.2.2.2.1, bt583.2.2.2.2.2.2.2.2.2.2.1, bt583.2.2.2.2.2.2.2.2.2.2.2.1, bt583.2.2.2.2.2.2.2.2.2.2.2.2))) = some (r1, r2, r3, r4, r5, r6, r7, r8, r9, r10, r11, r12, r13) := h
  clear h
  replace H := Option.bind_eq_some_iff.mp H
  obtain ⟨⟨t583, t584, t585, t586, t587, t588, t589, t590, t591, t592, t593, t594, t595⟩, A30, H⟩ := H
  replace H : (some (t583, t584, t585, t586, t587, t588, t589, t590, t591, t592, t593, t594, t595)) = some (r1, r2, r3, r4, r5, r6, r7, r8, r9, r10, r11, r12, r13) := H
  have A3 := Aside0.mk A30
  clear A30
  simp only [Option.some.injEq, Prod.mk.injEq] at H
  obtain ⟨rfl, rfl, rfl, rfl, rfl, rfl, rfl, rfl, rfl, rfl, rfl, rfl, rfl⟩ := H
  go_enter Try.func25, Try.ntmps25
  go_wp2_with (first | ((with_reducible refine gate_dst (N := 4) rfl ?_); refine box_event ?hg (N := 4) ?hd (cs := #[.int .i64 0, .int .i64 0, .int .i64 0, .int .i64 0, .int .i64 0, .int .i64 0, .int .i64 0, .int .i64 0, .int .i64 0, .int .i64 0, .int .i64 0, .int .i64 0, .slice none 0 0]) (t := 28) ?hr ?_; (case hd => rfl); (case hg => rfl); (case hr => first | (go_simp; done) | (go_simp; rfl)); intro gb582 hg w4 hbox hb; have n0_ := Aside0.mk (below_step (by repeat (first | (with_reducible first | exact HB.out | apply below_alloc | apply pw_below_drewN | apply below_drew1) | exact HB.out)) hb); have n1_ := Aside0.mk (hbox); have n2_ := Aside0.mk ((by rw [hg]; exact (below_size (by repeat (first | (with_reducible first | exact HB.out | apply below_alloc | apply pw_below_drewN | apply below_drew1) | exact HB.out))) : w.heap.size ≤ gb582)); have n3_ := Aside0.mk ((by rw [hg]; exact (below_size (by repeat (first | (with_reducible first | exact HB.out | apply below_alloc | apply pw_below_drewN | apply below_drew1) | exact HB.out))) : w.heap.size ≤ gb582)); clear HB; have HB := n0_; have BK582 := n1_; have GW582 := n2_; have GE582 := n3_; clear n0_ n1_ n2_ n3_; clear hb hbox hg) | ((with_reducible refine gate_callee (f := 43) rfl ?_); refine goesL_ (some 7) rfl rfl Try.func43 (by kernel_rfl) rfl #[.slice A0 l0.length c0, .slice A1 l1.length c1] rfl (by (try simp only [List.map_toArray, List.map_cons, List.map_nil]); first | done | rfl | (simp only [List.length_drop, List.length_take]; rfl)) ?_; (with_reducible refine (bourneref1_Fold.calls k _ _ l0 _ _ l1 t583 t584 t585 t586 t587 t588 t589 t590 t591 t592 t593 t594 t595 _ ?side1 ?side2 ?side3 ?side4 A3.out).mono ?_); (case side1 => repeat (first | exact (Kd.C_below HR0.out HB.out) | (with_reducible refine Kd.C_alloc ?_ _) | (with_reducible refine Kd.C_drewN ?_ _) | (with_reducible refine Kd.C_drew ?_))); (case side2 => exact HC0.out); (case side3 => repeat (first | exact (Kd.C_below HR1.out HB.out) | (with_reducible refine Kd.C_alloc ?_ _) | (with_reducible refine Kd.C_drewN ?_ _) | (with_reducible refine Kd.C_drew ?_))); (case side4 => exact HC1.out); rintro e w5 ⟨v596, rfl, ho0, hb⟩; refine ⟨_, rfl, ?_⟩; have n0_ := Aside0.mk (Kd.R_lower ho0 (below_size (by repeat (first | (with_reducible first | exact HB.out | apply below_alloc | apply pw_below_drewN | apply below_drew1 | refine below_set ?_ GE582.out) | exact HB.out)))); have n1_ := Aside0.mk (blk_below (g := gb582) (o := .cells #[.int .i64 0, .int .i64 0, .int .i64 0, .int .i64 0, .int .i64 0, .int .i64 0, .int .i64 0, .int .i64 0, .int .i64 0, .int .i64 0, .int .i64 0, .int .i64 0, .slice none 0 0] 28 (0, 0)) (by (with_reducible repeat (first | refine blk_drewN ?_ _ | refine blk_drew ?_ | refine blk_alloc ?_ _)); exact BK582.out) hb); have n2_ := Aside0.mk (below_step (by repeat (first | (with_reducible first | exact HB.out | apply below_alloc | apply pw_below_drewN | apply below_drew1 | refine below_set ?_ GE582.out) | exact HB.out)) hb); clear BK582; clear HB; have HO597 := n0_; have BK582 := n1_; have HB := n2_; clear n0_ n1_ n2_; (try clear hb); (try clear hb2); (try clear hk); (try clear hi); (try clear ho0); have hcz6_0 : w5.cell? ⟨gb582, 0, none⟩ = some (.int .i64 0) := (blk_cell BK582.out 0).trans rfl; have hcz6_1 : w5.cell? ⟨gb582, 1, none⟩ = some (.int .i64 0) := (blk_cell BK582.out 1).trans rfl; have hcz6_2 : w5.cell? ⟨gb582, 2, none⟩ = some (.int .i64 0) := (blk_cell BK582.out 2).trans rfl; have hcz6_3 : w5.cell? ⟨gb582, 3, none⟩ = some (.int .i64 0) := (blk_cell BK582.out 3).trans rfl; have hcz6_4 : w5.cell? ⟨gb582, 4, none⟩ = some (.int .i64 0) := (blk_cell BK582.out 4).trans rfl; have hcz6_5 : w5.cell? ⟨gb582, 5, none⟩ = some (.int .i64 0) := (blk_cell BK582.out 5).trans rfl; have hcz6_6 : w5.cell? ⟨gb582, 6, none⟩ = some (.int .i64 0) := (blk_cell BK582.out 6).trans rfl; have hcz6_7 : w5.cell? ⟨gb582, 7, none⟩ = some (.int .i64 0) := (blk_cell BK582.out 7).trans rfl; have hcz6_8 : w5.cell? ⟨gb582, 8, none⟩ = some (.int .i64 0) := (blk_cell BK582.out 8).trans rfl; have hcz6_9 : w5.cell? ⟨gb582, 9, none⟩ = some (.int .i64 0) := (blk_cell BK582.out 9).trans rfl; have hcz6_10 : w5.cell? ⟨gb582, 10, none⟩ = some (.int .i64 0) := (blk_cell BK582.out 10).trans rfl; have hcz6_11 : w5.cell? ⟨gb582, 11, none⟩ = some (.int .i64 0) := (blk_cell BK582.out 11).trans rfl; have hcz6_12 : w5.cell? ⟨gb582, 12, none⟩ = some (.slice none 0 0) := (blk_cell BK582.out 12).trans rfl; have hfz6_0 := blk_frozen BK582.out 0; have hfz6_1 := blk_frozen BK582.out 1; have hfz6_2 := blk_frozen BK582.out 2; have hfz6_3 := blk_frozen BK582.out 3; have hfz6_4 := blk_frozen BK582.out 4; have hfz6_5 := blk_frozen BK582.out 5; have hfz6_6 := blk_frozen BK582.out 6; have hfz6_7 := blk_frozen BK582.out 7; have hfz6_8 := blk_frozen BK582.out 8; have hfz6_9 := blk_frozen BK582.out 9; have hfz6_10 := blk_frozen BK582.out 10; have hfz6_11 := blk_frozen BK582.out 11; have hfz6_12 := blk_frozen BK582.out 12; obtain ⟨Ao7, co7, eo7⟩ := Kd.R_slice HO597.out; subst eo7))
  refine bodyPost_ret (results_cell_row rfl _ _ gb582 28 #[.int .i64 t583, .int .i64 t584, .int .i64 t585, .int .i64 t586, .int .i64 t587, .int .i64 t588, .int .i64 t589, .int .i64 t590, .int .i64 t591, .int .i64 t592, .int .i64 t593, .int .i64 t594, .slice Ao7 t595.length co7] (0, 0) _ rfl (by (with_reducible repeat (first | refine blk_drewN ?_ _ | refine blk_drew ?_ | refine blk_alloc ?_ _)); refine blk_put (cs := #[.int .i64 t583, .int .i64 t584, .int .i64 t585, .int .i64 t586, .int .i64 t587, .int .i64 t588, .int .i64 t589, .int .i64 t590, .int .i64 t591, .int .i64 t592, .int .i64 t593, .int .i64 t594, .slice none 0 0]) ?_ 12 _ rfl; (with_reducible repeat (first | refine blk_drewN ?_ _ | refine blk_drew ?_ | refine blk_alloc ?_ _)); refine blk_put (cs := #[.int .i64 t583, .int .i64 t584, .int .i64 t585, .int .i64 t586, .int .i64 t587, .int .i64 t588, .int .i64 t589, .int .i64 t590, .int .i64 t591, .int .i64 t592, .int .i64 t593, .int .i64 0, .slice none 0 0]) ?_ 11 _ rfl; (with_reducible repeat (first | refine blk_drewN ?_ _ | refine blk_drew ?_ | refine blk_alloc ?_ _)); refine blk_put (cs := #[.int .i64 t583, .int .i64 t584, .int .i64 t585, .int .i64 t586, .int .i64 t587, .int .i64 t588, .int .i64 t589, .int .i64 t590, .int .i64 t591, .int .i64 t592, .int .i64 0, .int .i64 0, .slice none 0 0]) ?_ 10 _ rfl; (with_reducible repeat (first | refine blk_drewN ?_ _ | refine blk_drew ?_ | refine blk_alloc ?_ _)); refine blk_put (cs := #[.int .i64 t583, .int .i64 t584, .int .i64 t585, .int .i64 t586, .int .i64 t587, .int .i64 t588, .int .i64 t589, .int .i64 t590, .int .i64 t591, .int .i64 0, .int .i64 0, .int .i64 0, .slice none 0 0]) ?_ 9 _ rfl; (with_reducible repeat (first | refine blk_drewN ?_ _ | refine blk_drew ?_ | refine blk_alloc ?_ _)); refine blk_put (cs := #[.int .i64 t583, .int .i64 t584, .int .i64 t585, .int .i64 t586, .int .i64 t587, .int .i64 t588, .int .i64 t589, .int .i64 t590, .int .i64 0, .int .i64 0, .int .i64 0, .int .i64 0, .slice none 0 0]) ?_ 8 _ rfl; (with_reducible repeat (first | refine blk_drewN ?_ _ | refine blk_drew ?_ | refine blk_alloc ?_ _)); refine blk_put (cs := #[.int .i64 t583, .int .i64 t584, .int .i64 t585, .int .i64 t586, .int .i64 t587, .int .i64 t588, .int .i64 t589, .int .i64 0, .int .i64 0, .int .i64 0, .int .i64 0, .int .i64 0, .slice none 0 0]) ?_ 7 _ rfl; (with_reducible repeat (first | refine blk_drewN ?_ _ | refine blk_drew ?_ | refine blk_alloc ?_ _)); refine blk_put (cs := #[.int .i64 t583, .int .i64 t584, .int .i64 t585, .int .i64 t586, .int .i64 t587, .int .i64 t588, .int .i64 0, .int .i64 0, .int .i64 0, .int .i64 0, .int .i64 0, .int .i64 0, .slice none 0 0]) ?_ 6 _ rfl; (with_reducible repeat (first | refine blk_drewN ?_ _ | refine blk_drew ?_ | refine blk_alloc ?_ _)); refine blk_put (cs := #[.int .i64 t583, .int .i64 t584, .int .i64 t585, .int .i64 t586, .int .i64 t587, .int .i64 0, .int .i64 0, .int .i64 0, .int .i64 0, .int .i64 0, .int .i64 0, .int .i64 0, .slice none 0 0]) ?_ 5 _ rfl; (with_reducible repeat (first | refine blk_drewN ?_ _ | refine blk_drew ?_ | refine blk_alloc ?_ _)); refine blk_put (cs := #[.int .i64 t583, .int .i64 t584, .int .i64 t585, .int .i64 t586, .int .i64 0, .int .i64 0, .int .i64 0, .int .i64 0, .int .i64 0, .int .i64 0, .int .i64 0, .int .i64 0, .slice none 0 0]) ?_ 4 _ rfl; (with_reducible repeat (first | refine blk_drewN ?_ _ | refine blk_drew ?_ | refine blk_alloc ?_ _)); refine blk_put (cs := #[.int .i64 t583, .int .i64 t584, .int .i64 t585, .int .i64 0, .int .i64 0, .int .i64 0, .int .i64 0, .int .i64 0, .int .i64 0, .int .i64 0, .int .i64 0, .int .i64 0, .slice none 0 0]) ?_ 3 _ rfl; (with_reducible repeat (first | refine blk_drewN ?_ _ | refine blk_drew ?_ | refine blk_alloc ?_ _)); refine blk_put (cs := #[.int .i64 t583, .int .i64 t584, .int .i64 0, .int .i64 0, .int .i64 0, .int .i64 0, .int .i64 0, .int .i64 0, .int .i64 0, .int .i64 0, .int .i64 0, .int .i64 0, .slice none 0 0]) ?_ 2 _ rfl; (with_reducible repeat (first | refine blk_drewN ?_ _ | refine blk_drew ?_ | refine blk_alloc ?_ _)); refine blk_put (cs := #[.int .i64 t583, .int .i64 0, .int .i64 0, .int .i64 0, .int .i64 0, .int .i64 0, .int .i64 0, .int .i64 0, .int .i64 0, .int .i64 0, .int .i64 0, .int .i64 0, .slice none 0 0]) ?_ 1 _ rfl; (with_reducible repeat (first | refine blk_drewN ?_ _ | refine blk_drew ?_ | refine blk_alloc ?_ _)); refine blk_put (cs := #[.int .i64 0, .int .i64 0, .int .i64 0, .int .i64 0, .int .i64 0, .int .i64 0, .int .i64 0, .int .i64 0, .int .i64 0, .int .i64 0, .int .i64 0, .int .i64 0, .slice none 0 0]) ?_ 0 _ rfl; (with_reducible repeat (first | refine blk_drewN ?_ _ | refine blk_drew ?_ | refine blk_alloc ?_ _)); exact BK582.out) Try.underlying28 rfl (by kernel_rfl)) rfl ?_
  exact ⟨_, by first | rfl | (simp [errW_none, errW_some] <;> rfl) | (simp [*, errW_none, errW_some] <;> rfl), by (with_reducible repeat (first | apply Kd.R_alloc | apply Kd.R_drewN | apply Kd.R_drew)); exact Kd.R_mono (Kd.R_far (p := ⟨gb582, 12, none⟩) (Kd.R_far (p := ⟨gb582, 11, none⟩) (Kd.R_far (p := ⟨gb582, 10, none⟩) (Kd.R_far (p := ⟨gb582, 9, none⟩) (Kd.R_far (p := ⟨gb582, 8, none⟩) (Kd.R_far (p := ⟨gb582, 7, none⟩) (Kd.R_far (p := ⟨gb582, 6, none⟩) (Kd.R_far (p := ⟨gb582, 5, none⟩) (Kd.R_far (p := ⟨gb582, 4, none⟩) (Kd.R_far (p := ⟨gb582, 3, none⟩) (Kd.R_far (p := ⟨gb582, 2, none⟩) (Kd.R_far (p := ⟨gb582, 1, none⟩) (Kd.R_far (p := ⟨gb582, 0, none⟩) (Kd.R_types HO597.out BK582.out (by decide)) (fun _ hk => hk.2) (.int .i64 t583)) (fun _ hk => hk.2) (.int .i64 t584)) (fun _ hk => hk.2) (.int .i64 t585)) (fun _ hk => hk.2) (.int .i64 t586)) (fun _ hk => hk.2) (.int .i64 t587)) (fun _ hk => hk.2) (.int .i64 t588)) (fun _ hk => hk.2) (.int .i64 t589)) (fun _ hk => hk.2) (.int .i64 t590)) (fun _ hk => hk.2) (.int .i64 t591)) (fun _ hk => hk.2) (.int .i64 t592)) (fun _ hk => hk.2) (.int .i64 t593)) (fun _ hk => hk.2) (.int .i64 t594)) (fun _ hk => hk.2) (.slice Ao7 t595.length co7)) (fun _ hk => trivial), by repeat (first | (with_reducible first | exact HB.out | apply below_alloc | apply pw_below_drewN | apply below_drew1 | refine below_set ?_ GE582.out) | exact HB.out)⟩

end Go.Proofs.Ytggaefklcpbfnaa.Pa

namespace Go.Proofs.Ytggaefklcpbfnaa.My
open Go.RowKit Pa Go.Proofs.YtggaefklcpbfnaaW.PrintWords

set_option linter.unusedSimpArgs false
theorem item2_any (a b c d : Int) (w : World) :
    Calls Try.prog 24 #[.int .i64 a, .int .i64 b, .int .i64 c, .int .i64 d] w fun e w' => e = .returned (.agg #[.int .i64 a, .int .i64 b, .int .i64 c, .int .i64 d]) ∧ Below w.heap.size w w' :=
  bournelaw2_item.calls a b c d a b c d w rfl
def itC (x : S26) : List Value := [.int .i64 x.f0, .int .i64 x.f1, .int .i64 x.f2, .int .i64 x.f3]
theorem itC_get : ∀ {xs : List S26} {j : Nat} {p : S26} {i : Nat} {u : Value}, xs[j]? = some p → (itC p)[i]? = some u → (xs.flatMap itC)[j * 4 + i]? = some u
  | [], _, _, _, _, h, _ => by simp at h
  | x :: r, 0, p, i, u, h, hu => by
    simp only [List.getElem?_cons_zero, Option.some.injEq] at h
    subst h
    have hi : i < 4 := by have := (List.getElem?_eq_some_iff.1 hu).1; exact this
    rw [List.flatMap_cons, List.getElem?_append_left (show 0 * 4 + i < (itC x).length by show 0 * 4 + i < 4; omega), Nat.zero_mul, Nat.zero_add]
    exact hu
  | x :: r, j + 1, p, i, u, h, hu => by
    rw [List.flatMap_cons, List.getElem?_append_right (show (itC x).length ≤ (j + 1) * 4 + i by show 4 ≤ _; omega), show (j + 1) * 4 + i - (itC x).length = j * 4 + i by show (j + 1) * 4 + i - 4 = _; omega]
    exact itC_get (by simpa using h) hu
theorem rdT_blk {w : World} {b : Nat} {xs : List S26} {T : TypeId} {fr : Nat × Nat} (h : w.heap[b]? = some (.cells (xs.flatMap itC).toArray T fr)) (hl : xs.length ≤ 1000) : Kd.C k26 w (some ⟨b, 0, none⟩) xs.length xs := by
  refine ⟨rfl, by omega, fun _ => ⟨_, rfl, fun j p hp => ⟨itC p, rfl, k26_mk w p, fun i u hu => ?_⟩⟩⟩
  rw [show j * k26.sz + i = j * 4 + i from rfl, add_plain, blk_cell h, List.getElem?_toArray]
  exact itC_get hp hu
theorem fold_any (k : Nat) (xs : List S26) (bs : List Int) (X : S28) (A0 : Option Addr) (c0 : Nat) (A1 : Option Addr) (c1 : Nat) (w : World) (h0 : Kd.C k26 w A0 xs.length xs) (hc0 : xs.length ≤ c0) (h1 : RdI w A1 bs) (hc1 : bs.length ≤ c1) (h : bournelaw2_fold.f k xs bs = some (X.f0, X.f1, X.f2, X.f3, X.f4.f0, X.f4.f1, X.f4.f2, X.f4.f3, X.f5.f0, X.f5.f1, X.f5.f2, X.f5.f3, X.f6)) :
    Calls Try.prog 25 #[.slice A0 xs.length c0, .slice A1 bs.length c1] w fun e w' => ∃ v, e = .returned (acV X v) ∧ Own w' w.heap.size v X.f6 ∧ Below w.heap.size w w' :=
  (bournelaw2_fold.calls k A0 c0 xs A1 c1 bs _ _ _ _ _ _ _ _ _ _ _ _ _ w h0 hc0 h1 hc1 h).mono fun _ _ ⟨v, he, ho, hb⟩ => ⟨v, he, Kd.own_of_R ho, hb⟩
def OVar (w : World) (b : Nat) (n : Int) (t : Bool) (h : List Int) (A : Option Addr) (c : Nat) : Prop := w.heap[b]? = some (ouO n t (.slice A h.length c)) ∧ h.length ≤ c ∧ RdI w A h
theorem OVar.below {w w1 : World} {b : Nat} {n : Int} {t : Bool} {h : List Int} {A : Option Addr} {c : Nat} (v : OVar w b n t h A c) (hb : Below w.heap.size w w1) : OVar w1 b n t h A c := ⟨blk_below v.1 hb, v.2.1, Kd.C_below v.2.2 hb⟩
theorem OVar.new {w : World} {n : Int} {t : Bool} {h : List Int} {A : Option Addr} {c : Nat} (hl : h.length ≤ c) (hr : RdI w A h) : OVar (w.alloc (ouO n t (.slice A h.length c))) w.heap.size n t h A c :=
  ⟨heap_alloc_new w _, hl, Kd.C_below hr ((Below.refl _ _).alloc (Nat.le_refl _) _)⟩
theorem sameI_yes (l : List Int) (A B : Option Addr) (c d : Nat) (w : World) (hA : RdI w A l) (hc : l.length ≤ c) (hB : RdI w B l) (hd : l.length ≤ d) (hl : l.length ≤ 17592186044415) :
    Calls Try.prog 39 #[.slice A l.length c, .slice B l.length d] w fun e w' => e = .returned (.bool true) ∧ Below w.heap.size w w' :=
  (bournelaw0_SameInts.calls (l.length + 1) A c l B d l true w hA hc hB hd (by
    unfold bournelaw0_SameInts.f
    have h := same_loop l hl l.length 0 (l.length + 1) (by omega) (by omega)
    simp only [Int.natCast_zero] at h
    simp [h])).mono fun _ _ h => ⟨h.1, h.2.below⟩

set_option maxHeartbeats 8000000 in
set_option maxRecDepth 100000 in
theorem awake2_any (w : World) : Calls Try.prog 23 #[] w fun e w' => e = .returned (.bool true) ∧ Below w.heap.size w w' := by
  have HW := Lib.hid (Below.refl w.heap.size w)
  obtain ⟨w0, hw0⟩ : ∃ w0, w0 = w := ⟨_, rfl⟩
  rw [show Calls Try.prog 23 #[] w = Calls Try.prog 23 #[] w0 by rw [hw0]]
  rw [show Below w.heap.size w w = Below w.heap.size w w0 by rw [hw0]] at HW
  clear hw0
  go_enter Try.func23, Try.ntmps23
  go_wp2_with fail
  refine (item2_any 1 1 1 (4) _).mono ?_
  rintro e w1 ⟨rfl, hb⟩
  replace HW := Lib.hid (HW.out.trans (hb.mono HW.out.size))
  clear hb
  go_wp2_with fail
  refine (item2_any 1 2 2 (9) _).mono ?_
  rintro e w2 ⟨rfl, hb⟩
  replace HW := Lib.hid (HW.out.trans (hb.mono HW.out.size))
  clear hb
  go_wp2_with fail
  refine (item2_any 1 3 3 (-2) _).mono ?_
  rintro e w3 ⟨rfl, hb⟩
  replace HW := Lib.hid (HW.out.trans (hb.mono HW.out.size))
  clear hb
  go_wp2_with fail
  have hnew := heap_alloc_new w3 (.cells #[.int .i64 (1), .int .i64 (1), .int .i64 (1), .int .i64 (4), .int .i64 (1), .int .i64 (2), .int .i64 (2), .int .i64 (9), .int .i64 (1), .int .i64 (3), .int .i64 (3), .int .i64 (-2)] 26)
  have hb : Below w3.heap.size w3 (w3.alloc (.cells #[.int .i64 (1), .int .i64 (1), .int .i64 (1), .int .i64 (4), .int .i64 (1), .int .i64 (2), .int .i64 (2), .int .i64 (9), .int .i64 (1), .int .i64 (3), .int .i64 (3), .int .i64 (-2)] 26)) := (Below.refl _ _).alloc (Nat.le_refl _) _
  show Calls _ _ _ (w3.alloc (.cells #[.int .i64 (1), .int .i64 (1), .int .i64 (1), .int .i64 (4), .int .i64 (1), .int .i64 (2), .int .i64 (2), .int .i64 (9), .int .i64 (1), .int .i64 (3), .int .i64 (3), .int .i64 (-2)] 26)) _
  replace HW := Lib.hid (HW.out.trans (hb.mono HW.out.size))
  clear hb
  generalize w3.alloc (.cells #[.int .i64 (1), .int .i64 (1), .int .i64 (1), .int .i64 (4), .int .i64 (1), .int .i64 (2), .int .i64 (2), .int .i64 (9), .int .i64 (1), .int .i64 (3), .int .i64 (3), .int .i64 (-2)] 26) = w4 at *
  generalize w3.heap.size = ba at *
  have Hba := Lib.hid (show Kd.C k26 w4 (some ⟨ba, 0, none⟩) 3 ([⟨1, 1, 1, 4⟩, ⟨1, 2, 2, 9⟩, ⟨1, 3, 3, -2⟩] : List S26) from rdT_blk (xs := [⟨1, 1, 1, 4⟩, ⟨1, 2, 2, 9⟩, ⟨1, 3, 3, -2⟩]) hnew (by decide))
  clear hnew
  refine (fold_any 9 [⟨1, 1, 1, 4⟩, ⟨1, 2, 2, 9⟩, ⟨1, 3, 3, -2⟩] [] ⟨3, 11, -2, 9, ⟨1, 1, 1, 4⟩, ⟨1, 3, 3, -2⟩, [3]⟩ (some ⟨ba, 0, none⟩) 3 none 0 _ Hba.out (by decide) (rdI_nil _) (by decide) (by kernel_rfl)).mono ?_
  rintro e w5 ⟨v, rfl, how, hb⟩
  obtain ⟨Aa, ca, rfl, hla, hr⟩ := how.reads
  simp only [acV, List.length_cons, List.length_nil, Nat.zero_add, Nat.reduceAdd]
  clear how
  replace HW := Lib.hid (HW.out.trans (hb.mono HW.out.size))
  clear hb
  have HRa := Lib.hid hr
  have HLa := Lib.hid hla
  clear hr hla
  clear Hba
  have Va := Lib.hid (AVar.new (w := w5) (a := ⟨3, 11, -2, 9, ⟨1, 1, 1, 4⟩, ⟨1, 3, 3, -2⟩, [3]⟩) HLa.out HRa.out)
  have hb : Below w5.heap.size w5 (w5.alloc (acO ⟨3, 11, -2, 9, ⟨1, 1, 1, 4⟩, ⟨1, 3, 3, -2⟩, [3]⟩ (.slice Aa 1 ca))) := (Below.refl _ _).alloc (Nat.le_refl _) _
  clear HLa HRa
  replace HW := Lib.hid (HW.out.trans (hb.mono HW.out.size))
  clear hb
  go_wp2_with fail
  show Calls _ _ _ (w5.alloc (acO ⟨3, 11, -2, 9, ⟨1, 1, 1, 4⟩, ⟨1, 3, 3, -2⟩, [3]⟩ (.slice Aa 1 ca))) _
  change Hid (AVar (w5.alloc (acO ⟨3, 11, -2, 9, ⟨1, 1, 1, 4⟩, ⟨1, 3, 3, -2⟩, [3]⟩ (.slice Aa 1 ca))) _ _ _ _) at Va
  generalize w5.alloc (acO ⟨3, 11, -2, 9, ⟨1, 1, 1, 4⟩, ⟨1, 3, 3, -2⟩, [3]⟩ (.slice Aa 1 ca)) = w6 at *
  generalize w5.heap.size = bka at *
  refine (item2_any 1 1 1 (4) _).mono ?_
  rintro e w7 ⟨rfl, hb⟩
  replace HW := Lib.hid (HW.out.trans (hb.mono HW.out.size))
  replace Va := Lib.hid (Va.out.below hb)
  clear hb
  go_wp2_with fail
  refine (item2_any 1 2 2 (9) _).mono ?_
  rintro e w8 ⟨rfl, hb⟩
  replace HW := Lib.hid (HW.out.trans (hb.mono HW.out.size))
  replace Va := Lib.hid (Va.out.below hb)
  clear hb
  go_wp2_with fail
  refine (item2_any 1 3 3 (-2) _).mono ?_
  rintro e w9 ⟨rfl, hb⟩
  replace HW := Lib.hid (HW.out.trans (hb.mono HW.out.size))
  replace Va := Lib.hid (Va.out.below hb)
  clear hb
  go_wp2_with fail
  show Calls _ _ _ ((w9.alloc (.cells #[.int .i64 (1), .int .i64 (1), .int .i64 (1), .int .i64 (4), .int .i64 (1), .int .i64 (2), .int .i64 (2), .int .i64 (9), .int .i64 (1), .int .i64 (3), .int .i64 (3), .int .i64 (-2)] 26)).alloc (.cells #[.int .i64 (0), .int .i64 (5)] 3)) _
  have hp1 := heap_alloc_new w9 (.cells #[.int .i64 (1), .int .i64 (1), .int .i64 (1), .int .i64 (4), .int .i64 (1), .int .i64 (2), .int .i64 (2), .int .i64 (9), .int .i64 (1), .int .i64 (3), .int .i64 (3), .int .i64 (-2)] 26)
  have hsz : (w9.alloc (.cells #[.int .i64 (1), .int .i64 (1), .int .i64 (1), .int .i64 (4), .int .i64 (1), .int .i64 (2), .int .i64 (2), .int .i64 (9), .int .i64 (1), .int .i64 (3), .int .i64 (3), .int .i64 (-2)] 26)).heap.size = w9.heap.size + 1 := by simp
  have hp2 := heap_alloc_new (w9.alloc (.cells #[.int .i64 (1), .int .i64 (1), .int .i64 (1), .int .i64 (4), .int .i64 (1), .int .i64 (2), .int .i64 (2), .int .i64 (9), .int .i64 (1), .int .i64 (3), .int .i64 (3), .int .i64 (-2)] 26)) (.cells #[.int .i64 (0), .int .i64 (5)] 3)
  have hb : Below w9.heap.size w9 (w9.alloc (.cells #[.int .i64 (1), .int .i64 (1), .int .i64 (1), .int .i64 (4), .int .i64 (1), .int .i64 (2), .int .i64 (2), .int .i64 (9), .int .i64 (1), .int .i64 (3), .int .i64 (3), .int .i64 (-2)] 26)) := (Below.refl _ _).alloc (Nat.le_refl _) _
  replace HW := Lib.hid (HW.out.trans (hb.mono HW.out.size))
  replace Va := Lib.hid (Va.out.below hb)
  clear hb
  have hb : Below (w9.alloc (.cells #[.int .i64 (1), .int .i64 (1), .int .i64 (1), .int .i64 (4), .int .i64 (1), .int .i64 (2), .int .i64 (2), .int .i64 (9), .int .i64 (1), .int .i64 (3), .int .i64 (3), .int .i64 (-2)] 26)).heap.size (w9.alloc (.cells #[.int .i64 (1), .int .i64 (1), .int .i64 (1), .int .i64 (4), .int .i64 (1), .int .i64 (2), .int .i64 (2), .int .i64 (9), .int .i64 (1), .int .i64 (3), .int .i64 (3), .int .i64 (-2)] 26)) ((w9.alloc (.cells #[.int .i64 (1), .int .i64 (1), .int .i64 (1), .int .i64 (4), .int .i64 (1), .int .i64 (2), .int .i64 (2), .int .i64 (9), .int .i64 (1), .int .i64 (3), .int .i64 (3), .int .i64 (-2)] 26)).alloc (.cells #[.int .i64 (0), .int .i64 (5)] 3)) := (Below.refl _ _).alloc (Nat.le_refl _) _
  replace hp1 := blk_below hp1 hb
  replace HW := Lib.hid (HW.out.trans (hb.mono HW.out.size))
  replace Va := Lib.hid (Va.out.below hb)
  clear hb
  rw [hsz] at hp2
  clear hsz
  generalize (w9.alloc (.cells #[.int .i64 (1), .int .i64 (1), .int .i64 (1), .int .i64 (4), .int .i64 (1), .int .i64 (2), .int .i64 (2), .int .i64 (9), .int .i64 (1), .int .i64 (3), .int .i64 (3), .int .i64 (-2)] 26)).alloc (.cells #[.int .i64 (0), .int .i64 (5)] 3) = w10 at *
  obtain ⟨bc, he2⟩ : ∃ pb, w9.heap.size + 1 = pb := ⟨_, rfl⟩
  rw [he2] at hp2 ⊢
  clear he2
  generalize w9.heap.size = bb at *
  have Hbb := Lib.hid (show Kd.C k26 w10 (some ⟨bb, 0, none⟩) 3 ([⟨1, 1, 1, 4⟩, ⟨1, 2, 2, 9⟩, ⟨1, 3, 3, -2⟩] : List S26) from rdT_blk (xs := [⟨1, 1, 1, 4⟩, ⟨1, 2, 2, 9⟩, ⟨1, 3, 3, -2⟩]) hp1 (by decide))
  have Hbc := Lib.hid (show RdI w10 (some ⟨bc, 0, none⟩) [0, 5] from rdI_blk (l := [0, 5]) hp2 (by decide))
  clear hp1 hp2
  refine (fold_any 9 [⟨1, 1, 1, 4⟩, ⟨1, 2, 2, 9⟩, ⟨1, 3, 3, -2⟩] [0, 5] ⟨3, 11, -2, 9, ⟨1, 1, 1, 4⟩, ⟨1, 3, 3, -2⟩, [1, 1, 1]⟩ (some ⟨bb, 0, none⟩) 3 (some ⟨bc, 0, none⟩) 2 _ Hbb.out (by decide) Hbc.out (by decide) (by kernel_rfl)).mono ?_
  rintro e w11 ⟨v, rfl, how, hb⟩
  obtain ⟨Ab, cb, rfl, hlb, hr⟩ := how.reads
  simp only [acV, List.length_cons, List.length_nil, Nat.zero_add, Nat.reduceAdd]
  clear how
  replace HW := Lib.hid (HW.out.trans (hb.mono HW.out.size))
  replace Va := Lib.hid (Va.out.below hb)
  clear hb
  have HRb := Lib.hid hr
  have HLb := Lib.hid hlb
  clear hr hlb
  clear Hbb Hbc
  have Vb := Lib.hid (AVar.new (w := w11) (a := ⟨3, 11, -2, 9, ⟨1, 1, 1, 4⟩, ⟨1, 3, 3, -2⟩, [1, 1, 1]⟩) HLb.out HRb.out)
  have hb : Below w11.heap.size w11 (w11.alloc (acO ⟨3, 11, -2, 9, ⟨1, 1, 1, 4⟩, ⟨1, 3, 3, -2⟩, [1, 1, 1]⟩ (.slice Ab 3 cb))) := (Below.refl _ _).alloc (Nat.le_refl _) _
  clear HLb HRb
  replace HW := Lib.hid (HW.out.trans (hb.mono HW.out.size))
  replace Va := Lib.hid (Va.out.below hb)
  clear hb
  change Hid (AVar (w11.alloc (acO ⟨3, 11, -2, 9, ⟨1, 1, 1, 4⟩, ⟨1, 3, 3, -2⟩, [1, 1, 1]⟩ (.slice Ab 3 cb))) _ _ _ _) at Vb
  obtain ⟨a0, a1, a2, a3, a4, a5, a6, a7, a8, a9, a10, a11, a12, al⟩ := acO_facts Va.out.1
  simp only [acO, ouO, List.length_cons, List.length_nil, Nat.zero_add, Nat.reduceAdd] at a0 a1 a2 a3 a4 a5 a6 a7 a8 a9 a10 a11 a12 al
  go_wp2_with fail
  show Calls _ _ _ (w11.alloc (acO ⟨3, 11, -2, 9, ⟨1, 1, 1, 4⟩, ⟨1, 3, 3, -2⟩, [1, 1, 1]⟩ (.slice Ab 3 cb))) _
  clear a0 a1 a2 a3 a4 a5 a6 a7 a8 a9 a10 a11 a12 al
  generalize w11.alloc (acO ⟨3, 11, -2, 9, ⟨1, 1, 1, 4⟩, ⟨1, 3, 3, -2⟩, [1, 1, 1]⟩ (.slice Ab 3 cb)) = w12 at *
  generalize w11.heap.size = bkb at *
  refine (value_any ⟨0, 1, 0, 0, 0⟩ [] ⟨3, 11, -2, 9, ⟨1, 1, 1, 4⟩, ⟨1, 3, 3, -2⟩, [3]⟩ none 0 Aa ca _ (rdI_nil _) (by decide) Va.out.2.2 Va.out.2.1).mono ?_
  rintro e w13 ⟨v, rfl, how, hb⟩
  rw [show valRes ⟨0, 1, 0, 0, 0⟩ [] ⟨3, 11, -2, 9, ⟨1, 1, 1, 4⟩, ⟨1, 3, 3, -2⟩, [3]⟩ = ((((11 : Int), false, ([] : List Int))), (0 : Int)) from by kernel_rfl] at how ⊢
  obtain ⟨Ax, cx, rfl, hl, hr⟩ := how.reads
  simp only [ouV, List.length_cons, List.length_nil, Nat.zero_add, Nat.reduceAdd]
  clear how
  replace HW := Lib.hid (HW.out.trans (hb.mono HW.out.size))
  replace Va := Lib.hid (Va.out.below hb)
  replace Vb := Lib.hid (Vb.out.below hb)
  clear hb
  obtain ⟨b0, b1, b2, b3, b4, b5, b6, b7, b8, b9, b10, b11, b12, bl⟩ := acO_facts Vb.out.1
  simp only [acO, ouO, List.length_cons, List.length_nil, Nat.zero_add, Nat.reduceAdd] at b0 b1 b2 b3 b4 b5 b6 b7 b8 b9 b10 b11 b12 bl
  have Vx := Lib.hid (OVar.new (w := w13) (n := 11) (t := false) (h := []) hl hr)
  have hb : Below w13.heap.size w13 (w13.alloc (ouO 11 false (.slice Ax 0 cx))) := (Below.refl _ _).alloc (Nat.le_refl _) _
  clear hl hr
  replace HW := Lib.hid (HW.out.trans (hb.mono HW.out.size))
  replace Va := Lib.hid (Va.out.below hb)
  replace Vb := Lib.hid (Vb.out.below hb)
  clear hb
  change Hid (OVar (w13.alloc (ouO 11 false (.slice Ax 0 cx))) _ _ _ _ _ _) at Vx
  go_wp2_with fail
  show Calls _ _ _ ((w13.alloc (ouO 11 false (.slice Ax 0 cx))).alloc (.cells #[.int .i64 (0), .int .i64 (5)] 3)) _
  clear b0 b1 b2 b3 b4 b5 b6 b7 b8 b9 b10 b11 b12 bl
  have hsz : (w13.alloc (ouO 11 false (.slice Ax 0 cx))).heap.size = w13.heap.size + 1 := by simp
  have hp2 := heap_alloc_new (w13.alloc (ouO 11 false (.slice Ax 0 cx))) (.cells #[.int .i64 (0), .int .i64 (5)] 3)
  have hb : Below (w13.alloc (ouO 11 false (.slice Ax 0 cx))).heap.size (w13.alloc (ouO 11 false (.slice Ax 0 cx))) ((w13.alloc (ouO 11 false (.slice Ax 0 cx))).alloc (.cells #[.int .i64 (0), .int .i64 (5)] 3)) := (Below.refl _ _).alloc (Nat.le_refl _) _
  replace HW := Lib.hid (HW.out.trans (hb.mono HW.out.size))
  replace Va := Lib.hid (Va.out.below hb)
  replace Vb := Lib.hid (Vb.out.below hb)
  replace Vx := Lib.hid (Vx.out.below hb)
  clear hb
  rw [hsz] at hp2
  clear hsz
  generalize (w13.alloc (ouO 11 false (.slice Ax 0 cx))).alloc (.cells #[.int .i64 (0), .int .i64 (5)] 3) = w14 at *
  obtain ⟨bd, he2⟩ : ∃ pb, w13.heap.size + 1 = pb := ⟨_, rfl⟩
  rw [he2] at hp2 ⊢
  clear he2
  generalize w13.heap.size = bkx at *
  have Hbd := Lib.hid (show RdI w14 (some ⟨bd, 0, none⟩) [0, 5] from rdI_blk (l := [0, 5]) hp2 (by decide))
  clear hp2
  refine (value_any ⟨0, 7, 0, 0, 500⟩ [0, 5] ⟨3, 11, -2, 9, ⟨1, 1, 1, 4⟩, ⟨1, 3, 3, -2⟩, [1, 1, 1]⟩ (some ⟨bd, 0, none⟩) 2 Ab cb _ Hbd.out (by decide) Vb.out.2.2 Vb.out.2.1).mono ?_
  rintro e w15 ⟨v, rfl, how, hb⟩
  rw [show valRes ⟨0, 7, 0, 0, 500⟩ [0, 5] ⟨3, 11, -2, 9, ⟨1, 1, 1, 4⟩, ⟨1, 3, 3, -2⟩, [1, 1, 1]⟩ = ((((5 : Int), false, ([] : List Int))), (0 : Int)) from by kernel_rfl] at how ⊢
  obtain ⟨Ay, cy, rfl, hl, hr⟩ := how.reads
  simp only [ouV, List.length_cons, List.length_nil, Nat.zero_add, Nat.reduceAdd]
  clear how
  replace HW := Lib.hid (HW.out.trans (hb.mono HW.out.size))
  replace Va := Lib.hid (Va.out.below hb)
  replace Vb := Lib.hid (Vb.out.below hb)
  replace Vx := Lib.hid (Vx.out.below hb)
  clear hb
  obtain ⟨b0, b1, b2, b3, b4, b5, b6, b7, b8, b9, b10, b11, b12, bl⟩ := acO_facts Vb.out.1
  simp only [acO, ouO, List.length_cons, List.length_nil, Nat.zero_add, Nat.reduceAdd] at b0 b1 b2 b3 b4 b5 b6 b7 b8 b9 b10 b11 b12 bl
  have Vy := Lib.hid (OVar.new (w := w15) (n := 5) (t := false) (h := []) hl hr)
  have hb : Below w15.heap.size w15 (w15.alloc (ouO 5 false (.slice Ay 0 cy))) := (Below.refl _ _).alloc (Nat.le_refl _) _
  clear hl hr
  replace HW := Lib.hid (HW.out.trans (hb.mono HW.out.size))
  replace Va := Lib.hid (Va.out.below hb)
  replace Vb := Lib.hid (Vb.out.below hb)
  replace Vx := Lib.hid (Vx.out.below hb)
  clear hb
  clear Hbd
  change Hid (OVar (w15.alloc (ouO 5 false (.slice Ay 0 cy))) _ _ _ _ _ _) at Vy
  go_wp2_with fail
  show Calls _ _ _ ((w15.alloc (ouO 5 false (.slice Ay 0 cy))).alloc (.cells #[.int .i64 (0), .int .i64 (5)] 3)) _
  clear b0 b1 b2 b3 b4 b5 b6 b7 b8 b9 b10 b11 b12 bl
  have hsz : (w15.alloc (ouO 5 false (.slice Ay 0 cy))).heap.size = w15.heap.size + 1 := by simp
  have hp2 := heap_alloc_new (w15.alloc (ouO 5 false (.slice Ay 0 cy))) (.cells #[.int .i64 (0), .int .i64 (5)] 3)
  have hb : Below (w15.alloc (ouO 5 false (.slice Ay 0 cy))).heap.size (w15.alloc (ouO 5 false (.slice Ay 0 cy))) ((w15.alloc (ouO 5 false (.slice Ay 0 cy))).alloc (.cells #[.int .i64 (0), .int .i64 (5)] 3)) := (Below.refl _ _).alloc (Nat.le_refl _) _
  replace HW := Lib.hid (HW.out.trans (hb.mono HW.out.size))
  replace Va := Lib.hid (Va.out.below hb)
  replace Vb := Lib.hid (Vb.out.below hb)
  replace Vx := Lib.hid (Vx.out.below hb)
  replace Vy := Lib.hid (Vy.out.below hb)
  clear hb
  rw [hsz] at hp2
  clear hsz
  generalize (w15.alloc (ouO 5 false (.slice Ay 0 cy))).alloc (.cells #[.int .i64 (0), .int .i64 (5)] 3) = w16 at *
  obtain ⟨be, he2⟩ : ∃ pb, w15.heap.size + 1 = pb := ⟨_, rfl⟩
  rw [he2] at hp2 ⊢
  clear he2
  generalize w15.heap.size = bky at *
  have Hbe := Lib.hid (show RdI w16 (some ⟨be, 0, none⟩) [0, 5] from rdI_blk (l := [0, 5]) hp2 (by decide))
  clear hp2
  refine (value_any ⟨0, 7, 0, 0, 1000⟩ [0, 5] ⟨3, 11, -2, 9, ⟨1, 1, 1, 4⟩, ⟨1, 3, 3, -2⟩, [1, 1, 1]⟩ (some ⟨be, 0, none⟩) 2 Ab cb _ Hbe.out (by decide) Vb.out.2.2 Vb.out.2.1).mono ?_
  rintro e w17 ⟨v, rfl, how, hb⟩
  rw [show valRes ⟨0, 7, 0, 0, 1000⟩ [0, 5] ⟨3, 11, -2, 9, ⟨1, 1, 1, 4⟩, ⟨1, 3, 3, -2⟩, [1, 1, 1]⟩ = ((((9 : Int), false, ([] : List Int))), (0 : Int)) from by kernel_rfl] at how ⊢
  obtain ⟨Az, cz, rfl, hl, hr⟩ := how.reads
  simp only [ouV, List.length_cons, List.length_nil, Nat.zero_add, Nat.reduceAdd]
  clear how
  replace HW := Lib.hid (HW.out.trans (hb.mono HW.out.size))
  replace Va := Lib.hid (Va.out.below hb)
  replace Vb := Lib.hid (Vb.out.below hb)
  replace Vx := Lib.hid (Vx.out.below hb)
  replace Vy := Lib.hid (Vy.out.below hb)
  clear hb
  have Vz := Lib.hid (OVar.new (w := w17) (n := 9) (t := false) (h := []) hl hr)
  have hb : Below w17.heap.size w17 (w17.alloc (ouO 9 false (.slice Az 0 cz))) := (Below.refl _ _).alloc (Nat.le_refl _) _
  clear hl hr
  replace HW := Lib.hid (HW.out.trans (hb.mono HW.out.size))
  replace Va := Lib.hid (Va.out.below hb)
  replace Vb := Lib.hid (Vb.out.below hb)
  replace Vx := Lib.hid (Vx.out.below hb)
  replace Vy := Lib.hid (Vy.out.below hb)
  clear hb
  clear Hbe
  change Hid (OVar (w17.alloc (ouO 9 false (.slice Az 0 cz))) _ _ _ _ _ _) at Vz
  go_wp2_with fail
  show Calls _ _ _ (w17.alloc (ouO 9 false (.slice Az 0 cz))) _
  generalize w17.alloc (ouO 9 false (.slice Az 0 cz)) = w18 at *
  generalize w17.heap.size = bkz at *
  refine (fold_any 9 [] [] ⟨0, 0, 0, 0, ⟨0, 0, 0, 0⟩, ⟨0, 0, 0, 0⟩, [0]⟩ none 0 none 0 _ (Kd.C_nil _ _) (by decide) (rdI_nil _) (by decide) (by kernel_rfl)).mono ?_
  rintro e w19 ⟨v, rfl, how, hb⟩
  obtain ⟨An, cn, rfl, hln, hr⟩ := how.reads
  simp only [acV, List.length_cons, List.length_nil, Nat.zero_add, Nat.reduceAdd]
  clear how
  replace HW := Lib.hid (HW.out.trans (hb.mono HW.out.size))
  replace Va := Lib.hid (Va.out.below hb)
  replace Vb := Lib.hid (Vb.out.below hb)
  replace Vx := Lib.hid (Vx.out.below hb)
  replace Vy := Lib.hid (Vy.out.below hb)
  replace Vz := Lib.hid (Vz.out.below hb)
  clear hb
  have HRn := Lib.hid hr
  have HLn := Lib.hid hln
  clear hr hln
  go_wp2_with fail
  refine (value_any ⟨0, 0, 0, 0, 0⟩ [] ⟨0, 0, 0, 0, ⟨0, 0, 0, 0⟩, ⟨0, 0, 0, 0⟩, [0]⟩ none 0 An cn _ (rdI_nil _) (by decide) HRn.out HLn.out).mono ?_
  rintro e w20 ⟨v, rfl, how, hb⟩
  rw [show valRes ⟨0, 0, 0, 0, 0⟩ [] ⟨0, 0, 0, 0, ⟨0, 0, 0, 0⟩, ⟨0, 0, 0, 0⟩, [0]⟩ = ((((0 : Int), false, ([] : List Int))), (200 : Int)) from by kernel_rfl] at how ⊢
  obtain ⟨Au, cu, rfl, hl, hr⟩ := how.reads
  simp only [ouV, List.length_cons, List.length_nil, Nat.zero_add, Nat.reduceAdd]
  clear how
  replace HW := Lib.hid (HW.out.trans (hb.mono HW.out.size))
  replace Va := Lib.hid (Va.out.below hb)
  replace Vb := Lib.hid (Vb.out.below hb)
  replace Vx := Lib.hid (Vx.out.below hb)
  replace Vy := Lib.hid (Vy.out.below hb)
  replace Vz := Lib.hid (Vz.out.below hb)
  clear hb
  obtain ⟨b0, b1, b2, b3, b4, b5, b6, b7, b8, b9, b10, b11, b12, bl⟩ := acO_facts Vb.out.1
  simp only [acO, ouO, List.length_cons, List.length_nil, Nat.zero_add, Nat.reduceAdd] at b0 b1 b2 b3 b4 b5 b6 b7 b8 b9 b10 b11 b12 bl
  have Vu := Lib.hid (OVar.new (w := w20) (n := 0) (t := false) (h := []) hl hr)
  have hb : Below w20.heap.size w20 (w20.alloc (ouO 0 false (.slice Au 0 cu))) := (Below.refl _ _).alloc (Nat.le_refl _) _
  clear hl hr
  replace HW := Lib.hid (HW.out.trans (hb.mono HW.out.size))
  replace Va := Lib.hid (Va.out.below hb)
  replace Vb := Lib.hid (Vb.out.below hb)
  replace Vx := Lib.hid (Vx.out.below hb)
  replace Vy := Lib.hid (Vy.out.below hb)
  replace Vz := Lib.hid (Vz.out.below hb)
  clear hb
  clear HRn HLn
  change Hid (OVar (w20.alloc (ouO 0 false (.slice Au 0 cu))) _ _ _ _ _ _) at Vu
  go_wp2_with fail
  show Calls _ _ _ ((w20.alloc (ouO 0 false (.slice Au 0 cu))).alloc (.cells #[.int .i64 (0), .int .i64 (5)] 3)) _
  clear b0 b1 b2 b3 b4 b5 b6 b7 b8 b9 b10 b11 b12 bl
  have hsz : (w20.alloc (ouO 0 false (.slice Au 0 cu))).heap.size = w20.heap.size + 1 := by simp
  have hp2 := heap_alloc_new (w20.alloc (ouO 0 false (.slice Au 0 cu))) (.cells #[.int .i64 (0), .int .i64 (5)] 3)
  have hb : Below (w20.alloc (ouO 0 false (.slice Au 0 cu))).heap.size (w20.alloc (ouO 0 false (.slice Au 0 cu))) ((w20.alloc (ouO 0 false (.slice Au 0 cu))).alloc (.cells #[.int .i64 (0), .int .i64 (5)] 3)) := (Below.refl _ _).alloc (Nat.le_refl _) _
  replace HW := Lib.hid (HW.out.trans (hb.mono HW.out.size))
  replace Va := Lib.hid (Va.out.below hb)
  replace Vb := Lib.hid (Vb.out.below hb)
  replace Vx := Lib.hid (Vx.out.below hb)
  replace Vy := Lib.hid (Vy.out.below hb)
  replace Vz := Lib.hid (Vz.out.below hb)
  replace Vu := Lib.hid (Vu.out.below hb)
  clear hb
  rw [hsz] at hp2
  clear hsz
  generalize (w20.alloc (ouO 0 false (.slice Au 0 cu))).alloc (.cells #[.int .i64 (0), .int .i64 (5)] 3) = w21 at *
  obtain ⟨bf, he2⟩ : ∃ pb, w20.heap.size + 1 = pb := ⟨_, rfl⟩
  rw [he2] at hp2 ⊢
  clear he2
  generalize w20.heap.size = bku at *
  have Hbf := Lib.hid (show RdI w21 (some ⟨bf, 0, none⟩) [0, 5] from rdI_blk (l := [0, 5]) hp2 (by decide))
  clear hp2
  refine (value_any ⟨0, 6, 0, 0, 0⟩ [0, 5] ⟨3, 11, -2, 9, ⟨1, 1, 1, 4⟩, ⟨1, 3, 3, -2⟩, [1, 1, 1]⟩ (some ⟨bf, 0, none⟩) 2 Ab cb _ Hbf.out (by decide) Vb.out.2.2 Vb.out.2.1).mono ?_
  rintro e w22 ⟨v, rfl, how, hb⟩
  rw [show valRes ⟨0, 6, 0, 0, 0⟩ [0, 5] ⟨3, 11, -2, 9, ⟨1, 1, 1, 4⟩, ⟨1, 3, 3, -2⟩, [1, 1, 1]⟩ = ((((0 : Int), false, ([1, 1, 1] : List Int))), (0 : Int)) from by kernel_rfl] at how ⊢
  obtain ⟨Av, cv, rfl, hl, hr⟩ := how.reads
  simp only [ouV, List.length_cons, List.length_nil, Nat.zero_add, Nat.reduceAdd]
  clear how
  replace HW := Lib.hid (HW.out.trans (hb.mono HW.out.size))
  replace Va := Lib.hid (Va.out.below hb)
  replace Vb := Lib.hid (Vb.out.below hb)
  replace Vx := Lib.hid (Vx.out.below hb)
  replace Vy := Lib.hid (Vy.out.below hb)
  replace Vz := Lib.hid (Vz.out.below hb)
  replace Vu := Lib.hid (Vu.out.below hb)
  clear hb
  obtain ⟨x0, x1, x2, xl⟩ := ouO_facts Vx.out.1
  simp only [ouO, List.length_cons, List.length_nil, Nat.zero_add, Nat.reduceAdd] at x0 x1 x2 xl
  obtain ⟨y0, y1, y2, yl⟩ := ouO_facts Vy.out.1
  simp only [ouO, List.length_cons, List.length_nil, Nat.zero_add, Nat.reduceAdd] at y0 y1 y2 yl
  obtain ⟨z0, z1, z2, zl⟩ := ouO_facts Vz.out.1
  simp only [ouO, List.length_cons, List.length_nil, Nat.zero_add, Nat.reduceAdd] at z0 z1 z2 zl
  have Vv := Lib.hid (OVar.new (w := w22) (n := 0) (t := false) (h := [1, 1, 1]) hl hr)
  have hb : Below w22.heap.size w22 (w22.alloc (ouO 0 false (.slice Av 3 cv))) := (Below.refl _ _).alloc (Nat.le_refl _) _
  clear hl hr
  replace HW := Lib.hid (HW.out.trans (hb.mono HW.out.size))
  replace Va := Lib.hid (Va.out.below hb)
  replace Vb := Lib.hid (Vb.out.below hb)
  replace Vx := Lib.hid (Vx.out.below hb)
  replace Vy := Lib.hid (Vy.out.below hb)
  replace Vz := Lib.hid (Vz.out.below hb)
  replace Vu := Lib.hid (Vu.out.below hb)
  clear hb
  clear Hbf
  change Hid (OVar (w22.alloc (ouO 0 false (.slice Av 3 cv))) _ _ _ _ _ _) at Vv
  go_wp2_with fail
  show Calls _ _ _ (w22.alloc (ouO 0 false (.slice Av 3 cv))) _
  clear x0 x1 x2 xl y0 y1 y2 yl z0 z1 z2 zl
  generalize w22.alloc (ouO 0 false (.slice Av 3 cv)) = w23 at *
  generalize w22.heap.size = bkv at *
  obtain ⟨x0, x1, x2, xl⟩ := ouO_facts Vx.out.1
  simp only [ouO, List.length_cons, List.length_nil, Nat.zero_add, Nat.reduceAdd] at x0 x1 x2 xl
  obtain ⟨y0, y1, y2, yl⟩ := ouO_facts Vy.out.1
  simp only [ouO, List.length_cons, List.length_nil, Nat.zero_add, Nat.reduceAdd] at y0 y1 y2 yl
  obtain ⟨z0, z1, z2, zl⟩ := ouO_facts Vz.out.1
  simp only [ouO, List.length_cons, List.length_nil, Nat.zero_add, Nat.reduceAdd] at z0 z1 z2 zl
  obtain ⟨v0, v1, v2, vl⟩ := ouO_facts Vv.out.1
  simp only [ouO, List.length_cons, List.length_nil, Nat.zero_add, Nat.reduceAdd] at v0 v1 v2 vl
  refine (num_any _ _).mono ?_
  rintro e w' ⟨rfl, rfl⟩
  go_wp2_with fail
  refine (num_any _ _).mono ?_
  rintro e w' ⟨rfl, rfl⟩
  go_wp2_with fail
  refine (num_any _ _).mono ?_
  rintro e w' ⟨rfl, rfl⟩
  go_wp2_with fail
  refine (num_any _ _).mono ?_
  rintro e w' ⟨rfl, rfl⟩
  go_wp2_with fail
  show Calls _ _ _ (w23.alloc (.cells #[.int .i64 1, .int .i64 1, .int .i64 1] 3)) _
  clear x0 x1 x2 xl y0 y1 y2 yl z0 z1 z2 zl v0 v1 v2 vl
  have hnew := heap_alloc_new w23 (.cells #[.int .i64 (1), .int .i64 (1), .int .i64 (1)] 3)
  have hb : Below w23.heap.size w23 (w23.alloc (.cells #[.int .i64 (1), .int .i64 (1), .int .i64 (1)] 3)) := (Below.refl _ _).alloc (Nat.le_refl _) _
  replace HW := Lib.hid (HW.out.trans (hb.mono HW.out.size))
  replace Va := Lib.hid (Va.out.below hb)
  replace Vb := Lib.hid (Vb.out.below hb)
  replace Vx := Lib.hid (Vx.out.below hb)
  replace Vy := Lib.hid (Vy.out.below hb)
  replace Vz := Lib.hid (Vz.out.below hb)
  replace Vu := Lib.hid (Vu.out.below hb)
  replace Vv := Lib.hid (Vv.out.below hb)
  clear hb
  generalize w23.alloc (.cells #[.int .i64 (1), .int .i64 (1), .int .i64 (1)] 3) = w24 at *
  generalize w23.heap.size = bi at *
  have Hbi := Lib.hid (show RdI w24 (some ⟨bi, 0, none⟩) [1, 1, 1] from rdI_blk (l := [1, 1, 1]) hnew (by decide))
  clear hnew
  refine (sameI_yes [1, 1, 1] Av (some ⟨bi, 0, none⟩) cv 3 _ Vv.out.2.2 Vv.out.2.1 Hbi.out (by decide) (by decide)).mono ?_
  rintro e w25 ⟨rfl, hb⟩
  replace HW := Lib.hid (HW.out.trans (hb.mono HW.out.size))
  replace Va := Lib.hid (Va.out.below hb)
  replace Vb := Lib.hid (Vb.out.below hb)
  replace Vx := Lib.hid (Vx.out.below hb)
  replace Vy := Lib.hid (Vy.out.below hb)
  replace Vz := Lib.hid (Vz.out.below hb)
  replace Vu := Lib.hid (Vu.out.below hb)
  replace Vv := Lib.hid (Vv.out.below hb)
  replace Hbi := Lib.hid (Hbi.out.below hb)
  clear hb
  go_wp2_with fail
  refine (num_any _ _).mono ?_
  rintro e w' ⟨rfl, rfl⟩
  go_wp2_with fail
  go_ret
  exact ⟨rfl, HW.out⟩
end Go.Proofs.Ytggaefklcpbfnaa.My

namespace Go.Proofs.Ytggaefklcpbfnaa.Pa
open Go.RowKit Go.Proofs.YtggaefklcpbfnaaW.PrintWords Go.Proofs.YtggaefklcpbfnaaW.PrintLast Go.Proofs.YtggaefklcpbfnaaW.PrintMore
attribute [local go_sem] max2_int min2_int max_two min_two max_three min_three max_four min_four   -- for this text's walks alone
set_option linter.unusedVariables false
set_option linter.unusedSimpArgs false

def bournelaw2_awake.f  : Option (Bool) := some true
theorem bournelaw2_awake.calls  (r : Bool) (w : World) (h : bournelaw2_awake.f  = some r) :
    Calls Try.prog 23 #[] w fun e w' => e = .returned (.bool r) ∧ Below w.heap.size w w' := by
  unfold bournelaw2_awake.f at h
  obtain rfl := Option.some.inj h
  exact My.awake2_any w
end Go.Proofs.Ytggaefklcpbfnaa.Pa

namespace Go.Proofs.Ytggaefklcpbfnaa.My
open Go.RowKit Pa Go.Proofs.YtggaefklcpbfnaaW.PrintWords
set_option linter.unusedSimpArgs false

def hmL : List Int → Int → Bool
  | [], c => c == 0
  | x :: r, c => if x < 0 then false else if c < x then false else hmL r (c - x)
theorem hm_loop (h : List Int) (hl : h.length ≤ 17592186044415) : ∀ n i k c, i + n = h.length → n < k → 0 ≤ c → c ≤ 8192 → bourneref1_histMay.l0 k h c i = some (hmL (h.drop i) c)
  | 0, i, k, c, hi, hk, h0, h9 => by
    obtain ⟨k, rfl⟩ : ∃ m, k = m + 1 := ⟨k - 1, by omega⟩
    obtain rfl : i = h.length := by omega
    unfold bourneref1_histMay.l0
    rw [if_neg (by omega), List.drop_length]
    rfl
  | n + 1, i, k, c, hi, hk, h0, h9 => by
    obtain ⟨k, rfl⟩ : ∃ m, k = m + 1 := ⟨k - 1, by omega⟩
    have hlt : i < h.length := by omega
    have hd : h.drop i = h.getD i 0 :: h.drop (i + 1) := by
      rw [List.drop_eq_getElem_cons hlt, List.getD_eq_getElem?_getD, List.getElem?_eq_getElem hlt]
      rfl
    have hr : rd h i = h.getD i 0 := by unfold rd; rfl
    unfold bourneref1_histMay.l0
    rw [if_pos (by omega), if_pos (by omega), hd, hr]
    unfold hmL
    generalize h.getD i 0 = x
    by_cases h1 : x < 0
    · rw [if_pos h1, if_pos h1]
    · rw [if_neg h1, if_neg h1]
      by_cases h2 : c < x
      · rw [if_pos h2, if_pos h2]
      · rw [if_neg h2, if_neg h2, wrap_up (by omega), show wrap64 (c - x) = c - x by unfold wrap64; omega]
        exact hm_loop h hl n (i + 1) k (c - x) (by omega) (by omega) (by omega) (by omega)
theorem hm_f (h : List Int) (hl : h.length ≤ 17592186044415) {c : Int} (h0 : 0 ≤ c) (h9 : c ≤ 8192) : bourneref1_histMay.f (h.length + 1) h c = some (hmL h c) := by
  have := hm_loop h hl h.length 0 (h.length + 1) c (by omega) (by omega) h0 h9
  rwa [List.drop_zero] at this
theorem hmL_eq : ∀ (h : List Int) (c : Int), 0 ≤ c → c ≤ 8192 → hmL h c = (h.all nok && decide (h.sum = c))
  | [], c, h0, h9 => by
    unfold hmL
    by_cases h : c = 0
    · subst h; rfl
    · rw [beq_eq_false_iff_ne.2 h, List.sum_nil, decide_eq_false (fun e => h e.symm)]; rfl
  | x :: r, c, h0, h9 => by
    unfold hmL
    rw [List.all_cons, List.sum_cons]
    by_cases h1 : x < 0
    · rw [if_pos h1, show nok x = false from by unfold nok; exact decide_eq_false (by omega)]; rfl
    · rw [if_neg h1]
      by_cases h2 : c < x
      · rw [if_pos h2]
        cases ha : r.all nok with
        | false => simp
        | true =>
          have := (nok_sum (h := r) (fun y hy => List.all_eq_true.1 ha y hy)).1
          rw [decide_eq_false (by omega)]
          simp
      · rw [if_neg h2, hmL_eq r (c - x) (by omega) (by omega), show nok x = true from by unfold nok; exact decide_eq_true (by omega), Bool.true_and]
        by_cases h3 : r.sum = c - x
        · rw [decide_eq_true h3, decide_eq_true (by omega)]
        · rw [decide_eq_false h3, decide_eq_false (by omega)]

def rmayB (a : S28) (bs : List Int) : Bool :=
  if bmay bs = false then false else if ¬ a.f6.length = bs.length + 1 then false else if a.f0 < 0 then false else if 8192 < a.f0 then false else if hmL a.f6 a.f0 = false then false
  else if a.f0 = 0 then bareB a
  else if imay a.f4 = false then false else if imay a.f5 = false then false else if ¬ a.f4.f0 = a.f5.f0 then false else if bef a.f5 a.f4 = true then false
  else if wm a.f2 = false then false else if wm a.f3 = false then false else if a.f1 < a.f0 * a.f2 then false else if a.f0 * a.f3 < a.f1 then false
  else if ¬ a.f2 ≤ a.f4.f3 then false else if ¬ a.f4.f3 ≤ a.f3 then false else if ¬ a.f2 ≤ a.f5.f3 then false else if ¬ a.f5.f3 ≤ a.f3 then false else true
theorem bef_no (x y : S26) : bef y x = decide (¬ ord x y ≤ 0) := by
  unfold bef ord
  by_cases h1 : x.f1 < y.f1 <;> by_cases h2 : y.f1 < x.f1 <;> by_cases h3 : x.f2 < y.f2 <;> by_cases h4 : y.f2 < x.f2 <;> simp [h1, h2, h3, h4] <;> omega
theorem rmay_eq (a : S28) (bs : List Int) : rmayB a bs = amay a bs := by
  unfold rmayB amay
  cases bmay bs with
  | false => rfl
  | true =>
    rw [if_neg (by decide), Bool.true_and]
    by_cases h1 : a.f6.length = bs.length + 1
    · rw [if_neg (by simpa using h1), decide_eq_true (show a.f6.length ≤ bs.length + 1 by omega), Bool.true_and]
      by_cases h2 : a.f0 < 0
      · rw [if_pos h2, decide_eq_false (show ¬ 0 ≤ a.f0 by omega)]; simp
      · rw [if_neg h2, decide_eq_true (show 0 ≤ a.f0 by omega), Bool.true_and]
        by_cases h3 : 8192 < a.f0
        · rw [if_pos h3, decide_eq_false (show ¬ a.f0 ≤ 8192 by omega)]; simp
        · rw [if_neg h3, decide_eq_true (show a.f0 ≤ 8192 by omega), Bool.true_and, hmL_eq a.f6 a.f0 (by omega) (by omega)]
          unfold hmay
          rw [decide_eq_true h1, Bool.and_true]
          cases (a.f6.all nok && decide (a.f6.sum = a.f0)) with
          | false => rfl
          | true =>
            rw [if_neg (by decide), Bool.true_and]
            by_cases h4 : a.f0 = 0
            · rw [if_pos h4, if_pos h4]
            · rw [if_neg h4, if_neg h4]
              unfold emay iok
              rw [bef_no]
              cases imay a.f4 <;> cases imay a.f5 <;> cases wm a.f2 <;> cases wm a.f3 <;> (try simp) <;> (try omega)
              generalize a.f0 * a.f2 = m1
              generalize a.f0 * a.f3 = m2
              rw [Bool.eq_iff_iff]
              simp only [Bool.and_eq_true, decide_eq_true_eq, Bool.not_eq_true', decide_eq_false_iff_not]
              constructor
              · rintro ⟨g1, g2, g3, g4, g5, g6, g7, g8⟩
                exact ⟨by omega, ⟨⟨by omega, by omega⟩, ⟨by omega, by omega⟩, g1, by omega⟩, by omega, by omega⟩
              · rintro ⟨g1, ⟨⟨g2, g3⟩, ⟨g4, g5⟩, g6, g7⟩, g8, g9⟩
                exact ⟨g6, by omega, by omega, by omega, by omega, by omega, by omega, by omega⟩
    · rw [if_pos h1]
      by_cases h2 : a.f6.length ≤ bs.length + 1
      · unfold hmay
        rw [decide_eq_false h1]
        simp
      · rw [decide_eq_false h2]
        rfl
end Go.Proofs.Ytggaefklcpbfnaa.My

namespace Go.Proofs.Ytggaefklcpbfnaa.My
open Go.RowKit Pa Go.Proofs.YtggaefklcpbfnaaW.PrintWords
attribute [local go_sem high] eqA26

theorem histmay_any (h : List Int) (cn : Int) (A : Option Addr) (c : Nat) (w : World) (hr : RdI w A h) (hc : h.length ≤ c) (hl : h.length ≤ 9) (h0 : 0 ≤ cn) (h9 : cn ≤ 8192) :
    Calls Try.prog 58 #[.slice A h.length c, .int .i64 cn] w fun e w' => e = .returned (.bool (hmL h cn)) ∧ Below w.heap.size w w' :=
  (bourneref1_histMay.calls (h.length + 1) A c h cn _ w hr hc (hm_f h (by omega) h0 h9)).mono fun _ _ h => ⟨h.1, h.2.below⟩
theorem rwm_any (x : Int) (w : World) :
    Calls Try.prog 41 #[.int .i64 x, .int .i64 1099511627776] w fun e w' => e = .returned (.bool (wm x)) ∧ Below w.heap.size w w' :=
  (bourneref1_within.calls _ _ _ w (rwm_f x)).mono fun _ _ h => ⟨h.1, by first | exact h.2 | exact h.2.below⟩
theorem bne_t {b : Bool} (h : ¬ b = false) : b = true := by cases b <;> simp_all
set_option maxHeartbeats 16000000 in
set_option maxRecDepth 100000 in
theorem rmay_any (a : S28) (bs : List Int) (Ah : Option Addr) (ch : Nat) (A1 : Option Addr) (c1 : Nat) (w : World) (hh : RdI w Ah a.f6) (hch : a.f6.length ≤ ch) (hr : RdI w A1 bs) (hc : bs.length ≤ c1) :
    Calls Try.prog 33 #[acV a (.slice Ah a.f6.length ch), .slice A1 bs.length c1] w fun e w' => e = .returned (.bool (amay a bs)) ∧ Below w.heap.size w w' := by
  have HA := Lib.hid hh
  have HCH := Lib.hid hch
  have HR := Lib.hid hr
  have HC := Lib.hid hc
  have hB : Below w.heap.size w (w.alloc (acO a (.slice Ah a.f6.length ch))) := (Below.refl w.heap.size w).alloc (Nat.le_refl _) _
  have hg : (w.alloc (acO a (.slice Ah a.f6.length ch))).heap[w.heap.size]? = some (acO a (.slice Ah a.f6.length ch)) := heap_alloc_new w _
  have HX0 := Lib.hid hB
  have HG := Lib.hid hg
  clear hh hr hc hB hg hch
  unfold acV
  go_enter Try.func33, Try.ntmps33
  go_wp2_with fail
  show Calls _ _ _ (w.alloc (acO a (.slice Ah a.f6.length ch))) _
  generalize w.alloc (acO a (.slice Ah a.f6.length ch)) = w1 at *
  obtain ⟨a0, a1, a2, a3, a4, a5, a6, a7, a8, a9, a10, a11, a12, al⟩ := acO_facts HG.out
  refine (rbm_any bs A1 c1 _ (Kd.C_below HR.out HX0.out) HC.out (by have := HR.out.2.1; unfold maxLen at this; exact this)).mono ?_
  rintro e w2 ⟨rfl, hb⟩
  replace HG := Lib.hid (blk_below HG.out hb)
  replace HX0 := Lib.hid (HX0.out.trans (hb.mono HX0.out.size))
  clear hb a0 a1 a2 a3 a4 a5 a6 a7 a8 a9 a10 a11 a12 al
  obtain ⟨a0, a1, a2, a3, a4, a5, a6, a7, a8, a9, a10, a11, a12, al⟩ := acO_facts HG.out
  by_cases hx : bmay bs = false
  · rw [hx]
    have hres : amay a bs = false := by rw [← rmay_eq]; unfold rmayB; rw [if_pos hx]
    have HRES := Lib.hid hres
    clear hres hx
    go_wp2_with fail
    go_ret
    exact ⟨by rw [HRES.out]; rfl, HX0.out⟩
  · have HBM := Lib.hid (bne_t hx)
    rw [bne_t hx]
    clear hx
    have hb8 := bmay_len HBM.out
    by_cases hx : ¬ a.f6.length = bs.length + 1
    · have hdl : ((a.f6.length : Int) != (bs.length : Int) + 1) = true := bne_iff_ne.2 (fun e => hx (by omega))
      have hres : amay a bs = false := by rw [← rmay_eq]; unfold rmayB; rw [if_neg (by rw [HBM.out]; decide), if_pos hx]
      have HRES := Lib.hid hres
      clear hres hx
      go_wp2_with fail
      go_ret
      exact ⟨by rw [HRES.out]; rfl, HX0.out⟩
    · have HL := Lib.hid (Classical.not_not.1 hx)
      have hdl : ((a.f6.length : Int) != (bs.length : Int) + 1) = false := bne_eq_false_iff_eq.2 (by have := Classical.not_not.1 hx; omega)
      clear hx
      by_cases hx : a.f0 < 0
      · have hd : decide (a.f0 < 0) = true := decide_eq_true hx
        have hres : amay a bs = false := by rw [← rmay_eq]; unfold rmayB; rw [if_neg (by rw [HBM.out]; decide), if_neg (not_not_intro HL.out), if_pos hx]
        have HRES := Lib.hid hres
        clear hres hx
        go_wp2_with fail
        go_ret
        exact ⟨by rw [HRES.out]; rfl, HX0.out⟩
      · have H0 := Lib.hid (hx)
        have hd0 : decide (a.f0 < 0) = false := decide_eq_false hx
        clear hx
        by_cases hx : 8192 < a.f0
        · have hd : decide (8192 < a.f0) = true := decide_eq_true hx
          have hres : amay a bs = false := by rw [← rmay_eq]; unfold rmayB; rw [if_neg (by rw [HBM.out]; decide), if_neg (not_not_intro HL.out), if_neg (by have := H0.out; omega), if_pos hx]
          have HRES := Lib.hid hres
          clear hres hx
          go_wp2_with fail
          go_ret
          exact ⟨by rw [HRES.out]; rfl, HX0.out⟩
        · have H9 := Lib.hid (hx)
          have hd9 : decide (8192 < a.f0) = false := decide_eq_false hx
          clear hx
          have HCN := Lib.hid (show 0 ≤ a.f0 ∧ a.f0 ≤ 8192 from ⟨by have := H0.out; omega, by have := H9.out; omega⟩)
          go_wp2_with fail
          refine (histmay_any a.f6 a.f0 Ah ch _ (Kd.C_below HA.out HX0.out) HCH.out (by have := HL.out; omega) HCN.out.1 HCN.out.2).mono ?_
          rintro e w3 ⟨rfl, hb⟩
          replace HG := Lib.hid (blk_below HG.out hb)
          replace HX0 := Lib.hid (HX0.out.trans (hb.mono HX0.out.size))
          clear hb a0 a1 a2 a3 a4 a5 a6 a7 a8 a9 a10 a11 a12 al
          obtain ⟨a0, a1, a2, a3, a4, a5, a6, a7, a8, a9, a10, a11, a12, al⟩ := acO_facts HG.out
          by_cases hx : hmL a.f6 a.f0 = false
          · rw [hx]
            have hres : amay a bs = false := by rw [← rmay_eq]; unfold rmayB; rw [if_neg (by rw [HBM.out]; decide), if_neg (not_not_intro HL.out), if_neg (by have := H0.out; omega), if_neg (by have := H9.out; omega), if_pos hx]
            have HRES := Lib.hid hres
            clear hres hx
            go_wp2_with fail
            go_ret
            exact ⟨by rw [HRES.out]; rfl, HX0.out⟩
          · have HHM := Lib.hid (bne_t hx)
            rw [bne_t hx]
            clear hx
            by_cases hx : a.f0 = 0
            · have HZ0 := Lib.hid hx
              have hzb : (a.f0 == 0) = true := beq_iff_eq.2 hx
              clear hx
              by_cases h1 : a.f1 = 0
              · by_cases h2 : a.f2 = 0
                · by_cases h3 : a.f3 = 0
                  · by_cases h4 : isz a.f4 = true
                    · by_cases h5 : isz a.f5 = true
                      · have hres : amay a bs = true := by rw [← rmay_eq]; unfold rmayB; rw [if_neg (by rw [HBM.out]; decide), if_neg (not_not_intro HL.out), if_neg (by have := H0.out; omega), if_neg (by have := H9.out; omega), if_neg (by rw [HHM.out]; decide), if_pos HZ0.out]; unfold bareB; rw [h1, h2, h3, h4, h5]; rfl
                        have HRES := Lib.hid hres
                        have e4 := isz_yes h4
                        have e5 := isz_yes h5
                        rw [h1] at a1
                        rw [h2] at a2
                        rw [h3] at a3
                        rw [e4] at a4 a5 a6 a7
                        rw [e5] at a8 a9 a10 a11
                        simp only at a4 a5 a6 a7 a8 a9 a10 a11
                        clear e4 e5 h1 h2 h3 h4 h5 hres
                        go_wp2_with fail
                        go_ret
                        exact ⟨by rw [HRES.out]; rfl, HX0.out⟩
                      · have h5' := bne_ h5
                        have hres : amay a bs = false := by rw [← rmay_eq]; unfold rmayB; rw [if_neg (by rw [HBM.out]; decide), if_neg (not_not_intro HL.out), if_neg (by have := H0.out; omega), if_neg (by have := H9.out; omega), if_neg (by rw [HHM.out]; decide), if_pos HZ0.out]; exact bare_no (a := a) (.inr (.inr (.inr (.inr h5'))))
                        have HRES := Lib.hid hres
                        clear hres
                        have e4 := isz_yes h4
                        have e5 := isz_no h5'
                        rw [h1] at a1
                        rw [h2] at a2
                        rw [h3] at a3
                        rw [e4] at a4 a5 a6 a7
                        simp only at a4 a5 a6 a7
                        clear e4 h1 h2 h3 h4 h5 h5'
                        go_wp2_with fail
                        go_ret
                        exact ⟨by rw [HRES.out]; rfl, HX0.out⟩
                    · have h4' := bne_ h4
                      have hres : amay a bs = false := by rw [← rmay_eq]; unfold rmayB; rw [if_neg (by rw [HBM.out]; decide), if_neg (not_not_intro HL.out), if_neg (by have := H0.out; omega), if_neg (by have := H9.out; omega), if_neg (by rw [HHM.out]; decide), if_pos HZ0.out]; exact bare_no (a := a) (.inr (.inr (.inr (.inl h4'))))
                      have HRES := Lib.hid hres
                      clear hres
                      have e4 := isz_no h4'
                      rw [h1] at a1
                      rw [h2] at a2
                      rw [h3] at a3
                      clear h1 h2 h3 h4 h4'
                      go_wp2_with fail
                      go_ret
                      exact ⟨by rw [HRES.out]; rfl, HX0.out⟩
                  · have hres : amay a bs = false := by rw [← rmay_eq]; unfold rmayB; rw [if_neg (by rw [HBM.out]; decide), if_neg (not_not_intro HL.out), if_neg (by have := H0.out; omega), if_neg (by have := H9.out; omega), if_neg (by rw [HHM.out]; decide), if_pos HZ0.out]; exact bare_no (a := a) (.inr (.inr (.inl h3)))
                    have HRES := Lib.hid hres
                    clear hres
                    have e3 : (a.f3 == 0) = false := beq_eq_false_iff_ne.2 h3
                    rw [h1] at a1
                    rw [h2] at a2
                    clear h1 h2 h3
                    go_wp2_with fail
                    go_ret
                    exact ⟨by rw [HRES.out]; rfl, HX0.out⟩
                · have hres : amay a bs = false := by rw [← rmay_eq]; unfold rmayB; rw [if_neg (by rw [HBM.out]; decide), if_neg (not_not_intro HL.out), if_neg (by have := H0.out; omega), if_neg (by have := H9.out; omega), if_neg (by rw [HHM.out]; decide), if_pos HZ0.out]; exact bare_no (a := a) (.inr (.inl h2))
                  have HRES := Lib.hid hres
                  clear hres
                  have e3 : (a.f2 == 0) = false := beq_eq_false_iff_ne.2 h2
                  rw [h1] at a1
                  clear h1 h2
                  go_wp2_with fail
                  go_ret
                  exact ⟨by rw [HRES.out]; rfl, HX0.out⟩
              · have hres : amay a bs = false := by rw [← rmay_eq]; unfold rmayB; rw [if_neg (by rw [HBM.out]; decide), if_neg (not_not_intro HL.out), if_neg (by have := H0.out; omega), if_neg (by have := H9.out; omega), if_neg (by rw [HHM.out]; decide), if_pos HZ0.out]; exact bare_no (a := a) (.inl h1)
                have HRES := Lib.hid hres
                clear hres
                have e3 : (a.f1 == 0) = false := beq_eq_false_iff_ne.2 h1
                clear h1
                go_wp2_with fail
                go_ret
                exact ⟨by rw [HRES.out]; rfl, HX0.out⟩
            · have HZ := Lib.hid (hx)
              have hzb : (a.f0 == 0) = false := beq_eq_false_iff_ne.2 hx
              clear hx
              go_wp2_with fail
              go_region
              all_goals clear a0 a1 a2 a3 a4 a5 a6 a7 a8 a9 a10 a11 a12 al
              all_goals (first
                | (
                  change Exit.then _ _ _ _ (((w3.alloc (itO a.f4)).alloc (itO a.f5)).drew)
                  have h1 : (((w3.alloc (itO a.f4)).alloc (itO a.f5)).drew).heap[w3.heap.size]? = some (itO a.f4) := blk_below (heap_alloc_new w3 (itO a.f4)) (((Below.refl _ _).alloc (Nat.le_refl _) _).drew)
                  have h2 : (((w3.alloc (itO a.f4)).alloc (itO a.f5)).drew).heap[w3.heap.size + 1]? = some (itO a.f5) := by
                    have := heap_alloc_new (w3.alloc (itO a.f4)) (itO a.f5)
                    show ((w3.alloc (itO a.f4)).alloc (itO a.f5)).heap[w3.heap.size + 1]? = _
                    simpa using this
                  have h3 : Below w3.heap.size w3 (((w3.alloc (itO a.f4)).alloc (itO a.f5)).drew) := (((Below.refl w3.heap.size w3).alloc (Nat.le_refl _) _).alloc (by simp) _).drew
                  replace HG := Lib.hid (blk_below HG.out h3)
                  replace HX0 := Lib.hid (HX0.out.trans (h3.mono HX0.out.size))
                  have HF := Lib.hid h1
                  have HZ_ := Lib.hid h2
                  clear h1 h2 h3
                  generalize ((w3.alloc (itO a.f4)).alloc (itO a.f5)).drew = w4 at *
                  generalize w3.heap.size + 1 = za at *
                  generalize w3.heap.size = fa at *)
                | (
                  change Exit.then _ _ _ _ (((w3.alloc (itO a.f5)).alloc (itO a.f4)).drew)
                  have h1 : (((w3.alloc (itO a.f5)).alloc (itO a.f4)).drew).heap[w3.heap.size]? = some (itO a.f5) := blk_below (heap_alloc_new w3 (itO a.f5)) (((Below.refl _ _).alloc (Nat.le_refl _) _).drew)
                  have h2 : (((w3.alloc (itO a.f5)).alloc (itO a.f4)).drew).heap[w3.heap.size + 1]? = some (itO a.f4) := by
                    have := heap_alloc_new (w3.alloc (itO a.f5)) (itO a.f4)
                    show ((w3.alloc (itO a.f5)).alloc (itO a.f4)).heap[w3.heap.size + 1]? = _
                    simpa using this
                  have h3 : Below w3.heap.size w3 (((w3.alloc (itO a.f5)).alloc (itO a.f4)).drew) := (((Below.refl w3.heap.size w3).alloc (Nat.le_refl _) _).alloc (by simp) _).drew
                  replace HG := Lib.hid (blk_below HG.out h3)
                  replace HX0 := Lib.hid (HX0.out.trans (h3.mono HX0.out.size))
                  have HZ_ := Lib.hid h1
                  have HF := Lib.hid h2
                  clear h1 h2 h3
                  generalize ((w3.alloc (itO a.f5)).alloc (itO a.f4)).drew = w4 at *
                  generalize w3.heap.size + 1 = fa at *
                  generalize w3.heap.size = za at *))
              all_goals (
                obtain ⟨a0, a1, a2, a3, a4, a5, a6, a7, a8, a9, a10, a11, a12, al⟩ := acO_facts HG.out
                obtain ⟨f0, f1, f2, f3, fl⟩ := itO_facts HF.out
                obtain ⟨z0, z1, z2, z3, zl⟩ := itO_facts HZ_.out
                go_wp2_with fail
                refine (rim_any a.f4 _).mono ?_
                rintro e w5 ⟨rfl, hb⟩
                replace HG := Lib.hid (blk_below HG.out hb)
                replace HF := Lib.hid (blk_below HF.out hb)
                replace HZ_ := Lib.hid (blk_below HZ_.out hb)
                replace HX0 := Lib.hid (HX0.out.trans (hb.mono HX0.out.size))
                clear hb a0 a1 a2 a3 a4 a5 a6 a7 a8 a9 a10 a11 a12 al f0 f1 f2 f3 fl z0 z1 z2 z3 zl
                obtain ⟨a0, a1, a2, a3, a4, a5, a6, a7, a8, a9, a10, a11, a12, al⟩ := acO_facts HG.out
                obtain ⟨f0, f1, f2, f3, fl⟩ := itO_facts HF.out
                obtain ⟨z0, z1, z2, z3, zl⟩ := itO_facts HZ_.out
                by_cases hx : imay a.f4 = false
                · rw [hx]
                  have hres : amay a bs = false := by rw [← rmay_eq]; unfold rmayB; rw [if_neg (by rw [HBM.out]; decide), if_neg (not_not_intro HL.out), if_neg (by have := H0.out; omega), if_neg (by have := H9.out; omega), if_neg (by rw [HHM.out]; decide), if_neg HZ.out, if_pos hx]
                  have HRES := Lib.hid hres
                  clear hres hx
                  go_wp2_with fail
                  go_ret
                  exact ⟨by rw [HRES.out]; rfl, HX0.out⟩
                · have HI4 := Lib.hid (bne_t hx)
                  rw [bne_t hx]
                  clear hx
                  go_wp2_with fail
                  refine (rim_any a.f5 _).mono ?_
                  rintro e w6 ⟨rfl, hb⟩
                  replace HG := Lib.hid (blk_below HG.out hb)
                  replace HF := Lib.hid (blk_below HF.out hb)
                  replace HZ_ := Lib.hid (blk_below HZ_.out hb)
                  replace HX0 := Lib.hid (HX0.out.trans (hb.mono HX0.out.size))
                  clear hb a0 a1 a2 a3 a4 a5 a6 a7 a8 a9 a10 a11 a12 al f0 f1 f2 f3 fl z0 z1 z2 z3 zl
                  obtain ⟨a0, a1, a2, a3, a4, a5, a6, a7, a8, a9, a10, a11, a12, al⟩ := acO_facts HG.out
                  obtain ⟨f0, f1, f2, f3, fl⟩ := itO_facts HF.out
                  obtain ⟨z0, z1, z2, z3, zl⟩ := itO_facts HZ_.out
                  by_cases hx : imay a.f5 = false
                  · rw [hx]
                    have hres : amay a bs = false := by rw [← rmay_eq]; unfold rmayB; rw [if_neg (by rw [HBM.out]; decide), if_neg (not_not_intro HL.out), if_neg (by have := H0.out; omega), if_neg (by have := H9.out; omega), if_neg (by rw [HHM.out]; decide), if_neg HZ.out, if_neg (by rw [HI4.out]; decide), if_pos hx]
                    have HRES := Lib.hid hres
                    clear hres hx
                    go_wp2_with fail
                    go_ret
                    exact ⟨by rw [HRES.out]; rfl, HX0.out⟩
                  · have HI5 := Lib.hid (bne_t hx)
                    rw [bne_t hx]
                    clear hx
                    by_cases hx : ¬ a.f4.f0 = a.f5.f0
                    · have hds : (a.f4.f0 != a.f5.f0) = true := bne_iff_ne.2 hx
                      have hres : amay a bs = false := by rw [← rmay_eq]; unfold rmayB; rw [if_neg (by rw [HBM.out]; decide), if_neg (not_not_intro HL.out), if_neg (by have := H0.out; omega), if_neg (by have := H9.out; omega), if_neg (by rw [HHM.out]; decide), if_neg HZ.out, if_neg (by rw [HI4.out]; decide), if_neg (by rw [HI5.out]; decide), if_pos hx]
                      have HRES := Lib.hid hres
                      clear hres hx
                      go_wp2_with fail
                      go_ret
                      exact ⟨by rw [HRES.out]; rfl, HX0.out⟩
                    · have HS := Lib.hid (Classical.not_not.1 hx)
                      have hds : (a.f4.f0 != a.f5.f0) = false := bne_eq_false_iff_eq.2 (Classical.not_not.1 hx)
                      clear hx
                      go_wp2_with fail
                      refine (bef_any a.f5 a.f4 _).mono ?_
                      rintro e w7 ⟨rfl, hb⟩
                      replace HG := Lib.hid (blk_below HG.out hb)
                      replace HF := Lib.hid (blk_below HF.out hb)
                      replace HZ_ := Lib.hid (blk_below HZ_.out hb)
                      replace HX0 := Lib.hid (HX0.out.trans (hb.mono HX0.out.size))
                      clear hb a0 a1 a2 a3 a4 a5 a6 a7 a8 a9 a10 a11 a12 al f0 f1 f2 f3 fl z0 z1 z2 z3 zl
                      obtain ⟨a0, a1, a2, a3, a4, a5, a6, a7, a8, a9, a10, a11, a12, al⟩ := acO_facts HG.out
                      obtain ⟨f0, f1, f2, f3, fl⟩ := itO_facts HF.out
                      obtain ⟨z0, z1, z2, z3, zl⟩ := itO_facts HZ_.out
                      by_cases hx : bef a.f5 a.f4 = true
                      · rw [hx]
                        have hres : amay a bs = false := by rw [← rmay_eq]; unfold rmayB; rw [if_neg (by rw [HBM.out]; decide), if_neg (not_not_intro HL.out), if_neg (by have := H0.out; omega), if_neg (by have := H9.out; omega), if_neg (by rw [HHM.out]; decide), if_neg HZ.out, if_neg (by rw [HI4.out]; decide), if_neg (by rw [HI5.out]; decide), if_neg (not_not_intro HS.out), if_pos hx]
                        have HRES := Lib.hid hres
                        clear hres hx
                        go_wp2_with fail
                        go_ret
                        exact ⟨by rw [HRES.out]; rfl, HX0.out⟩
                      · have HO := Lib.hid (bne_ hx)
                        rw [bne_ hx]
                        clear hx
                        go_wp2_with fail
                        refine (rwm_any a.f2 _).mono ?_
                        rintro e w8 ⟨rfl, hb⟩
                        replace HG := Lib.hid (blk_below HG.out hb)
                        replace HF := Lib.hid (blk_below HF.out hb)
                        replace HZ_ := Lib.hid (blk_below HZ_.out hb)
                        replace HX0 := Lib.hid (HX0.out.trans (hb.mono HX0.out.size))
                        clear hb a0 a1 a2 a3 a4 a5 a6 a7 a8 a9 a10 a11 a12 al f0 f1 f2 f3 fl z0 z1 z2 z3 zl
                        obtain ⟨a0, a1, a2, a3, a4, a5, a6, a7, a8, a9, a10, a11, a12, al⟩ := acO_facts HG.out
                        obtain ⟨f0, f1, f2, f3, fl⟩ := itO_facts HF.out
                        obtain ⟨z0, z1, z2, z3, zl⟩ := itO_facts HZ_.out
                        by_cases hx : wm a.f2 = false
                        · rw [hx]
                          have hres : amay a bs = false := by rw [← rmay_eq]; unfold rmayB; rw [if_neg (by rw [HBM.out]; decide), if_neg (not_not_intro HL.out), if_neg (by have := H0.out; omega), if_neg (by have := H9.out; omega), if_neg (by rw [HHM.out]; decide), if_neg HZ.out, if_neg (by rw [HI4.out]; decide), if_neg (by rw [HI5.out]; decide), if_neg (not_not_intro HS.out), if_neg (by rw [HO.out]; decide), if_pos hx]
                          have HRES := Lib.hid hres
                          clear hres hx
                          go_wp2_with fail
                          go_ret
                          exact ⟨by rw [HRES.out]; rfl, HX0.out⟩
                        · have HW2 := Lib.hid (bne_t hx)
                          rw [bne_t hx]
                          clear hx
                          go_wp2_with fail
                          refine (rwm_any a.f3 _).mono ?_
                          rintro e w9 ⟨rfl, hb⟩
                          replace HG := Lib.hid (blk_below HG.out hb)
                          replace HF := Lib.hid (blk_below HF.out hb)
                          replace HZ_ := Lib.hid (blk_below HZ_.out hb)
                          replace HX0 := Lib.hid (HX0.out.trans (hb.mono HX0.out.size))
                          clear hb a0 a1 a2 a3 a4 a5 a6 a7 a8 a9 a10 a11 a12 al f0 f1 f2 f3 fl z0 z1 z2 z3 zl
                          obtain ⟨a0, a1, a2, a3, a4, a5, a6, a7, a8, a9, a10, a11, a12, al⟩ := acO_facts HG.out
                          obtain ⟨f0, f1, f2, f3, fl⟩ := itO_facts HF.out
                          obtain ⟨z0, z1, z2, z3, zl⟩ := itO_facts HZ_.out
                          by_cases hx : wm a.f3 = false
                          · rw [hx]
                            have hres : amay a bs = false := by rw [← rmay_eq]; unfold rmayB; rw [if_neg (by rw [HBM.out]; decide), if_neg (not_not_intro HL.out), if_neg (by have := H0.out; omega), if_neg (by have := H9.out; omega), if_neg (by rw [HHM.out]; decide), if_neg HZ.out, if_neg (by rw [HI4.out]; decide), if_neg (by rw [HI5.out]; decide), if_neg (not_not_intro HS.out), if_neg (by rw [HO.out]; decide), if_neg (by rw [HW2.out]; decide), if_pos hx]
                            have HRES := Lib.hid hres
                            clear hres hx
                            go_wp2_with fail
                            go_ret
                            exact ⟨by rw [HRES.out]; rfl, HX0.out⟩
                          · have HW3 := Lib.hid (bne_t hx)
                            rw [bne_t hx]
                            clear hx
                            have HWW := Lib.hid (And.intro (wm_iff HW2.out) (wm_iff HW3.out))
                            obtain ⟨m1, m2⟩ := mul_bound HCN.out.1 HCN.out.2 HWW.out.1.1 HWW.out.1.2
                            obtain ⟨m3, m4⟩ := mul_bound HCN.out.1 HCN.out.2 HWW.out.2.1 HWW.out.2.2
                            have hv1 : wrap64 (a.f0 * a.f2) = a.f0 * a.f2 := by unfold wrap64; omega
                            have hv2 : wrap64 (a.f0 * a.f3) = a.f0 * a.f3 := by unfold wrap64; omega
                            have hv3 : IntKind.i64.wrap (a.f0 * a.f2) = a.f0 * a.f2 := by rw [IntKind.wrap_i64]; omega
                            have hv4 : IntKind.i64.wrap (a.f0 * a.f3) = a.f0 * a.f3 := by rw [IntKind.wrap_i64]; omega
                            clear m1 m2 m3 m4
                            by_cases hx : a.f1 < a.f0 * a.f2
                            · have hd1 : decide (a.f1 < a.f0 * a.f2) = true := decide_eq_true hx
                              have hres : amay a bs = false := by rw [← rmay_eq]; unfold rmayB; rw [if_neg (by rw [HBM.out]; decide), if_neg (not_not_intro HL.out), if_neg (by have := H0.out; omega), if_neg (by have := H9.out; omega), if_neg (by rw [HHM.out]; decide), if_neg HZ.out, if_neg (by rw [HI4.out]; decide), if_neg (by rw [HI5.out]; decide), if_neg (not_not_intro HS.out), if_neg (by rw [HO.out]; decide), if_neg (by rw [HW2.out]; decide), if_neg (by rw [HW3.out]; decide), if_pos hx]
                              have HRES := Lib.hid hres
                              clear hres hx
                              go_wp2_with fail
                              go_ret
                              exact ⟨by rw [HRES.out]; rfl, HX0.out⟩
                            · have HP := Lib.hid (hx)
                              have hd1 : decide (a.f1 < a.f0 * a.f2) = false := decide_eq_false hx
                              clear hx
                              by_cases hx : a.f0 * a.f3 < a.f1
                              · have hd2 : decide (a.f0 * a.f3 < a.f1) = true := decide_eq_true hx
                                have hres : amay a bs = false := by rw [← rmay_eq]; unfold rmayB; rw [if_neg (by rw [HBM.out]; decide), if_neg (not_not_intro HL.out), if_neg (by have := H0.out; omega), if_neg (by have := H9.out; omega), if_neg (by rw [HHM.out]; decide), if_neg HZ.out, if_neg (by rw [HI4.out]; decide), if_neg (by rw [HI5.out]; decide), if_neg (not_not_intro HS.out), if_neg (by rw [HO.out]; decide), if_neg (by rw [HW2.out]; decide), if_neg (by rw [HW3.out]; decide), if_neg (by have := HP.out; omega), if_pos hx]
                                have HRES := Lib.hid hres
                                clear hres hx
                                go_wp2_with fail
                                go_ret
                                exact ⟨by rw [HRES.out]; rfl, HX0.out⟩
                              · have HQ := Lib.hid (hx)
                                have hd2 : decide (a.f0 * a.f3 < a.f1) = false := decide_eq_false hx
                                clear hx
                                by_cases hx : ¬ a.f2 ≤ a.f4.f3
                                · have hd : decide (a.f2 ≤ a.f4.f3) = false := decide_eq_false hx
                                  have hres : amay a bs = false := by rw [← rmay_eq]; unfold rmayB; rw [if_neg (by rw [HBM.out]; decide), if_neg (not_not_intro HL.out), if_neg (by have := H0.out; omega), if_neg (by have := H9.out; omega), if_neg (by rw [HHM.out]; decide), if_neg HZ.out, if_neg (by rw [HI4.out]; decide), if_neg (by rw [HI5.out]; decide), if_neg (not_not_intro HS.out), if_neg (by rw [HO.out]; decide), if_neg (by rw [HW2.out]; decide), if_neg (by rw [HW3.out]; decide), if_neg (by have := HP.out; omega), if_neg (by have := HQ.out; omega), if_pos hx]
                                  have HRES := Lib.hid hres
                                  clear hres hx
                                  go_wp2_with fail
                                  go_ret
                                  exact ⟨by rw [HRES.out]; rfl, HX0.out⟩
                                · have HA1 := Lib.hid (Classical.not_not.1 hx)
                                  have hdHA1 : decide (a.f2 ≤ a.f4.f3) = true := decide_eq_true (Classical.not_not.1 hx)
                                  clear hx
                                  by_cases hx : ¬ a.f4.f3 ≤ a.f3
                                  · have hd : decide (a.f4.f3 ≤ a.f3) = false := decide_eq_false hx
                                    have hres : amay a bs = false := by rw [← rmay_eq]; unfold rmayB; rw [if_neg (by rw [HBM.out]; decide), if_neg (not_not_intro HL.out), if_neg (by have := H0.out; omega), if_neg (by have := H9.out; omega), if_neg (by rw [HHM.out]; decide), if_neg HZ.out, if_neg (by rw [HI4.out]; decide), if_neg (by rw [HI5.out]; decide), if_neg (not_not_intro HS.out), if_neg (by rw [HO.out]; decide), if_neg (by rw [HW2.out]; decide), if_neg (by rw [HW3.out]; decide), if_neg (by have := HP.out; omega), if_neg (by have := HQ.out; omega), if_neg (not_not_intro HA1.out), if_pos hx]
                                    have HRES := Lib.hid hres
                                    clear hres hx
                                    go_wp2_with fail
                                    go_ret
                                    exact ⟨by rw [HRES.out]; rfl, HX0.out⟩
                                  · have HA2 := Lib.hid (Classical.not_not.1 hx)
                                    have hdHA2 : decide (a.f4.f3 ≤ a.f3) = true := decide_eq_true (Classical.not_not.1 hx)
                                    clear hx
                                    by_cases hx : ¬ a.f2 ≤ a.f5.f3
                                    · have hd : decide (a.f2 ≤ a.f5.f3) = false := decide_eq_false hx
                                      have hres : amay a bs = false := by rw [← rmay_eq]; unfold rmayB; rw [if_neg (by rw [HBM.out]; decide), if_neg (not_not_intro HL.out), if_neg (by have := H0.out; omega), if_neg (by have := H9.out; omega), if_neg (by rw [HHM.out]; decide), if_neg HZ.out, if_neg (by rw [HI4.out]; decide), if_neg (by rw [HI5.out]; decide), if_neg (not_not_intro HS.out), if_neg (by rw [HO.out]; decide), if_neg (by rw [HW2.out]; decide), if_neg (by rw [HW3.out]; decide), if_neg (by have := HP.out; omega), if_neg (by have := HQ.out; omega), if_neg (not_not_intro HA1.out), if_neg (not_not_intro HA2.out), if_pos hx]
                                      have HRES := Lib.hid hres
                                      clear hres hx
                                      go_wp2_with fail
                                      go_ret
                                      exact ⟨by rw [HRES.out]; rfl, HX0.out⟩
                                    · have HA3 := Lib.hid (Classical.not_not.1 hx)
                                      have hdHA3 : decide (a.f2 ≤ a.f5.f3) = true := decide_eq_true (Classical.not_not.1 hx)
                                      clear hx
                                      by_cases hx : ¬ a.f5.f3 ≤ a.f3
                                      · have hd : decide (a.f5.f3 ≤ a.f3) = false := decide_eq_false hx
                                        have hres : amay a bs = false := by rw [← rmay_eq]; unfold rmayB; rw [if_neg (by rw [HBM.out]; decide), if_neg (not_not_intro HL.out), if_neg (by have := H0.out; omega), if_neg (by have := H9.out; omega), if_neg (by rw [HHM.out]; decide), if_neg HZ.out, if_neg (by rw [HI4.out]; decide), if_neg (by rw [HI5.out]; decide), if_neg (not_not_intro HS.out), if_neg (by rw [HO.out]; decide), if_neg (by rw [HW2.out]; decide), if_neg (by rw [HW3.out]; decide), if_neg (by have := HP.out; omega), if_neg (by have := HQ.out; omega), if_neg (not_not_intro HA1.out), if_neg (not_not_intro HA2.out), if_neg (not_not_intro HA3.out), if_pos hx]
                                        have HRES := Lib.hid hres
                                        clear hres hx
                                        go_wp2_with fail
                                        go_ret
                                        exact ⟨by rw [HRES.out]; rfl, HX0.out⟩
                                      · have HA4 := Lib.hid (Classical.not_not.1 hx)
                                        have hdHA4 : decide (a.f5.f3 ≤ a.f3) = true := decide_eq_true (Classical.not_not.1 hx)
                                        clear hx
                                        have hres : amay a bs = true := by rw [← rmay_eq]; unfold rmayB; rw [if_neg (by rw [HBM.out]; decide), if_neg (not_not_intro HL.out), if_neg (by have := H0.out; omega), if_neg (by have := H9.out; omega), if_neg (by rw [HHM.out]; decide), if_neg HZ.out, if_neg (by rw [HI4.out]; decide), if_neg (by rw [HI5.out]; decide), if_neg (not_not_intro HS.out), if_neg (by rw [HO.out]; decide), if_neg (by rw [HW2.out]; decide), if_neg (by rw [HW3.out]; decide), if_neg (by have := HP.out; omega), if_neg (by have := HQ.out; omega), if_neg (not_not_intro HA1.out), if_neg (not_not_intro HA2.out), if_neg (not_not_intro HA3.out), if_neg (not_not_intro HA4.out)]
                                        have HRES := Lib.hid hres
                                        clear hres
                                        go_wp2_with fail
                                        go_ret
                                        exact ⟨by rw [HRES.out]; rfl, HX0.out⟩)
end Go.Proofs.Ytggaefklcpbfnaa.My

namespace Go.Proofs.Ytggaefklcpbfnaa.Pa
open Go.RowKit Go.Proofs.YtggaefklcpbfnaaW.PrintWords Go.Proofs.YtggaefklcpbfnaaW.PrintLast Go.Proofs.YtggaefklcpbfnaaW.PrintMore
attribute [local go_sem] max2_int min2_int max_two min_two max_three min_three max_four min_four   -- for this text's walks alone
set_option linter.unusedVariables false
set_option linter.unusedSimpArgs false

def bourneref1_AccMay.f (a0_0 : Int) (a0_1 : Int) (a0_2 : Int) (a0_3 : Int) (a0_4 : Int) (a0_5 : Int) (a0_6 : Int) (a0_7 : Int) (a0_8 : Int) (a0_9 : Int) (a0_10 : Int) (a0_11 : Int) (l0_12 : List Int) (l1 : List Int) : Option (Bool) := some (My.amay ⟨a0_0, a0_1, a0_2, a0_3, ⟨a0_4, a0_5, a0_6, a0_7⟩, ⟨a0_8, a0_9, a0_10, a0_11⟩, l0_12⟩ l1)
theorem bourneref1_AccMay.calls (a0_0 : Int) (a0_1 : Int) (a0_2 : Int) (a0_3 : Int) (a0_4 : Int) (a0_5 : Int) (a0_6 : Int) (a0_7 : Int) (a0_8 : Int) (a0_9 : Int) (a0_10 : Int) (a0_11 : Int) (A0_12 : Option Addr) (c0_12 : Nat) (l0_12 : List Int) (A1 : Option Addr) (c1 : Nat) (l1 : List Int) (r : Bool) (w : World) (hr0_12 : Kd.C (Kd.int .i64) w A0_12 l0_12.length l0_12) (hc0_12 : l0_12.length ≤ c0_12) (hr1 : Kd.C (Kd.int .i64) w A1 l1.length l1) (hc1 : l1.length ≤ c1) (h : bourneref1_AccMay.f a0_0 a0_1 a0_2 a0_3 a0_4 a0_5 a0_6 a0_7 a0_8 a0_9 a0_10 a0_11 l0_12 l1 = some r) :
    Calls Try.prog 33 #[.agg #[.int .i64 a0_0, .int .i64 a0_1, .int .i64 a0_2, .int .i64 a0_3, .int .i64 a0_4, .int .i64 a0_5, .int .i64 a0_6, .int .i64 a0_7, .int .i64 a0_8, .int .i64 a0_9, .int .i64 a0_10, .int .i64 a0_11, .slice A0_12 l0_12.length c0_12], .slice A1 l1.length c1] w fun e w' => e = .returned (.bool r) ∧ Below w.heap.size w w' := by
  unfold bourneref1_AccMay.f at h
  obtain rfl := Option.some.inj h
  exact My.rmay_any ⟨a0_0, a0_1, a0_2, a0_3, ⟨a0_4, a0_5, a0_6, a0_7⟩, ⟨a0_8, a0_9, a0_10, a0_11⟩, l0_12⟩ l1 A0_12 c0_12 A1 c1 w hr0_12 hc0_12 hr1 hc1
end Go.Proofs.Ytggaefklcpbfnaa.Pa
