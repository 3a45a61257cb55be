/- Words, lemmas and functions told as plain ones, out of what the kit's print wrote: what the row's proof uses. No statement of the seed is proved here. -/
import Derived.Test.YtggaefklcpbfnaaYPa0
namespace Go.Proofs.Ytggaefklcpbfnaa.Pa
open Go.RowKit Go.Proofs.YtggaefklcpbfnaaW.PrintWords Go.Proofs.YtggaefklcpbfnaaW.PrintLast Go.Proofs.YtggaefklcpbfnaaW.PrintMore
attribute [local go_sem] max2_int min2_int max_two min_two max_three min_three max_four min_four   -- for this text's walks alone
set_option linter.unusedVariables false
set_option linter.unusedSimpArgs false

def bourneref1_rank.l0 : Nat → Int → Int → Int → Int → Int → Int → List Int → Int → Int → Int → Int → Int → Int → Int → Int → Int → Int → Int → Int → Int → List Int → Option (Int)
  | 0, _, _, _, _, _, _, _, _, _, _, _, _, _, _, _, _, _, _, _, _, _ => none
  | k + 1, x5, x6, x524000, x524001, x524002, x524003, x524004, x524005, x525000, x525001, x525002, x525003, x525004, x525005, x525006, x525007, x525008, x525009, x525010, x525011, x525012 => if x6 < (x524004.length : Int) then (if 0 ≤ x6 then (if x6 < (x525012.length : Int) then (if (rd x525012 x6) ≥ x5 then (some (rd x524004 x6)) else (bourneref1_rank.l0 k (wrap64 (x5 - (rd x525012 x6))) (wrap64 (x6 + 1)) x524000 x524001 x524002 x524003 x524004 x524005 x525000 x525001 x525002 x525003 x525004 x525005 x525006 x525007 x525008 x525009 x525010 x525011 x525012)) else (none)) else (none)) else (some x525003)
def bourneref1_rank.f (k : Nat) (a0_0 : Int) (a0_1 : Int) (a0_2 : Int) (a0_3 : Int) (l0_4 : List Int) (a0_5 : Int) (a1_0 : Int) (a1_1 : Int) (a1_2 : Int) (a1_3 : Int) (a1_4 : Int) (a1_5 : Int) (a1_6 : Int) (a1_7 : Int) (a1_8 : Int) (a1_9 : Int) (a1_10 : Int) (a1_11 : Int) (l1_12 : List Int) : Option (Int) := bourneref1_rank.l0 k (mx (wrap64 (Int.tdiv (wrap64 ((wrap64 (a0_5 * a1_0)) + 999)) 1000)) 1) 0 a0_0 a0_1 a0_2 a0_3 l0_4 a0_5 a1_0 a1_1 a1_2 a1_3 a1_4 a1_5 a1_6 a1_7 a1_8 a1_9 a1_10 a1_11 l1_12
set_option maxHeartbeats 8000000 in
set_option maxRecDepth 100000 in
theorem bourneref1_rank.calls (k : Nat) (a0_0 : Int) (a0_1 : Int) (a0_2 : Int) (a0_3 : Int) (A0_4 : Option Addr) (c0_4 : Nat) (l0_4 : List Int) (a0_5 : Int) (a1_0 : Int) (a1_1 : Int) (a1_2 : Int) (a1_3 : Int) (a1_4 : Int) (a1_5 : Int) (a1_6 : Int) (a1_7 : Int) (a1_8 : Int) (a1_9 : Int) (a1_10 : Int) (a1_11 : Int) (A1_12 : Option Addr) (c1_12 : Nat) (l1_12 : List Int) (r : Int) (w : World) (hr0_4 : Kd.C (Kd.int .i64) w A0_4 l0_4.length l0_4) (hc0_4 : l0_4.length ≤ c0_4) (hr1_12 : Kd.C (Kd.int .i64) w A1_12 l1_12.length l1_12) (hc1_12 : l1_12.length ≤ c1_12) (h : bourneref1_rank.f k a0_0 a0_1 a0_2 a0_3 l0_4 a0_5 a1_0 a1_1 a1_2 a1_3 a1_4 a1_5 a1_6 a1_7 a1_8 a1_9 a1_10 a1_11 l1_12 = some r) :
    Calls Try.prog 42 #[.agg #[.int .i64 a0_0, .int .i64 a0_1, .int .i64 a0_2, .int .i64 a0_3, .slice A0_4 l0_4.length c0_4, .int .i64 a0_5], .agg #[.int .i64 a1_0, .int .i64 a1_1, .int .i64 a1_2, .int .i64 a1_3, .int .i64 a1_4, .int .i64 a1_5, .int .i64 a1_6, .int .i64 a1_7, .int .i64 a1_8, .int .i64 a1_9, .int .i64 a1_10, .int .i64 a1_11, .slice A1_12 l1_12.length c1_12]] w fun e w' => e = .returned (.int .i64 r) ∧ Below w.heap.size w w' := by
  have hu24 := Try.underlying24
  have hu28 := Try.underlying28
  have HR0_4 := Aside0.mk hr0_4
  have HC0_4 := Aside0.mk hc0_4
  clear hr0_4 hc0_4
  have HR1_12 := Aside0.mk hr1_12
  have HC1_12 := Aside0.mk hc1_12
  clear hr1_12 hc1_12
  have HB := Aside0.mk (Below.refl w.heap.size w)
  have H : (bourneref1_rank.l0 k (mx (wrap64 (Int.tdiv (wrap64 ((wrap64 (a0_5 * a1_0)) + 999)) 1000)) 1) 0 a0_0 a0_1 a0_2 a0_3 l0_4 a0_5 a1_0 a1_1 a1_2 a1_3 a1_4 a1_5 a1_6 a1_7 a1_8 a1_9 a1_10 a1_11 l1_12) = some r := h
  clear h
  obtain ⟨ji3, hji3⟩ : ∃ j_ : Int, (mx (wrap64 (Int.tdiv (wrap64 ((wrap64 (a0_5 * a1_0)) + 999)) 1000)) 1) = j_ := ⟨_, rfl⟩
  replace H : (bourneref1_rank.l0 k ji3 0 a0_0 a0_1 a0_2 a0_3 l0_4 a0_5 a1_0 a1_1 a1_2 a1_3 a1_4 a1_5 a1_6 a1_7 a1_8 a1_9 a1_10 a1_11 l1_12) = some r := by first | (rw [hji3] at H; exact H) | (simp only [hji3] at H ⊢; exact H)
  (try (have hji3l : 1 ≤ ji3 := by (rw [← hji3]; unfold mx; (repeat' split) <;> omega)))
  (try (have hji3m : 0 ≤ ji3 := by omega))
  have hji3_ : (if (wrap64 (Int.tdiv (wrap64 ((wrap64 (a0_5 * a1_0)) + 999)) 1000)) < 1 then 1 else (wrap64 (Int.tdiv (wrap64 ((wrap64 (a0_5 * a1_0)) + 999)) 1000))) = ji3 := hji3
  have H' := Aside0.mk H
  clear H
  go_enter Try.func42, Try.ntmps42
  go_wp2_with (first | ((with_reducible refine gate_dst (N := 2) rfl ?_); refine box_event ?hg (N := 2) ?hd (cs := #[.int .i64 a0_0, .int .i64 a0_1, .int .i64 a0_2, .int .i64 a0_3, .slice A0_4 l0_4.length c0_4, .int .i64 a0_5]) (t := 24) ?hr ?_; (case hd => rfl); (case hg => rfl); (case hr => first | (go_simp; done) | (go_simp; rfl)); intro gb523 hg w4 hbox hb; have n0_ := Aside0.mk (below_step (by repeat (first | (with_reducible first | exact HB.out | apply below_alloc | apply pw_below_drewN | apply below_drew1) | exact HB.out)) hb); have n1_ := Aside0.mk (hbox); have n2_ := Aside0.mk ((by rw [hg]; exact (below_size (by repeat (first | (with_reducible first | exact HB.out | apply below_alloc | apply pw_below_drewN | apply below_drew1) | exact HB.out))) : w.heap.size ≤ gb523)); have n3_ := Aside0.mk ((by rw [hg]; exact (below_size (by repeat (first | (with_reducible first | exact HB.out | apply below_alloc | apply pw_below_drewN | apply below_drew1) | exact HB.out))) : w.heap.size ≤ gb523)); clear HB; have HB := n0_; have BK523 := n1_; have GW523 := n2_; have GE523 := n3_; clear n0_ n1_ n2_ n3_; clear hb hbox hg) | ((with_reducible refine gate_dst (N := 3) rfl ?_); refine box_event ?hg (N := 3) ?hd (cs := #[.int .i64 a1_0, .int .i64 a1_1, .int .i64 a1_2, .int .i64 a1_3, .int .i64 a1_4, .int .i64 a1_5, .int .i64 a1_6, .int .i64 a1_7, .int .i64 a1_8, .int .i64 a1_9, .int .i64 a1_10, .int .i64 a1_11, .slice A1_12 l1_12.length c1_12]) (t := 28) ?hr ?_; (case hd => rfl); (case hg => rfl); (case hr => first | (go_simp; done) | (go_simp; rfl)); intro gb524 hg w5 hbox hb; have n0_ := Aside0.mk (blk_below (g := gb523) (o := .cells #[.int .i64 a0_0, .int .i64 a0_1, .int .i64 a0_2, .int .i64 a0_3, .slice A0_4 l0_4.length c0_4, .int .i64 a0_5] 24 (0, 0)) (by (with_reducible repeat (first | refine blk_drewN ?_ _ | refine blk_drew ?_ | refine blk_alloc ?_ _)); exact BK523.out) hb); have n1_ := Aside0.mk (below_step (by repeat (first | (with_reducible first | exact HB.out | apply below_alloc | apply pw_below_drewN | apply below_drew1 | refine below_set ?_ GE523.out) | exact HB.out)) hb); have n2_ := Aside0.mk (hbox); have n3_ := Aside0.mk ((by rw [hg]; exact (below_size (by repeat (first | (with_reducible first | exact HB.out | apply below_alloc | apply pw_below_drewN | apply below_drew1 | refine below_set ?_ GE523.out) | exact HB.out))) : w.heap.size ≤ gb524)); have n4_ := Aside0.mk ((by rw [hg]; exact (below_size (by repeat (first | (with_reducible first | exact HB.out | apply below_alloc | apply pw_below_drewN | apply below_drew1 | refine below_set ?_ GE523.out) | exact HB.out))) : w.heap.size ≤ gb524)); have n5_ := Aside0.mk ((by rw [hg]; exact Nat.ne_of_lt (blk_lt (g := gb523) (o := .cells #[.int .i64 a0_0, .int .i64 a0_1, .int .i64 a0_2, .int .i64 a0_3, .slice A0_4 l0_4.length c0_4, .int .i64 a0_5] 24 (0, 0)) (by (with_reducible repeat (first | refine blk_drewN ?_ _ | refine blk_drew ?_ | refine blk_alloc ?_ _)); exact BK523.out)) : gb523 ≠ gb524)); have n6_ := Aside0.mk ((by rw [hg]; exact Nat.ne_of_gt (blk_lt (g := gb523) (o := .cells #[.int .i64 a0_0, .int .i64 a0_1, .int .i64 a0_2, .int .i64 a0_3, .slice A0_4 l0_4.length c0_4, .int .i64 a0_5] 24 (0, 0)) (by (with_reducible repeat (first | refine blk_drewN ?_ _ | refine blk_drew ?_ | refine blk_alloc ?_ _)); exact BK523.out)) : gb524 ≠ gb523)); clear BK523; clear HB; have BK523 := n0_; have HB := n1_; have BK524 := n2_; have GW524 := n3_; have GE524 := n4_; have NB523_524 := n5_; have NB524_523 := n6_; clear n0_ n1_ n2_ n3_ n4_ n5_ n6_; clear hb hbox hg; have hnb6 := NB523_524.out; have hnc6 := NB524_523.out; have hcz7_0 : w5.cell? ⟨gb523, 0, none⟩ = some (.int .i64 a0_0) := (blk_cell BK523.out 0).trans rfl; have hcz7_1 : w5.cell? ⟨gb523, 1, none⟩ = some (.int .i64 a0_1) := (blk_cell BK523.out 1).trans rfl; have hcz7_2 : w5.cell? ⟨gb523, 2, none⟩ = some (.int .i64 a0_2) := (blk_cell BK523.out 2).trans rfl; have hcz7_3 : w5.cell? ⟨gb523, 3, none⟩ = some (.int .i64 a0_3) := (blk_cell BK523.out 3).trans rfl; have hcz7_4 : w5.cell? ⟨gb523, 4, none⟩ = some (.slice A0_4 l0_4.length c0_4) := (blk_cell BK523.out 4).trans rfl; have hcz7_5 : w5.cell? ⟨gb523, 5, none⟩ = some (.int .i64 a0_5) := (blk_cell BK523.out 5).trans rfl; have hfz7_0 := blk_frozen BK523.out 0; have hfz7_1 := blk_frozen BK523.out 1; have hfz7_2 := blk_frozen BK523.out 2; have hfz7_3 := blk_frozen BK523.out 3; have hfz7_4 := blk_frozen BK523.out 4; have hfz7_5 := blk_frozen BK523.out 5; have hcz8_0 : w5.cell? ⟨gb524, 0, none⟩ = some (.int .i64 a1_0) := (blk_cell BK524.out 0).trans rfl; have hcz8_1 : w5.cell? ⟨gb524, 1, none⟩ = some (.int .i64 a1_1) := (blk_cell BK524.out 1).trans rfl; have hcz8_2 : w5.cell? ⟨gb524, 2, none⟩ = some (.int .i64 a1_2) := (blk_cell BK524.out 2).trans rfl; have hcz8_3 : w5.cell? ⟨gb524, 3, none⟩ = some (.int .i64 a1_3) := (blk_cell BK524.out 3).trans rfl; have hcz8_4 : w5.cell? ⟨gb524, 4, none⟩ = some (.int .i64 a1_4) := (blk_cell BK524.out 4).trans rfl; have hcz8_5 : w5.cell? ⟨gb524, 5, none⟩ = some (.int .i64 a1_5) := (blk_cell BK524.out 5).trans rfl; have hcz8_6 : w5.cell? ⟨gb524, 6, none⟩ = some (.int .i64 a1_6) := (blk_cell BK524.out 6).trans rfl; have hcz8_7 : w5.cell? ⟨gb524, 7, none⟩ = some (.int .i64 a1_7) := (blk_cell BK524.out 7).trans rfl; have hcz8_8 : w5.cell? ⟨gb524, 8, none⟩ = some (.int .i64 a1_8) := (blk_cell BK524.out 8).trans rfl; have hcz8_9 : w5.cell? ⟨gb524, 9, none⟩ = some (.int .i64 a1_9) := (blk_cell BK524.out 9).trans rfl; have hcz8_10 : w5.cell? ⟨gb524, 10, none⟩ = some (.int .i64 a1_10) := (blk_cell BK524.out 10).trans rfl; have hcz8_11 : w5.cell? ⟨gb524, 11, none⟩ = some (.int .i64 a1_11) := (blk_cell BK524.out 11).trans rfl; have hcz8_12 : w5.cell? ⟨gb524, 12, none⟩ = some (.slice A1_12 l1_12.length c1_12) := (blk_cell BK524.out 12).trans rfl; have hfz8_0 := blk_frozen BK524.out 0; have hfz8_1 := blk_frozen BK524.out 1; have hfz8_2 := blk_frozen BK524.out 2; have hfz8_3 := blk_frozen BK524.out 3; have hfz8_4 := blk_frozen BK524.out 4; have hfz8_5 := blk_frozen BK524.out 5; have hfz8_6 := blk_frozen BK524.out 6; have hfz8_7 := blk_frozen BK524.out 7; have hfz8_8 := blk_frozen BK524.out 8; have hfz8_9 := blk_frozen BK524.out 9; have hfz8_10 := blk_frozen BK524.out 10; have hfz8_11 := blk_frozen BK524.out 11; have hfz8_12 := blk_frozen BK524.out 12))
  go_loopg [5, 6] k (fun kq v5 v6 w' => ∃ (x5_1 : Int) (x6_1 : Int), v5 = .int .i64 x5_1 ∧ v6 = .int .i64 x6_1 ∧ Aside0 (bourneref1_rank.l0 kq x5_1 x6_1 a0_0 a0_1 a0_2 a0_3 l0_4 a0_5 a1_0 a1_1 a1_2 a1_3 a1_4 a1_5 a1_6 a1_7 a1_8 a1_9 a1_10 a1_11 l1_12 = some r) ∧ Aside0 (kq ≤ k) ∧ Aside0 (w'.heap[gb523]? = some (.cells #[.int .i64 a0_0, .int .i64 a0_1, .int .i64 a0_2, .int .i64 a0_3, (.slice A0_4 l0_4.length c0_4), .int .i64 a0_5] 24 (0, 0))) ∧ Aside0 (w'.heap[gb524]? = some (.cells #[.int .i64 a1_0, .int .i64 a1_1, .int .i64 a1_2, .int .i64 a1_3, .int .i64 a1_4, .int .i64 a1_5, .int .i64 a1_6, .int .i64 a1_7, .int .i64 a1_8, .int .i64 a1_9, .int .i64 a1_10, .int .i64 a1_11, (.slice A1_12 l1_12.length c1_12)] 28 (0, 0))) ∧ Aside0 (Below w.heap.size w w'))
  case atStart => exact ⟨(ji3), (0), (by first | rfl | (simp; done) | (simp only [← hji3] <;> (first | rfl | simp)) | (simp [*]; done)), (by first | rfl | (simp; done) | (simp [*]; done)), H', ⟨Nat.le_refl _⟩, ⟨by (with_reducible repeat (first | refine blk_drewN ?_ _ | refine blk_drew ?_ | refine blk_alloc ?_ _)); exact BK523.out⟩, ⟨by (with_reducible repeat (first | refine blk_drewN ?_ _ | refine blk_drew ?_ | refine blk_alloc ?_ _)); exact BK524.out⟩, ⟨by repeat (first | (with_reducible first | exact HB.out | apply below_alloc | apply pw_below_drewN | apply below_drew1 | refine below_set ?_ GE523.out | refine below_set ?_ GE524.out) | exact HB.out)⟩⟩
  case round =>
    clear H'
    try clear c1
    try clear p2
    try clear c4
    try clear c6
    try clear p6
    try clear hcz7_0
    try clear hcz7_1
    try clear hcz7_2
    try clear hcz7_3
    try clear hcz7_4
    try clear hcz7_5
    try clear hcz8_0
    try clear hcz8_1
    try clear hcz8_10
    try clear hcz8_11
    try clear hcz8_12
    try clear hcz8_2
    try clear hcz8_3
    try clear hcz8_4
    try clear hcz8_5
    try clear hcz8_6
    try clear hcz8_7
    try clear hcz8_8
    try clear hcz8_9
    try clear hfz7_0
    try clear hfz7_1
    try clear hfz7_2
    try clear hfz7_3
    try clear hfz7_4
    try clear hfz7_5
    try clear hfz8_0
    try clear hfz8_1
    try clear hfz8_10
    try clear hfz8_11
    try clear hfz8_12
    try clear hfz8_2
    try clear hfz8_3
    try clear hfz8_4
    try clear hfz8_5
    try clear hfz8_6
    try clear hfz8_7
    try clear hfz8_8
    try clear hfz8_9
    obtain ⟨x5_1, x6_1, rfl, rfl, HA, HK1, BK523, BK524, HB⟩ := hrel
    cases gk with
    | zero => exact absurd HA.out (by simp [bourneref1_rank.l0])
    | succ k1 =>
      have H := HA.out
      clear HA
      simp only [bourneref1_rank.l0] at H
      by_cases c9 : x6_1 < (l0_4.length : Int)
      · rw [if_pos c9] at H
        have c9b0 : decide (x6_1 < (l0_4.length : Int)) = true := decide_eq_true c9
        clear c9
        by_cases c10 : 0 ≤ x6_1
        · rw [if_pos c10] at H
          have c10b0 : decide (0 ≤ x6_1) = true := decide_eq_true c10
          clear c10
          by_cases c11 : x6_1 < (l1_12.length : Int)
          · rw [if_pos c11] at H
            have c11b0 : decide (x6_1 < (l1_12.length : Int)) = true := decide_eq_true c11
            clear c11
            by_cases c12 : (rd l1_12 x6_1) ≥ x5_1
            · rw [if_pos c12] at H
              have c12b0 : decide (x5_1 ≤ (rd l1_12 x6_1)) = true := decide_eq_true c12
              clear c12
              obtain rfl := Option.some.inj H
              have hnb13 := NB523_524.out
              have hnc13 := NB524_523.out
              have hcz14_0 : wr.cell? ⟨gb523, 0, none⟩ = some (.int .i64 a0_0) := (blk_cell BK523.out 0).trans rfl
              have hcz14_1 : wr.cell? ⟨gb523, 1, none⟩ = some (.int .i64 a0_1) := (blk_cell BK523.out 1).trans rfl
              have hcz14_2 : wr.cell? ⟨gb523, 2, none⟩ = some (.int .i64 a0_2) := (blk_cell BK523.out 2).trans rfl
              have hcz14_3 : wr.cell? ⟨gb523, 3, none⟩ = some (.int .i64 a0_3) := (blk_cell BK523.out 3).trans rfl
              have hcz14_4 : wr.cell? ⟨gb523, 4, none⟩ = some (.slice A0_4 l0_4.length c0_4) := (blk_cell BK523.out 4).trans rfl
              have hcz14_5 : wr.cell? ⟨gb523, 5, none⟩ = some (.int .i64 a0_5) := (blk_cell BK523.out 5).trans rfl
              have hfz14_0 := blk_frozen BK523.out 0
              have hfz14_1 := blk_frozen BK523.out 1
              have hfz14_2 := blk_frozen BK523.out 2
              have hfz14_3 := blk_frozen BK523.out 3
              have hfz14_4 := blk_frozen BK523.out 4
              have hfz14_5 := blk_frozen BK523.out 5
              have hcz15_0 : wr.cell? ⟨gb524, 0, none⟩ = some (.int .i64 a1_0) := (blk_cell BK524.out 0).trans rfl
              have hcz15_1 : wr.cell? ⟨gb524, 1, none⟩ = some (.int .i64 a1_1) := (blk_cell BK524.out 1).trans rfl
              have hcz15_2 : wr.cell? ⟨gb524, 2, none⟩ = some (.int .i64 a1_2) := (blk_cell BK524.out 2).trans rfl
              have hcz15_3 : wr.cell? ⟨gb524, 3, none⟩ = some (.int .i64 a1_3) := (blk_cell BK524.out 3).trans rfl
              have hcz15_4 : wr.cell? ⟨gb524, 4, none⟩ = some (.int .i64 a1_4) := (blk_cell BK524.out 4).trans rfl
              have hcz15_5 : wr.cell? ⟨gb524, 5, none⟩ = some (.int .i64 a1_5) := (blk_cell BK524.out 5).trans rfl
              have hcz15_6 : wr.cell? ⟨gb524, 6, none⟩ = some (.int .i64 a1_6) := (blk_cell BK524.out 6).trans rfl
              have hcz15_7 : wr.cell? ⟨gb524, 7, none⟩ = some (.int .i64 a1_7) := (blk_cell BK524.out 7).trans rfl
              have hcz15_8 : wr.cell? ⟨gb524, 8, none⟩ = some (.int .i64 a1_8) := (blk_cell BK524.out 8).trans rfl
              have hcz15_9 : wr.cell? ⟨gb524, 9, none⟩ = some (.int .i64 a1_9) := (blk_cell BK524.out 9).trans rfl
              have hcz15_10 : wr.cell? ⟨gb524, 10, none⟩ = some (.int .i64 a1_10) := (blk_cell BK524.out 10).trans rfl
              have hcz15_11 : wr.cell? ⟨gb524, 11, none⟩ = some (.int .i64 a1_11) := (blk_cell BK524.out 11).trans rfl
              have hcz15_12 : wr.cell? ⟨gb524, 12, none⟩ = some (.slice A1_12 l1_12.length c1_12) := (blk_cell BK524.out 12).trans rfl
              have hfz15_0 := blk_frozen BK524.out 0
              have hfz15_1 := blk_frozen BK524.out 1
              have hfz15_2 := blk_frozen BK524.out 2
              have hfz15_3 := blk_frozen BK524.out 3
              have hfz15_4 := blk_frozen BK524.out 4
              have hfz15_5 := blk_frozen BK524.out 5
              have hfz15_6 := blk_frozen BK524.out 6
              have hfz15_7 := blk_frozen BK524.out 7
              have hfz15_8 := blk_frozen BK524.out 8
              have hfz15_9 := blk_frozen BK524.out 9
              have hfz15_10 := blk_frozen BK524.out 10
              have hfz15_11 := blk_frozen BK524.out 11
              have hfz15_12 := blk_frozen BK524.out 12
              have p525 : 0 ≤ (x6_1 : Int) := of_decide_eq_true (by first | (with_reducible assumption) | assumption)
              have q525 : x6_1 < (l1_12.length : Int) := of_decide_eq_true (by first | (with_reducible assumption) | assumption)
              obtain ⟨ad525, e525, hx525_0⟩ := Kd.at_int HR1_12.out x6_1 p525 q525
              cases e525
              replace hx525_0 := (HB.out.cell (World.block_lt_of_cell? w _ hx525_0)).trans hx525_0
              replace p525 := eq_true p525
              replace q525 := eq_true q525
              have p526 : 0 ≤ (x6_1 : Int) := of_decide_eq_true (by first | (with_reducible assumption) | assumption)
              have q526 : x6_1 < (l0_4.length : Int) := of_decide_eq_true (by first | (with_reducible assumption) | assumption)
              obtain ⟨ad526, e526, hx526_0⟩ := Kd.at_int HR0_4.out x6_1 p526 q526
              cases e526
              replace hx526_0 := (HB.out.cell (World.block_lt_of_cell? w _ hx526_0)).trans hx526_0
              replace p526 := eq_true p526
              replace q526 := eq_true q526
              go_wp2
              go_ret
              exact ⟨by first | rfl | (simp [errW_none, errW_some] <;> rfl) | (simp only [← hji3]; first | rfl | (simp [errW_none, errW_some] <;> rfl)) | (simp [*, errW_none, errW_some] <;> rfl), by repeat (first | (with_reducible first | exact HB.out | apply below_alloc | apply pw_below_drewN | apply below_drew1 | refine below_set ?_ GE523.out | refine below_set ?_ GE524.out) | exact HB.out)⟩
            · rw [if_neg c12] at H
              have c12b0 : decide (x5_1 ≤ (rd l1_12 x6_1)) = false := decide_eq_false c12
              clear c12
              have H' := Aside0.mk H
              clear H
              have hnb16 := NB523_524.out
              have hnc16 := NB524_523.out
              have hcz17_0 : wr.cell? ⟨gb523, 0, none⟩ = some (.int .i64 a0_0) := (blk_cell BK523.out 0).trans rfl
              have hcz17_1 : wr.cell? ⟨gb523, 1, none⟩ = some (.int .i64 a0_1) := (blk_cell BK523.out 1).trans rfl
              have hcz17_2 : wr.cell? ⟨gb523, 2, none⟩ = some (.int .i64 a0_2) := (blk_cell BK523.out 2).trans rfl
              have hcz17_3 : wr.cell? ⟨gb523, 3, none⟩ = some (.int .i64 a0_3) := (blk_cell BK523.out 3).trans rfl
              have hcz17_4 : wr.cell? ⟨gb523, 4, none⟩ = some (.slice A0_4 l0_4.length c0_4) := (blk_cell BK523.out 4).trans rfl
              have hcz17_5 : wr.cell? ⟨gb523, 5, none⟩ = some (.int .i64 a0_5) := (blk_cell BK523.out 5).trans rfl
              have hfz17_0 := blk_frozen BK523.out 0
              have hfz17_1 := blk_frozen BK523.out 1
              have hfz17_2 := blk_frozen BK523.out 2
              have hfz17_3 := blk_frozen BK523.out 3
              have hfz17_4 := blk_frozen BK523.out 4
              have hfz17_5 := blk_frozen BK523.out 5
              have hcz18_0 : wr.cell? ⟨gb524, 0, none⟩ = some (.int .i64 a1_0) := (blk_cell BK524.out 0).trans rfl
              have hcz18_1 : wr.cell? ⟨gb524, 1, none⟩ = some (.int .i64 a1_1) := (blk_cell BK524.out 1).trans rfl
              have hcz18_2 : wr.cell? ⟨gb524, 2, none⟩ = some (.int .i64 a1_2) := (blk_cell BK524.out 2).trans rfl
              have hcz18_3 : wr.cell? ⟨gb524, 3, none⟩ = some (.int .i64 a1_3) := (blk_cell BK524.out 3).trans rfl
              have hcz18_4 : wr.cell? ⟨gb524, 4, none⟩ = some (.int .i64 a1_4) := (blk_cell BK524.out 4).trans rfl
              have hcz18_5 : wr.cell? ⟨gb524, 5, none⟩ = some (.int .i64 a1_5) := (blk_cell BK524.out 5).trans rfl
              have hcz18_6 : wr.cell? ⟨gb524, 6, none⟩ = some (.int .i64 a1_6) := (blk_cell BK524.out 6).trans rfl
              have hcz18_7 : wr.cell? ⟨gb524, 7, none⟩ = some (.int .i64 a1_7) := (blk_cell BK524.out 7).trans rfl
              have hcz18_8 : wr.cell? ⟨gb524, 8, none⟩ = some (.int .i64 a1_8) := (blk_cell BK524.out 8).trans rfl
              have hcz18_9 : wr.cell? ⟨gb524, 9, none⟩ = some (.int .i64 a1_9) := (blk_cell BK524.out 9).trans rfl
              have hcz18_10 : wr.cell? ⟨gb524, 10, none⟩ = some (.int .i64 a1_10) := (blk_cell BK524.out 10).trans rfl
              have hcz18_11 : wr.cell? ⟨gb524, 11, none⟩ = some (.int .i64 a1_11) := (blk_cell BK524.out 11).trans rfl
              have hcz18_12 : wr.cell? ⟨gb524, 12, none⟩ = some (.slice A1_12 l1_12.length c1_12) := (blk_cell BK524.out 12).trans rfl
              have hfz18_0 := blk_frozen BK524.out 0
              have hfz18_1 := blk_frozen BK524.out 1
              have hfz18_2 := blk_frozen BK524.out 2
              have hfz18_3 := blk_frozen BK524.out 3
              have hfz18_4 := blk_frozen BK524.out 4
              have hfz18_5 := blk_frozen BK524.out 5
              have hfz18_6 := blk_frozen BK524.out 6
              have hfz18_7 := blk_frozen BK524.out 7
              have hfz18_8 := blk_frozen BK524.out 8
              have hfz18_9 := blk_frozen BK524.out 9
              have hfz18_10 := blk_frozen BK524.out 10
              have hfz18_11 := blk_frozen BK524.out 11
              have hfz18_12 := blk_frozen BK524.out 12
              have p525 : 0 ≤ (x6_1 : Int) := of_decide_eq_true (by first | (with_reducible assumption) | assumption)
              have q525 : x6_1 < (l1_12.length : Int) := of_decide_eq_true (by first | (with_reducible assumption) | assumption)
              obtain ⟨ad525, e525, hx525_0⟩ := Kd.at_int HR1_12.out x6_1 p525 q525
              cases e525
              replace hx525_0 := (HB.out.cell (World.block_lt_of_cell? w _ hx525_0)).trans hx525_0
              replace p525 := eq_true p525
              replace q525 := eq_true q525
              have p527 : 0 ≤ (x6_1 : Int) := of_decide_eq_true (by first | (with_reducible assumption) | assumption)
              have q527 : x6_1 < (l1_12.length : Int) := of_decide_eq_true (by first | (with_reducible assumption) | assumption)
              obtain ⟨ad527, e527, hx527_0⟩ := Kd.at_int HR1_12.out x6_1 p527 q527
              obtain rfl : ad525 = ad527 := (by injection e527)
              replace hx527_0 := (HB.out.cell (World.block_lt_of_cell? w _ hx527_0)).trans hx527_0
              replace p527 := eq_true p527
              replace q527 := eq_true q527
              go_wp2
              go_roundg k1
              case measure => have := HK1.out; omega
              case rel => exact ⟨(wrap64 (x5_1 - (rd l1_12 x6_1))), (wrap64 (x6_1 + 1)), (by first | rfl | (simp; done) | (simp [*]; done)), (by first | rfl | (simp; done) | (simp [*]; done)), H', ⟨by have := HK1.out; omega⟩, ⟨by (with_reducible repeat (first | refine blk_drewN ?_ _ | refine blk_drew ?_ | refine blk_alloc ?_ _)); exact BK523.out⟩, ⟨by (with_reducible repeat (first | refine blk_drewN ?_ _ | refine blk_drew ?_ | refine blk_alloc ?_ _)); exact BK524.out⟩, ⟨by repeat (first | (with_reducible first | exact HB.out | apply below_alloc | apply pw_below_drewN | apply below_drew1 | refine below_set ?_ GE523.out | refine below_set ?_ GE524.out) | exact HB.out)⟩⟩
          · rw [if_neg c11] at H
            exact absurd H (by simp)
        · rw [if_neg c10] at H
          exact absurd H (by simp)
      · rw [if_neg c9] at H
        have c9b0 : decide (x6_1 < (l0_4.length : Int)) = false := decide_eq_false c9
        clear c9
        obtain rfl := Option.some.inj H
        have hnb19 := NB523_524.out
        have hnc19 := NB524_523.out
        have hcz20_0 : wr.cell? ⟨gb523, 0, none⟩ = some (.int .i64 a0_0) := (blk_cell BK523.out 0).trans rfl
        have hcz20_1 : wr.cell? ⟨gb523, 1, none⟩ = some (.int .i64 a0_1) := (blk_cell BK523.out 1).trans rfl
        have hcz20_2 : wr.cell? ⟨gb523, 2, none⟩ = some (.int .i64 a0_2) := (blk_cell BK523.out 2).trans rfl
        have hcz20_3 : wr.cell? ⟨gb523, 3, none⟩ = some (.int .i64 a0_3) := (blk_cell BK523.out 3).trans rfl
        have hcz20_4 : wr.cell? ⟨gb523, 4, none⟩ = some (.slice A0_4 l0_4.length c0_4) := (blk_cell BK523.out 4).trans rfl
        have hcz20_5 : wr.cell? ⟨gb523, 5, none⟩ = some (.int .i64 a0_5) := (blk_cell BK523.out 5).trans rfl
        have hfz20_0 := blk_frozen BK523.out 0
        have hfz20_1 := blk_frozen BK523.out 1
        have hfz20_2 := blk_frozen BK523.out 2
        have hfz20_3 := blk_frozen BK523.out 3
        have hfz20_4 := blk_frozen BK523.out 4
        have hfz20_5 := blk_frozen BK523.out 5
        have hcz21_0 : wr.cell? ⟨gb524, 0, none⟩ = some (.int .i64 a1_0) := (blk_cell BK524.out 0).trans rfl
        have hcz21_1 : wr.cell? ⟨gb524, 1, none⟩ = some (.int .i64 a1_1) := (blk_cell BK524.out 1).trans rfl
        have hcz21_2 : wr.cell? ⟨gb524, 2, none⟩ = some (.int .i64 a1_2) := (blk_cell BK524.out 2).trans rfl
        have hcz21_3 : wr.cell? ⟨gb524, 3, none⟩ = some (.int .i64 a1_3) := (blk_cell BK524.out 3).trans rfl
        have hcz21_4 : wr.cell? ⟨gb524, 4, none⟩ = some (.int .i64 a1_4) := (blk_cell BK524.out 4).trans rfl
        have hcz21_5 : wr.cell? ⟨gb524, 5, none⟩ = some (.int .i64 a1_5) := (blk_cell BK524.out 5).trans rfl
        have hcz21_6 : wr.cell? ⟨gb524, 6, none⟩ = some (.int .i64 a1_6) := (blk_cell BK524.out 6).trans rfl
        have hcz21_7 : wr.cell? ⟨gb524, 7, none⟩ = some (.int .i64 a1_7) := (blk_cell BK524.out 7).trans rfl
        have hcz21_8 : wr.cell? ⟨gb524, 8, none⟩ = some (.int .i64 a1_8) := (blk_cell BK524.out 8).trans rfl
        have hcz21_9 : wr.cell? ⟨gb524, 9, none⟩ = some (.int .i64 a1_9) := (blk_cell BK524.out 9).trans rfl
        have hcz21_10 : wr.cell? ⟨gb524, 10, none⟩ = some (.int .i64 a1_10) := (blk_cell BK524.out 10).trans rfl
        have hcz21_11 : wr.cell? ⟨gb524, 11, none⟩ = some (.int .i64 a1_11) := (blk_cell BK524.out 11).trans rfl
        have hcz21_12 : wr.cell? ⟨gb524, 12, none⟩ = some (.slice A1_12 l1_12.length c1_12) := (blk_cell BK524.out 12).trans rfl
        have hfz21_0 := blk_frozen BK524.out 0
        have hfz21_1 := blk_frozen BK524.out 1
        have hfz21_2 := blk_frozen BK524.out 2
        have hfz21_3 := blk_frozen BK524.out 3
        have hfz21_4 := blk_frozen BK524.out 4
        have hfz21_5 := blk_frozen BK524.out 5
        have hfz21_6 := blk_frozen BK524.out 6
        have hfz21_7 := blk_frozen BK524.out 7
        have hfz21_8 := blk_frozen BK524.out 8
        have hfz21_9 := blk_frozen BK524.out 9
        have hfz21_10 := blk_frozen BK524.out 10
        have hfz21_11 := blk_frozen BK524.out 11
        have hfz21_12 := blk_frozen BK524.out 12
        go_wp2
        go_ret
        exact ⟨by first | rfl | (simp [errW_none, errW_some] <;> rfl) | (simp only [← hji3]; first | rfl | (simp [errW_none, errW_some] <;> rfl)) | (simp [*, errW_none, errW_some] <;> rfl), by repeat (first | (with_reducible first | exact HB.out | apply below_alloc | apply pw_below_drewN | apply below_drew1 | refine below_set ?_ GE523.out | refine below_set ?_ GE524.out) | exact HB.out)⟩

end Go.Proofs.Ytggaefklcpbfnaa.Pa
