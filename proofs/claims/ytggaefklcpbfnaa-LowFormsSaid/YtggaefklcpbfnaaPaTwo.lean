/- Go functions of the given program as plain Lean functions, each with a proof that the machine's call answers so; no statement of the seed is proved here. -/
import Derived.Test.YtggaefklcpbfnaaPa0
namespace Go.Proofs.Ytggaefklcpbfnaa.Pa
open Go.RowKit Go.Proofs.YtggaefklcpbfnaaW.PrintWords Go.Proofs.YtggaefklcpbfnaaW.PrintLast Go.Proofs.YtggaefklcpbfnaaW.PrintMore
attribute [local go_sem] max2_int min2_int max_two min_two max_three min_three max_four min_four   -- for this text's walks alone
set_option linter.unusedVariables false
set_option linter.unusedSimpArgs false

/-! ### bourneref1_Before: function 59 -/
def bourneref1_Before.f (a0_0 : Int) (a0_1 : Int) (a0_2 : Int) (a0_3 : Int) (a1_0 : Int) (a1_1 : Int) (a1_2 : Int) (a1_3 : Int) : Option (Bool) := if a0_1 < a1_1 then (some true) else (if a0_1 = a1_1 then (some (decide (a0_2 < a1_2))) else (some false))
set_option maxHeartbeats 8000000 in
set_option maxRecDepth 100000 in
theorem bourneref1_Before.calls (a0_0 : Int) (a0_1 : Int) (a0_2 : Int) (a0_3 : Int) (a1_0 : Int) (a1_1 : Int) (a1_2 : Int) (a1_3 : Int) (r : Bool) (w : World) (h : bourneref1_Before.f a0_0 a0_1 a0_2 a0_3 a1_0 a1_1 a1_2 a1_3 = some r) :
    Calls Try.prog 59 #[.agg #[.int .i64 a0_0, .int .i64 a0_1, .int .i64 a0_2, .int .i64 a0_3], .agg #[.int .i64 a1_0, .int .i64 a1_1, .int .i64 a1_2, .int .i64 a1_3]] w fun e w' => e = .returned (.bool r) ∧ Below w.heap.size w w' := by
  have hu26 := Try.underlying26
  have HB := Aside0.mk (Below.refl w.heap.size w)
  have H : (if a0_1 < a1_1 then (some true) else (if a0_1 = a1_1 then (some (decide (a0_2 < a1_2))) else (some false))) = some r := h
  clear h
  by_cases c3 : a0_1 < a1_1
  · rw [if_pos c3] at H
    have c3b0 : decide (a0_1 < a1_1) = true := decide_eq_true c3
    clear c3
    obtain rfl := Option.some.inj H
    go_enter Try.func59, Try.ntmps59
    go_wp2_with (first | ((with_reducible refine gate_dst (N := 2) rfl ?_); refine box_event ?hg (N := 2) ?hd (cs := #[.int .i64 a0_0, .int .i64 a0_1, .int .i64 a0_2, .int .i64 a0_3]) (t := 26) ?hr ?_; (case hd => rfl); (case hg => rfl); (case hr => first | (go_simp; done) | (go_simp; rfl)); intro gb424 hg w4 hbox hb; have n0_ := Aside0.mk (below_step (by repeat (first | (with_reducible first | exact HB.out | apply below_alloc | apply pw_below_drewN | apply below_drew1) | exact HB.out)) hb); have n1_ := Aside0.mk (hbox); have n2_ := Aside0.mk ((by rw [hg]; exact (below_size (by repeat (first | (with_reducible first | exact HB.out | apply below_alloc | apply pw_below_drewN | apply below_drew1) | exact HB.out))) : w.heap.size ≤ gb424)); have n3_ := Aside0.mk ((by rw [hg]; exact (below_size (by repeat (first | (with_reducible first | exact HB.out | apply below_alloc | apply pw_below_drewN | apply below_drew1) | exact HB.out))) : w.heap.size ≤ gb424)); clear HB; have HB := n0_; have BK424 := n1_; have GW424 := n2_; have GE424 := n3_; clear n0_ n1_ n2_ n3_; clear hb hbox hg) | ((with_reducible refine gate_dst (N := 3) rfl ?_); refine box_event ?hg (N := 3) ?hd (cs := #[.int .i64 a1_0, .int .i64 a1_1, .int .i64 a1_2, .int .i64 a1_3]) (t := 26) ?hr ?_; (case hd => rfl); (case hg => rfl); (case hr => first | (go_simp; done) | (go_simp; rfl)); intro gb425 hg w5 hbox hb; have n0_ := Aside0.mk (blk_below (g := gb424) (o := .cells #[.int .i64 a0_0, .int .i64 a0_1, .int .i64 a0_2, .int .i64 a0_3] 26 (0, 0)) (by (with_reducible repeat (first | refine blk_drewN ?_ _ | refine blk_drew ?_ | refine blk_alloc ?_ _)); exact BK424.out) hb); have n1_ := Aside0.mk (below_step (by repeat (first | (with_reducible first | exact HB.out | apply below_alloc | apply pw_below_drewN | apply below_drew1 | refine below_set ?_ GE424.out) | exact HB.out)) hb); have n2_ := Aside0.mk (hbox); have n3_ := Aside0.mk ((by rw [hg]; exact (below_size (by repeat (first | (with_reducible first | exact HB.out | apply below_alloc | apply pw_below_drewN | apply below_drew1 | refine below_set ?_ GE424.out) | exact HB.out))) : w.heap.size ≤ gb425)); have n4_ := Aside0.mk ((by rw [hg]; exact (below_size (by repeat (first | (with_reducible first | exact HB.out | apply below_alloc | apply pw_below_drewN | apply below_drew1 | refine below_set ?_ GE424.out) | exact HB.out))) : w.heap.size ≤ gb425)); have n5_ := Aside0.mk ((by rw [hg]; exact Nat.ne_of_lt (blk_lt (g := gb424) (o := .cells #[.int .i64 a0_0, .int .i64 a0_1, .int .i64 a0_2, .int .i64 a0_3] 26 (0, 0)) (by (with_reducible repeat (first | refine blk_drewN ?_ _ | refine blk_drew ?_ | refine blk_alloc ?_ _)); exact BK424.out)) : gb424 ≠ gb425)); have n6_ := Aside0.mk ((by rw [hg]; exact Nat.ne_of_gt (blk_lt (g := gb424) (o := .cells #[.int .i64 a0_0, .int .i64 a0_1, .int .i64 a0_2, .int .i64 a0_3] 26 (0, 0)) (by (with_reducible repeat (first | refine blk_drewN ?_ _ | refine blk_drew ?_ | refine blk_alloc ?_ _)); exact BK424.out)) : gb425 ≠ gb424)); clear BK424; clear HB; have BK424 := n0_; have HB := n1_; have BK425 := n2_; have GW425 := n3_; have GE425 := n4_; have NB424_425 := n5_; have NB425_424 := n6_; clear n0_ n1_ n2_ n3_ n4_ n5_ n6_; clear hb hbox hg; have hnb6 := NB424_425.out; have hnc6 := NB425_424.out; have hcz7_0 : w5.cell? ⟨gb424, 0, none⟩ = some (.int .i64 a0_0) := (blk_cell BK424.out 0).trans rfl; have hcz7_1 : w5.cell? ⟨gb424, 1, none⟩ = some (.int .i64 a0_1) := (blk_cell BK424.out 1).trans rfl; have hcz7_2 : w5.cell? ⟨gb424, 2, none⟩ = some (.int .i64 a0_2) := (blk_cell BK424.out 2).trans rfl; have hcz7_3 : w5.cell? ⟨gb424, 3, none⟩ = some (.int .i64 a0_3) := (blk_cell BK424.out 3).trans rfl; have hfz7_0 := blk_frozen BK424.out 0; have hfz7_1 := blk_frozen BK424.out 1; have hfz7_2 := blk_frozen BK424.out 2; have hfz7_3 := blk_frozen BK424.out 3; have hcz8_0 : w5.cell? ⟨gb425, 0, none⟩ = some (.int .i64 a1_0) := (blk_cell BK425.out 0).trans rfl; have hcz8_1 : w5.cell? ⟨gb425, 1, none⟩ = some (.int .i64 a1_1) := (blk_cell BK425.out 1).trans rfl; have hcz8_2 : w5.cell? ⟨gb425, 2, none⟩ = some (.int .i64 a1_2) := (blk_cell BK425.out 2).trans rfl; have hcz8_3 : w5.cell? ⟨gb425, 3, none⟩ = some (.int .i64 a1_3) := (blk_cell BK425.out 3).trans rfl; have hfz8_0 := blk_frozen BK425.out 0; have hfz8_1 := blk_frozen BK425.out 1; have hfz8_2 := blk_frozen BK425.out 2; have hfz8_3 := blk_frozen BK425.out 3))
    go_ret
    exact ⟨by first | rfl | (simp [errW_none, errW_some] <;> rfl) | (simp [*, errW_none, errW_some] <;> rfl), by repeat (first | (with_reducible first | exact HB.out | apply below_alloc | apply pw_below_drewN | apply below_drew1 | refine below_set ?_ GE424.out | refine below_set ?_ GE425.out) | exact HB.out)⟩
  · rw [if_neg c3] at H
    have c3b0 : decide (a0_1 < a1_1) = false := decide_eq_false c3
    clear c3
    by_cases c9 : a0_1 = a1_1
    · rw [if_pos c9] at H
      have c9b0 : (a0_1 == a1_1) = true := beq_iff_eq.mpr c9
      have c9b1 : (a0_1 != a1_1) = false := bne_eq_false_iff_eq.mpr c9
      clear c9
      obtain rfl := Option.some.inj H
      go_enter Try.func59, Try.ntmps59
      go_wp2_with (first | ((with_reducible refine gate_dst (N := 2) rfl ?_); refine box_event ?hg (N := 2) ?hd (cs := #[.int .i64 a0_0, .int .i64 a0_1, .int .i64 a0_2, .int .i64 a0_3]) (t := 26) ?hr ?_; (case hd => rfl); (case hg => rfl); (case hr => first | (go_simp; done) | (go_simp; rfl)); intro gb424 hg w10 hbox hb; have n0_ := Aside0.mk (below_step (by repeat (first | (with_reducible first | exact HB.out | apply below_alloc | apply pw_below_drewN | apply below_drew1) | exact HB.out)) hb); have n1_ := Aside0.mk (hbox); have n2_ := Aside0.mk ((by rw [hg]; exact (below_size (by repeat (first | (with_reducible first | exact HB.out | apply below_alloc | apply pw_below_drewN | apply below_drew1) | exact HB.out))) : w.heap.size ≤ gb424)); have n3_ := Aside0.mk ((by rw [hg]; exact (below_size (by repeat (first | (with_reducible first | exact HB.out | apply below_alloc | apply pw_below_drewN | apply below_drew1) | exact HB.out))) : w.heap.size ≤ gb424)); clear HB; have HB := n0_; have BK424 := n1_; have GW424 := n2_; have GE424 := n3_; clear n0_ n1_ n2_ n3_; clear hb hbox hg) | ((with_reducible refine gate_dst (N := 3) rfl ?_); refine box_event ?hg (N := 3) ?hd (cs := #[.int .i64 a1_0, .int .i64 a1_1, .int .i64 a1_2, .int .i64 a1_3]) (t := 26) ?hr ?_; (case hd => rfl); (case hg => rfl); (case hr => first | (go_simp; done) | (go_simp; rfl)); intro gb425 hg w11 hbox hb; have n0_ := Aside0.mk (blk_below (g := gb424) (o := .cells #[.int .i64 a0_0, .int .i64 a0_1, .int .i64 a0_2, .int .i64 a0_3] 26 (0, 0)) (by (with_reducible repeat (first | refine blk_drewN ?_ _ | refine blk_drew ?_ | refine blk_alloc ?_ _)); exact BK424.out) hb); have n1_ := Aside0.mk (below_step (by repeat (first | (with_reducible first | exact HB.out | apply below_alloc | apply pw_below_drewN | apply below_drew1 | refine below_set ?_ GE424.out) | exact HB.out)) hb); have n2_ := Aside0.mk (hbox); have n3_ := Aside0.mk ((by rw [hg]; exact (below_size (by repeat (first | (with_reducible first | exact HB.out | apply below_alloc | apply pw_below_drewN | apply below_drew1 | refine below_set ?_ GE424.out) | exact HB.out))) : w.heap.size ≤ gb425)); have n4_ := Aside0.mk ((by rw [hg]; exact (below_size (by repeat (first | (with_reducible first | exact HB.out | apply below_alloc | apply pw_below_drewN | apply below_drew1 | refine below_set ?_ GE424.out) | exact HB.out))) : w.heap.size ≤ gb425)); have n5_ := Aside0.mk ((by rw [hg]; exact Nat.ne_of_lt (blk_lt (g := gb424) (o := .cells #[.int .i64 a0_0, .int .i64 a0_1, .int .i64 a0_2, .int .i64 a0_3] 26 (0, 0)) (by (with_reducible repeat (first | refine blk_drewN ?_ _ | refine blk_drew ?_ | refine blk_alloc ?_ _)); exact BK424.out)) : gb424 ≠ gb425)); have n6_ := Aside0.mk ((by rw [hg]; exact Nat.ne_of_gt (blk_lt (g := gb424) (o := .cells #[.int .i64 a0_0, .int .i64 a0_1, .int .i64 a0_2, .int .i64 a0_3] 26 (0, 0)) (by (with_reducible repeat (first | refine blk_drewN ?_ _ | refine blk_drew ?_ | refine blk_alloc ?_ _)); exact BK424.out)) : gb425 ≠ gb424)); clear BK424; clear HB; have BK424 := n0_; have HB := n1_; have BK425 := n2_; have GW425 := n3_; have GE425 := n4_; have NB424_425 := n5_; have NB425_424 := n6_; clear n0_ n1_ n2_ n3_ n4_ n5_ n6_; clear hb hbox hg; have hnb12 := NB424_425.out; have hnc12 := NB425_424.out; have hcz13_0 : w11.cell? ⟨gb424, 0, none⟩ = some (.int .i64 a0_0) := (blk_cell BK424.out 0).trans rfl; have hcz13_1 : w11.cell? ⟨gb424, 1, none⟩ = some (.int .i64 a0_1) := (blk_cell BK424.out 1).trans rfl; have hcz13_2 : w11.cell? ⟨gb424, 2, none⟩ = some (.int .i64 a0_2) := (blk_cell BK424.out 2).trans rfl; have hcz13_3 : w11.cell? ⟨gb424, 3, none⟩ = some (.int .i64 a0_3) := (blk_cell BK424.out 3).trans rfl; have hfz13_0 := blk_frozen BK424.out 0; have hfz13_1 := blk_frozen BK424.out 1; have hfz13_2 := blk_frozen BK424.out 2; have hfz13_3 := blk_frozen BK424.out 3; have hcz14_0 : w11.cell? ⟨gb425, 0, none⟩ = some (.int .i64 a1_0) := (blk_cell BK425.out 0).trans rfl; have hcz14_1 : w11.cell? ⟨gb425, 1, none⟩ = some (.int .i64 a1_1) := (blk_cell BK425.out 1).trans rfl; have hcz14_2 : w11.cell? ⟨gb425, 2, none⟩ = some (.int .i64 a1_2) := (blk_cell BK425.out 2).trans rfl; have hcz14_3 : w11.cell? ⟨gb425, 3, none⟩ = some (.int .i64 a1_3) := (blk_cell BK425.out 3).trans rfl; have hfz14_0 := blk_frozen BK425.out 0; have hfz14_1 := blk_frozen BK425.out 1; have hfz14_2 := blk_frozen BK425.out 2; have hfz14_3 := blk_frozen BK425.out 3))
      go_ret
      exact ⟨by first | rfl | (simp [errW_none, errW_some] <;> rfl) | (simp [*, errW_none, errW_some] <;> rfl), by repeat (first | (with_reducible first | exact HB.out | apply below_alloc | apply pw_below_drewN | apply below_drew1 | refine below_set ?_ GE424.out | refine below_set ?_ GE425.out) | exact HB.out)⟩
    · rw [if_neg c9] at H
      have c9b0 : (a0_1 == a1_1) = false := beq_eq_false_iff_ne.mpr c9
      have c9b1 : (a0_1 != a1_1) = true := bne_iff_ne.mpr c9
      obtain rfl := Option.some.inj H
      go_enter Try.func59, Try.ntmps59
      go_wp2_with (first | ((with_reducible refine gate_dst (N := 2) rfl ?_); refine box_event ?hg (N := 2) ?hd (cs := #[.int .i64 a0_0, .int .i64 a0_1, .int .i64 a0_2, .int .i64 a0_3]) (t := 26) ?hr ?_; (case hd => rfl); (case hg => rfl); (case hr => first | (go_simp; done) | (go_simp; rfl)); intro gb424 hg w15 hbox hb; have n0_ := Aside0.mk (below_step (by repeat (first | (with_reducible first | exact HB.out | apply below_alloc | apply pw_below_drewN | apply below_drew1) | exact HB.out)) hb); have n1_ := Aside0.mk (hbox); have n2_ := Aside0.mk ((by rw [hg]; exact (below_size (by repeat (first | (with_reducible first | exact HB.out | apply below_alloc | apply pw_below_drewN | apply below_drew1) | exact HB.out))) : w.heap.size ≤ gb424)); have n3_ := Aside0.mk ((by rw [hg]; exact (below_size (by repeat (first | (with_reducible first | exact HB.out | apply below_alloc | apply pw_below_drewN | apply below_drew1) | exact HB.out))) : w.heap.size ≤ gb424)); clear HB; have HB := n0_; have BK424 := n1_; have GW424 := n2_; have GE424 := n3_; clear n0_ n1_ n2_ n3_; clear hb hbox hg) | ((with_reducible refine gate_dst (N := 3) rfl ?_); refine box_event ?hg (N := 3) ?hd (cs := #[.int .i64 a1_0, .int .i64 a1_1, .int .i64 a1_2, .int .i64 a1_3]) (t := 26) ?hr ?_; (case hd => rfl); (case hg => rfl); (case hr => first | (go_simp; done) | (go_simp; rfl)); intro gb425 hg w16 hbox hb; have n0_ := Aside0.mk (blk_below (g := gb424) (o := .cells #[.int .i64 a0_0, .int .i64 a0_1, .int .i64 a0_2, .int .i64 a0_3] 26 (0, 0)) (by (with_reducible repeat (first | refine blk_drewN ?_ _ | refine blk_drew ?_ | refine blk_alloc ?_ _)); exact BK424.out) hb); have n1_ := Aside0.mk (below_step (by repeat (first | (with_reducible first | exact HB.out | apply below_alloc | apply pw_below_drewN | apply below_drew1 | refine below_set ?_ GE424.out) | exact HB.out)) hb); have n2_ := Aside0.mk (hbox); have n3_ := Aside0.mk ((by rw [hg]; exact (below_size (by repeat (first | (with_reducible first | exact HB.out | apply below_alloc | apply pw_below_drewN | apply below_drew1 | refine below_set ?_ GE424.out) | exact HB.out))) : w.heap.size ≤ gb425)); have n4_ := Aside0.mk ((by rw [hg]; exact (below_size (by repeat (first | (with_reducible first | exact HB.out | apply below_alloc | apply pw_below_drewN | apply below_drew1 | refine below_set ?_ GE424.out) | exact HB.out))) : w.heap.size ≤ gb425)); have n5_ := Aside0.mk ((by rw [hg]; exact Nat.ne_of_lt (blk_lt (g := gb424) (o := .cells #[.int .i64 a0_0, .int .i64 a0_1, .int .i64 a0_2, .int .i64 a0_3] 26 (0, 0)) (by (with_reducible repeat (first | refine blk_drewN ?_ _ | refine blk_drew ?_ | refine blk_alloc ?_ _)); exact BK424.out)) : gb424 ≠ gb425)); have n6_ := Aside0.mk ((by rw [hg]; exact Nat.ne_of_gt (blk_lt (g := gb424) (o := .cells #[.int .i64 a0_0, .int .i64 a0_1, .int .i64 a0_2, .int .i64 a0_3] 26 (0, 0)) (by (with_reducible repeat (first | refine blk_drewN ?_ _ | refine blk_drew ?_ | refine blk_alloc ?_ _)); exact BK424.out)) : gb425 ≠ gb424)); clear BK424; clear HB; have BK424 := n0_; have HB := n1_; have BK425 := n2_; have GW425 := n3_; have GE425 := n4_; have NB424_425 := n5_; have NB425_424 := n6_; clear n0_ n1_ n2_ n3_ n4_ n5_ n6_; clear hb hbox hg; have hnb17 := NB424_425.out; have hnc17 := NB425_424.out; have hcz18_0 : w16.cell? ⟨gb424, 0, none⟩ = some (.int .i64 a0_0) := (blk_cell BK424.out 0).trans rfl; have hcz18_1 : w16.cell? ⟨gb424, 1, none⟩ = some (.int .i64 a0_1) := (blk_cell BK424.out 1).trans rfl; have hcz18_2 : w16.cell? ⟨gb424, 2, none⟩ = some (.int .i64 a0_2) := (blk_cell BK424.out 2).trans rfl; have hcz18_3 : w16.cell? ⟨gb424, 3, none⟩ = some (.int .i64 a0_3) := (blk_cell BK424.out 3).trans rfl; have hfz18_0 := blk_frozen BK424.out 0; have hfz18_1 := blk_frozen BK424.out 1; have hfz18_2 := blk_frozen BK424.out 2; have hfz18_3 := blk_frozen BK424.out 3; have hcz19_0 : w16.cell? ⟨gb425, 0, none⟩ = some (.int .i64 a1_0) := (blk_cell BK425.out 0).trans rfl; have hcz19_1 : w16.cell? ⟨gb425, 1, none⟩ = some (.int .i64 a1_1) := (blk_cell BK425.out 1).trans rfl; have hcz19_2 : w16.cell? ⟨gb425, 2, none⟩ = some (.int .i64 a1_2) := (blk_cell BK425.out 2).trans rfl; have hcz19_3 : w16.cell? ⟨gb425, 3, none⟩ = some (.int .i64 a1_3) := (blk_cell BK425.out 3).trans rfl; have hfz19_0 := blk_frozen BK425.out 0; have hfz19_1 := blk_frozen BK425.out 1; have hfz19_2 := blk_frozen BK425.out 2; have hfz19_3 := blk_frozen BK425.out 3))
      go_ret
      exact ⟨by first | rfl | (simp [errW_none, errW_some] <;> rfl) | (simp [*, errW_none, errW_some] <;> rfl), by repeat (first | (with_reducible first | exact HB.out | apply below_alloc | apply pw_below_drewN | apply below_drew1 | refine below_set ?_ GE424.out | refine below_set ?_ GE425.out) | exact HB.out)⟩

/-! ### bourneref1_two: function 53 -/
mutual
def bourneref1_two.j0 : Nat → Int → Int → Int → Int → Int → Int → Int → Int → Int → Int → Int → Int → List Int → Int → Int → Int → Int → Int → Int → Int → Int → Int → Int → Int → Int → List Int → Int → Int → Int → Int → Int → Int → Int → Int → Int → Int → Int → Int → Option (Int × Int × Int × Int × Int × Int × Int × Int × Int × Int × Int × Int × List Int)
  | 0, _, _, _, _, _, _, _, _, _, _, _, _, _, _, _, _, _, _, _, _, _, _, _, _, _, _, _, _, _, _, _, _, _, _, _, _, _, _ => none
  | k + 1, x435000, x435001, x435002, x435003, x435004, x435005, x435006, x435007, x435008, x435009, x435010, x435011, x435012, x436000, x436001, x436002, x436003, x436004, x436005, x436006, x436007, x436008, x436009, x436010, x436011, x436012, x438000, x438001, x438002, x438003, x438004, x438005, x438006, x438007, x438008, x438009, x438010, x438011 => (bourneref1_Before.f x436008 x436009 x436010 x436011 x435008 x435009 x435010 x435011).bind fun t439 => (if t439 = true then (bourneref1_two.j1 k x435000 x435001 x435002 x435003 x435004 x435005 x435006 x435007 x435008 x435009 x435010 x435011 x435012 x436000 x436001 x436002 x436003 x436004 x436005 x436006 x436007 x436008 x436009 x436010 x436011 x436012 x438000 x438001 x438002 x438003 x438004 x438005 x438006 x438007 x435008 x435009 x435010 x435011) else (bourneref1_two.j1 k x435000 x435001 x435002 x435003 x435004 x435005 x435006 x435007 x435008 x435009 x435010 x435011 x435012 x436000 x436001 x436002 x436003 x436004 x436005 x436006 x436007 x436008 x436009 x436010 x436011 x436012 x438000 x438001 x438002 x438003 x438004 x438005 x438006 x438007 x438008 x438009 x438010 x438011))
def bourneref1_two.j1 : Nat → Int → Int → Int → Int → Int → Int → Int → Int → Int → Int → Int → Int → List Int → Int → Int → Int → Int → Int → Int → Int → Int → Int → Int → Int → Int → List Int → Int → Int → Int → Int → Int → Int → Int → Int → Int → Int → Int → Int → Option (Int × Int × Int × Int × Int × Int × Int × Int × Int × Int × Int × Int × List Int)
  | 0, _, _, _, _, _, _, _, _, _, _, _, _, _, _, _, _, _, _, _, _, _, _, _, _, _, _, _, _, _, _, _, _, _, _, _, _, _, _ => none
  | k + 1, x435000, x435001, x435002, x435003, x435004, x435005, x435006, x435007, x435008, x435009, x435010, x435011, x435012, x436000, x436001, x436002, x436003, x436004, x436005, x436006, x436007, x436008, x436009, x436010, x436011, x436012, x438000, x438001, x438002, x438003, x438004, x438005, x438006, x438007, x438008, x438009, x438010, x438011 => bourneref1_two.l0 k 0 x435000 x435001 x435002 x435003 x435004 x435005 x435006 x435007 x435008 x435009 x435010 x435011 x435012 x436000 x436001 x436002 x436003 x436004 x436005 x436006 x436007 x436008 x436009 x436010 x436011 x436012 x438000 x438001 x438002 x438003 x438004 x438005 x438006 x438007 x438008 x438009 x438010 x438011 ([] : List Int)
def bourneref1_two.l0 : Nat → Int → Int → Int → Int → Int → Int → Int → Int → Int → Int → Int → Int → Int → List Int → Int → Int → Int → Int → Int → Int → Int → Int → Int → Int → Int → Int → List Int → Int → Int → Int → Int → Int → Int → Int → Int → Int → Int → Int → Int → List Int → Option (Int × Int × Int × Int × Int × Int × Int × Int × Int × Int × Int × Int × List Int)
  | 0, _, _, _, _, _, _, _, _, _, _, _, _, _, _, _, _, _, _, _, _, _, _, _, _, _, _, _, _, _, _, _, _, _, _, _, _, _, _, _, _ => none
  | k + 1, x6, x435000, x435001, x435002, x435003, x435004, x435005, x435006, x435007, x435008, x435009, x435010, x435011, x435012, x436000, x436001, x436002, x436003, x436004, x436005, x436006, x436007, x436008, x436009, x436010, x436011, x436012, x438000, x438001, x438002, x438003, x438004, x438005, x438006, x438007, x438008, x438009, x438010, x438011, x438012 => if x6 < (x435012.length : Int) then (if 0 ≤ x6 then (if x6 < (x436012.length : Int) then (if x438012.length < 17592186044416 then (bourneref1_two.l0 k (wrap64 (x6 + 1)) x435000 x435001 x435002 x435003 x435004 x435005 x435006 x435007 x435008 x435009 x435010 x435011 x435012 x436000 x436001 x436002 x436003 x436004 x436005 x436006 x436007 x436008 x436009 x436010 x436011 x436012 x438000 x438001 x438002 x438003 x438004 x438005 x438006 x438007 x438008 x438009 x438010 x438011 (x438012 ++ [wrap64 ((rd x435012 x6) + (rd x436012 x6))])) else (none)) else (none)) else (none)) else (some (x438000, x438001, x438002, x438003, x438004, x438005, x438006, x438007, x438008, x438009, x438010, x438011, x438012))
end
def bourneref1_two.f (k : Nat) (a0_0 : Int) (a0_1 : Int) (a0_2 : Int) (a0_3 : Int) (a0_4 : Int) (a0_5 : Int) (a0_6 : Int) (a0_7 : Int) (a0_8 : Int) (a0_9 : Int) (a0_10 : Int) (a0_11 : Int) (l0_12 : List Int) (a1_0 : Int) (a1_1 : Int) (a1_2 : Int) (a1_3 : Int) (a1_4 : Int) (a1_5 : Int) (a1_6 : Int) (a1_7 : Int) (a1_8 : Int) (a1_9 : Int) (a1_10 : Int) (a1_11 : Int) (l1_12 : List Int) : Option (Int × Int × Int × Int × Int × Int × Int × Int × Int × Int × Int × Int × List Int) := (bourneref1_Before.f a1_4 a1_5 a1_6 a1_7 a0_4 a0_5 a0_6 a0_7).bind fun t438 => (if t438 = true then (bourneref1_two.j0 k a0_0 a0_1 a0_2 a0_3 a0_4 a0_5 a0_6 a0_7 a0_8 a0_9 a0_10 a0_11 l0_12 a1_0 a1_1 a1_2 a1_3 a1_4 a1_5 a1_6 a1_7 a1_8 a1_9 a1_10 a1_11 l1_12 (wrap64 (a0_0 + a1_0)) (wrap64 (a0_1 + a1_1)) (mn a0_2 a1_2) (mx a0_3 a1_3) a1_4 a1_5 a1_6 a1_7 a1_8 a1_9 a1_10 a1_11) else (bourneref1_two.j0 k a0_0 a0_1 a0_2 a0_3 a0_4 a0_5 a0_6 a0_7 a0_8 a0_9 a0_10 a0_11 l0_12 a1_0 a1_1 a1_2 a1_3 a1_4 a1_5 a1_6 a1_7 a1_8 a1_9 a1_10 a1_11 l1_12 (wrap64 (a0_0 + a1_0)) (wrap64 (a0_1 + a1_1)) (mn a0_2 a1_2) (mx a0_3 a1_3) a0_4 a0_5 a0_6 a0_7 a1_8 a1_9 a1_10 a1_11))
theorem bourneref1_two.mono_l : ∀ k, (∀ y0 y1 y2 y3 y4 y5 y6 y7 y8 y9 y10 y11 y12 y13 y14 y15 y16 y17 y18 y19 y20 y21 y22 y23 y24 y25 y26 y27 y28 y29 y30 y31 y32 y33 y34 y35 y36 y37, LeO (bourneref1_two.j0 k y0 y1 y2 y3 y4 y5 y6 y7 y8 y9 y10 y11 y12 y13 y14 y15 y16 y17 y18 y19 y20 y21 y22 y23 y24 y25 y26 y27 y28 y29 y30 y31 y32 y33 y34 y35 y36 y37) (bourneref1_two.j0 (k + 1) y0 y1 y2 y3 y4 y5 y6 y7 y8 y9 y10 y11 y12 y13 y14 y15 y16 y17 y18 y19 y20 y21 y22 y23 y24 y25 y26 y27 y28 y29 y30 y31 y32 y33 y34 y35 y36 y37)) ∧ (∀ y0 y1 y2 y3 y4 y5 y6 y7 y8 y9 y10 y11 y12 y13 y14 y15 y16 y17 y18 y19 y20 y21 y22 y23 y24 y25 y26 y27 y28 y29 y30 y31 y32 y33 y34 y35 y36 y37, LeO (bourneref1_two.j1 k y0 y1 y2 y3 y4 y5 y6 y7 y8 y9 y10 y11 y12 y13 y14 y15 y16 y17 y18 y19 y20 y21 y22 y23 y24 y25 y26 y27 y28 y29 y30 y31 y32 y33 y34 y35 y36 y37) (bourneref1_two.j1 (k + 1) y0 y1 y2 y3 y4 y5 y6 y7 y8 y9 y10 y11 y12 y13 y14 y15 y16 y17 y18 y19 y20 y21 y22 y23 y24 y25 y26 y27 y28 y29 y30 y31 y32 y33 y34 y35 y36 y37)) ∧ (∀ y0 y1 y2 y3 y4 y5 y6 y7 y8 y9 y10 y11 y12 y13 y14 y15 y16 y17 y18 y19 y20 y21 y22 y23 y24 y25 y26 y27 y28 y29 y30 y31 y32 y33 y34 y35 y36 y37 y38 y39, LeO (bourneref1_two.l0 k y0 y1 y2 y3 y4 y5 y6 y7 y8 y9 y10 y11 y12 y13 y14 y15 y16 y17 y18 y19 y20 y21 y22 y23 y24 y25 y26 y27 y28 y29 y30 y31 y32 y33 y34 y35 y36 y37 y38 y39) (bourneref1_two.l0 (k + 1) y0 y1 y2 y3 y4 y5 y6 y7 y8 y9 y10 y11 y12 y13 y14 y15 y16 y17 y18 y19 y20 y21 y22 y23 y24 y25 y26 y27 y28 y29 y30 y31 y32 y33 y34 y35 y36 y37 y38 y39))
  | 0 => ⟨fun _ _ _ _ _ _ _ _ _ _ _ _ _ _ _ _ _ _ _ _ _ _ _ _ _ _ _ _ _ _ _ _ _ _ _ _ _ _ r h => by simp [bourneref1_two.j0] at h, fun _ _ _ _ _ _ _ _ _ _ _ _ _ _ _ _ _ _ _ _ _ _ _ _ _ _ _ _ _ _ _ _ _ _ _ _ _ _ r h => by simp [bourneref1_two.j1] at h, fun _ _ _ _ _ _ _ _ _ _ _ _ _ _ _ _ _ _ _ _ _ _ _ _ _ _ _ _ _ _ _ _ _ _ _ _ _ _ _ _ r h => by simp [bourneref1_two.l0] at h⟩
  | k + 1 => by
    obtain ⟨ih0, ih1, ih2⟩ := bourneref1_two.mono_l k
    refine ⟨?_, ?_, ?_⟩
    · intro y0 y1 y2 y3 y4 y5 y6 y7 y8 y9 y10 y11 y12 y13 y14 y15 y16 y17 y18 y19 y20 y21 y22 y23 y24 y25 y26 y27 y28 y29 y30 y31 y32 y33 y34 y35 y36 y37
      unfold bourneref1_two.j0
      repeat' first
      | (with_reducible exact ih0 _ _ _ _ _ _ _ _ _ _ _ _ _ _ _ _ _ _ _ _ _ _ _ _ _ _ _ _ _ _ _ _ _ _ _ _ _ _)
      | (with_reducible exact ih1 _ _ _ _ _ _ _ _ _ _ _ _ _ _ _ _ _ _ _ _ _ _ _ _ _ _ _ _ _ _ _ _ _ _ _ _ _ _)
      | (with_reducible exact ih2 _ _ _ _ _ _ _ _ _ _ _ _ _ _ _ _ _ _ _ _ _ _ _ _ _ _ _ _ _ _ _ _ _ _ _ _ _ _ _ _)
      | (with_reducible exact LeO.refl _)
      | (with_reducible exact LeO.none _)
      | (with_reducible refine LeO.ite ?_ ?_)
      | (with_reducible refine LeO.bind ?_ (fun _ => ?_))
      | exact ih0 _ _ _ _ _ _ _ _ _ _ _ _ _ _ _ _ _ _ _ _ _ _ _ _ _ _ _ _ _ _ _ _ _ _ _ _ _ _
      | exact ih1 _ _ _ _ _ _ _ _ _ _ _ _ _ _ _ _ _ _ _ _ _ _ _ _ _ _ _ _ _ _ _ _ _ _ _ _ _ _
      | exact ih2 _ _ _ _ _ _ _ _ _ _ _ _ _ _ _ _ _ _ _ _ _ _ _ _ _ _ _ _ _ _ _ _ _ _ _ _ _ _ _ _
      | exact LeO.none _
      | refine LeO.ite ?_ ?_
      | refine LeO.bind ?_ (fun _ => ?_)
    · intro y0 y1 y2 y3 y4 y5 y6 y7 y8 y9 y10 y11 y12 y13 y14 y15 y16 y17 y18 y19 y20 y21 y22 y23 y24 y25 y26 y27 y28 y29 y30 y31 y32 y33 y34 y35 y36 y37
      unfold bourneref1_two.j1
      repeat' first
      | (with_reducible exact ih0 _ _ _ _ _ _ _ _ _ _ _ _ _ _ _ _ _ _ _ _ _ _ _ _ _ _ _ _ _ _ _ _ _ _ _ _ _ _)
      | (with_reducible exact ih1 _ _ _ _ _ _ _ _ _ _ _ _ _ _ _ _ _ _ _ _ _ _ _ _ _ _ _ _ _ _ _ _ _ _ _ _ _ _)
      | (with_reducible exact ih2 _ _ _ _ _ _ _ _ _ _ _ _ _ _ _ _ _ _ _ _ _ _ _ _ _ _ _ _ _ _ _ _ _ _ _ _ _ _ _ _)
      | (with_reducible exact LeO.refl _)
      | (with_reducible exact LeO.none _)
      | (with_reducible refine LeO.ite ?_ ?_)
      | (with_reducible refine LeO.bind ?_ (fun _ => ?_))
      | exact ih0 _ _ _ _ _ _ _ _ _ _ _ _ _ _ _ _ _ _ _ _ _ _ _ _ _ _ _ _ _ _ _ _ _ _ _ _ _ _
      | exact ih1 _ _ _ _ _ _ _ _ _ _ _ _ _ _ _ _ _ _ _ _ _ _ _ _ _ _ _ _ _ _ _ _ _ _ _ _ _ _
      | exact ih2 _ _ _ _ _ _ _ _ _ _ _ _ _ _ _ _ _ _ _ _ _ _ _ _ _ _ _ _ _ _ _ _ _ _ _ _ _ _ _ _
      | exact LeO.none _
      | refine LeO.ite ?_ ?_
      | refine LeO.bind ?_ (fun _ => ?_)
    · intro y0 y1 y2 y3 y4 y5 y6 y7 y8 y9 y10 y11 y12 y13 y14 y15 y16 y17 y18 y19 y20 y21 y22 y23 y24 y25 y26 y27 y28 y29 y30 y31 y32 y33 y34 y35 y36 y37 y38 y39
      unfold bourneref1_two.l0
      repeat' first
      | (with_reducible exact ih0 _ _ _ _ _ _ _ _ _ _ _ _ _ _ _ _ _ _ _ _ _ _ _ _ _ _ _ _ _ _ _ _ _ _ _ _ _ _)
      | (with_reducible exact ih1 _ _ _ _ _ _ _ _ _ _ _ _ _ _ _ _ _ _ _ _ _ _ _ _ _ _ _ _ _ _ _ _ _ _ _ _ _ _)
      | (with_reducible exact ih2 _ _ _ _ _ _ _ _ _ _ _ _ _ _ _ _ _ _ _ _ _ _ _ _ _ _ _ _ _ _ _ _ _ _ _ _ _ _ _ _)
      | (with_reducible exact LeO.refl _)
      | (with_reducible exact LeO.none _)
      | (with_reducible refine LeO.ite ?_ ?_)
      | (with_reducible refine LeO.bind ?_ (fun _ => ?_))
      | exact ih0 _ _ _ _ _ _ _ _ _ _ _ _ _ _ _ _ _ _ _ _ _ _ _ _ _ _ _ _ _ _ _ _ _ _ _ _ _ _
      | exact ih1 _ _ _ _ _ _ _ _ _ _ _ _ _ _ _ _ _ _ _ _ _ _ _ _ _ _ _ _ _ _ _ _ _ _ _ _ _ _
      | exact ih2 _ _ _ _ _ _ _ _ _ _ _ _ _ _ _ _ _ _ _ _ _ _ _ _ _ _ _ _ _ _ _ _ _ _ _ _ _ _ _ _
      | exact LeO.none _
      | refine LeO.ite ?_ ?_
      | refine LeO.bind ?_ (fun _ => ?_)
theorem bourneref1_two.mono : ∀ a0 a1 a2 a3 a4 a5 a6 a7 a8 a9 a10 a11 a12 a13 a14 a15 a16 a17 a18 a19 a20 a21 a22 a23 a24 a25 k, LeO (bourneref1_two.f k a0 a1 a2 a3 a4 a5 a6 a7 a8 a9 a10 a11 a12 a13 a14 a15 a16 a17 a18 a19 a20 a21 a22 a23 a24 a25) (bourneref1_two.f (k + 1) a0 a1 a2 a3 a4 a5 a6 a7 a8 a9 a10 a11 a12 a13 a14 a15 a16 a17 a18 a19 a20 a21 a22 a23 a24 a25) := by
  intro a0 a1 a2 a3 a4 a5 a6 a7 a8 a9 a10 a11 a12 a13 a14 a15 a16 a17 a18 a19 a20 a21 a22 a23 a24 a25 k
  obtain ⟨ih0, ih1, ih2⟩ := bourneref1_two.mono_l k
  unfold bourneref1_two.f
  repeat' first
      | (with_reducible exact ih0 _ _ _ _ _ _ _ _ _ _ _ _ _ _ _ _ _ _ _ _ _ _ _ _ _ _ _ _ _ _ _ _ _ _ _ _ _ _)
      | (with_reducible exact ih1 _ _ _ _ _ _ _ _ _ _ _ _ _ _ _ _ _ _ _ _ _ _ _ _ _ _ _ _ _ _ _ _ _ _ _ _ _ _)
      | (with_reducible exact ih2 _ _ _ _ _ _ _ _ _ _ _ _ _ _ _ _ _ _ _ _ _ _ _ _ _ _ _ _ _ _ _ _ _ _ _ _ _ _ _ _)
      | (with_reducible exact LeO.refl _)
      | (with_reducible exact LeO.none _)
      | (with_reducible refine LeO.ite ?_ ?_)
      | (with_reducible refine LeO.bind ?_ (fun _ => ?_))
      | exact ih0 _ _ _ _ _ _ _ _ _ _ _ _ _ _ _ _ _ _ _ _ _ _ _ _ _ _ _ _ _ _ _ _ _ _ _ _ _ _
      | exact ih1 _ _ _ _ _ _ _ _ _ _ _ _ _ _ _ _ _ _ _ _ _ _ _ _ _ _ _ _ _ _ _ _ _ _ _ _ _ _
      | exact ih2 _ _ _ _ _ _ _ _ _ _ _ _ _ _ _ _ _ _ _ _ _ _ _ _ _ _ _ _ _ _ _ _ _ _ _ _ _ _ _ _
      | exact LeO.none _
      | refine LeO.ite ?_ ?_
      | refine LeO.bind ?_ (fun _ => ?_)
def bourneref1_two.T9 : Bool × List (List Nat × List Nat) := (true, [([], []), ([0], [0]), ([], []), ([2], [2]), ([], []), ([3, 4], [3, 4]), ([5], [5]), ([], []), ([7], [7]), ([], []), ([8, 9], [8, 9]), ([10], [10]), ([6, 11], [6, 11]), ([12], [12]), ([1, 13], [1, 13]), ([0, 1, 2, 3, 4, 5, 6, 7, 8, 9, 10, 11, 12, 13, 14], []), ([15, 14, 14, 0, 1, 2, 3, 4, 5, 6, 7, 8, 9, 10, 11, 12, 13, 14], [14, 15])])
def bourneref1_two.B9 : List Nat := [0, 1, 0, 4, 0, 28, 60, 0, 128, 0, 896, 1920, 4092, 8188, 16383, 32767, 65535]
theorem bourneref1_two.tab9 : rtab .any (opsOf Try.f53 9) = bourneref1_two.T9 := by kernel_rfl
theorem bourneref1_two.bits9 : waitsOk bourneref1_two.T9.2 bourneref1_two.B9 = true := by kernel_rfl
set_option maxHeartbeats 8000000 in
set_option maxRecDepth 100000 in
theorem bourneref1_two.calls (k : Nat) (a0_0 : Int) (a0_1 : Int) (a0_2 : Int) (a0_3 : Int) (a0_4 : Int) (a0_5 : Int) (a0_6 : Int) (a0_7 : Int) (a0_8 : Int) (a0_9 : Int) (a0_10 : Int) (a0_11 : Int) (A0_12 : Option Addr) (c0_12 : Nat) (l0_12 : List Int) (a1_0 : Int) (a1_1 : Int) (a1_2 : Int) (a1_3 : Int) (a1_4 : Int) (a1_5 : Int) (a1_6 : Int) (a1_7 : Int) (a1_8 : Int) (a1_9 : Int) (a1_10 : Int) (a1_11 : Int) (A1_12 : Option Addr) (c1_12 : Nat) (l1_12 : List Int) (r1 : Int) (r2 : Int) (r3 : Int) (r4 : Int) (r5 : Int) (r6 : Int) (r7 : Int) (r8 : Int) (r9 : Int) (r10 : Int) (r11 : Int) (r12 : Int) (r13 : List Int) (w : World) (hr0_12 : Kd.C (Kd.int .i64) w A0_12 l0_12.length l0_12) (hc0_12 : l0_12.length ≤ c0_12) (hr1_12 : Kd.C (Kd.int .i64) w A1_12 l1_12.length l1_12) (hc1_12 : l1_12.length ≤ c1_12) (h : bourneref1_two.f k a0_0 a0_1 a0_2 a0_3 a0_4 a0_5 a0_6 a0_7 a0_8 a0_9 a0_10 a0_11 l0_12 a1_0 a1_1 a1_2 a1_3 a1_4 a1_5 a1_6 a1_7 a1_8 a1_9 a1_10 a1_11 l1_12 = some (r1, r2, r3, r4, r5, r6, r7, r8, r9, r10, r11, r12, r13)) :
    Calls Try.prog 53 #[.agg #[.int .i64 a0_0, .int .i64 a0_1, .int .i64 a0_2, .int .i64 a0_3, .int .i64 a0_4, .int .i64 a0_5, .int .i64 a0_6, .int .i64 a0_7, .int .i64 a0_8, .int .i64 a0_9, .int .i64 a0_10, .int .i64 a0_11, .slice A0_12 l0_12.length c0_12], .agg #[.int .i64 a1_0, .int .i64 a1_1, .int .i64 a1_2, .int .i64 a1_3, .int .i64 a1_4, .int .i64 a1_5, .int .i64 a1_6, .int .i64 a1_7, .int .i64 a1_8, .int .i64 a1_9, .int .i64 a1_10, .int .i64 a1_11, .slice A1_12 l1_12.length c1_12]] w fun e w' => ∃ v12_ : Value, e = .returned (.agg #[.int .i64 r1, .int .i64 r2, .int .i64 r3, .int .i64 r4, .int .i64 r5, .int .i64 r6, .int .i64 r7, .int .i64 r8, .int .i64 r9, .int .i64 r10, .int .i64 r11, .int .i64 r12, v12_]) ∧ Kd.R (Kd.int .i64) 3 w' w.heap.size (fun _ => True) v12_ r13 ∧ Below w.heap.size w w' := by
  have hu28 := Try.underlying28
  have hu26 := Try.underlying26
  have HR0_12 := Aside0.mk hr0_12
  have HC0_12 := Aside0.mk hc0_12
  clear hr0_12 hc0_12
  have HR1_12 := Aside0.mk hr1_12
  have HC1_12 := Aside0.mk hc1_12
  clear hr1_12 hc1_12
  have HB := Aside0.mk (Below.refl w.heap.size w)
  have H : ((bourneref1_Before.f a1_4 a1_5 a1_6 a1_7 a0_4 a0_5 a0_6 a0_7).bind fun t438 => (if t438 = true then (bourneref1_two.j0 k a0_0 a0_1 a0_2 a0_3 a0_4 a0_5 a0_6 a0_7 a0_8 a0_9 a0_10 a0_11 l0_12 a1_0 a1_1 a1_2 a1_3 a1_4 a1_5 a1_6 a1_7 a1_8 a1_9 a1_10 a1_11 l1_12 (wrap64 (a0_0 + a1_0)) (wrap64 (a0_1 + a1_1)) (mn a0_2 a1_2) (mx a0_3 a1_3) a1_4 a1_5 a1_6 a1_7 a1_8 a1_9 a1_10 a1_11) else (bourneref1_two.j0 k a0_0 a0_1 a0_2 a0_3 a0_4 a0_5 a0_6 a0_7 a0_8 a0_9 a0_10 a0_11 l0_12 a1_0 a1_1 a1_2 a1_3 a1_4 a1_5 a1_6 a1_7 a1_8 a1_9 a1_10 a1_11 l1_12 (wrap64 (a0_0 + a1_0)) (wrap64 (a0_1 + a1_1)) (mn a0_2 a1_2) (mx a0_3 a1_3) a0_4 a0_5 a0_6 a0_7 a1_8 a1_9 a1_10 a1_11))) = some (r1, r2, r3, r4, r5, r6, r7, r8, r9, r10, r11, r12, r13) := h
  clear h
  obtain ⟨ji3, hji3⟩ : ∃ j_ : Int, (mn a0_2 a1_2) = j_ := ⟨_, rfl⟩
  replace H : ((bourneref1_Before.f a1_4 a1_5 a1_6 a1_7 a0_4 a0_5 a0_6 a0_7).bind fun t438 => (if t438 = true then (bourneref1_two.j0 k a0_0 a0_1 a0_2 a0_3 a0_4 a0_5 a0_6 a0_7 a0_8 a0_9 a0_10 a0_11 l0_12 a1_0 a1_1 a1_2 a1_3 a1_4 a1_5 a1_6 a1_7 a1_8 a1_9 a1_10 a1_11 l1_12 (wrap64 (a0_0 + a1_0)) (wrap64 (a0_1 + a1_1)) ji3 (mx a0_3 a1_3) a1_4 a1_5 a1_6 a1_7 a1_8 a1_9 a1_10 a1_11) else (bourneref1_two.j0 k a0_0 a0_1 a0_2 a0_3 a0_4 a0_5 a0_6 a0_7 a0_8 a0_9 a0_10 a0_11 l0_12 a1_0 a1_1 a1_2 a1_3 a1_4 a1_5 a1_6 a1_7 a1_8 a1_9 a1_10 a1_11 l1_12 (wrap64 (a0_0 + a1_0)) (wrap64 (a0_1 + a1_1)) ji3 (mx a0_3 a1_3) a0_4 a0_5 a0_6 a0_7 a1_8 a1_9 a1_10 a1_11))) = some (r1, r2, r3, r4, r5, r6, r7, r8, r9, r10, r11, r12, r13) := by first | (rw [hji3] at H; exact H) | (simp only [hji3] at H ⊢; exact H)
  have hji3_ : (if a1_2 < a0_2 then a1_2 else a0_2) = ji3 := hji3
  obtain ⟨ji4, hji4⟩ : ∃ j_ : Int, (mx a0_3 a1_3) = j_ := ⟨_, rfl⟩
  replace H : ((bourneref1_Before.f a1_4 a1_5 a1_6 a1_7 a0_4 a0_5 a0_6 a0_7).bind fun t438 => (if t438 = true then (bourneref1_two.j0 k a0_0 a0_1 a0_2 a0_3 a0_4 a0_5 a0_6 a0_7 a0_8 a0_9 a0_10 a0_11 l0_12 a1_0 a1_1 a1_2 a1_3 a1_4 a1_5 a1_6 a1_7 a1_8 a1_9 a1_10 a1_11 l1_12 (wrap64 (a0_0 + a1_0)) (wrap64 (a0_1 + a1_1)) ji3 ji4 a1_4 a1_5 a1_6 a1_7 a1_8 a1_9 a1_10 a1_11) else (bourneref1_two.j0 k a0_0 a0_1 a0_2 a0_3 a0_4 a0_5 a0_6 a0_7 a0_8 a0_9 a0_10 a0_11 l0_12 a1_0 a1_1 a1_2 a1_3 a1_4 a1_5 a1_6 a1_7 a1_8 a1_9 a1_10 a1_11 l1_12 (wrap64 (a0_0 + a1_0)) (wrap64 (a0_1 + a1_1)) ji3 ji4 a0_4 a0_5 a0_6 a0_7 a1_8 a1_9 a1_10 a1_11))) = some (r1, r2, r3, r4, r5, r6, r7, r8, r9, r10, r11, r12, r13) := by first | (rw [hji4] at H; exact H) | (simp only [hji4] at H ⊢; exact H)
  have hji4_ : (if a0_3 < a1_3 then a1_3 else a0_3) = ji4 := hji4
  replace H := Option.bind_eq_some_iff.mp H
  obtain ⟨t438, A50, H⟩ := H
  replace H : (if t438 = true then (bourneref1_two.j0 k a0_0 a0_1 a0_2 a0_3 a0_4 a0_5 a0_6 a0_7 a0_8 a0_9 a0_10 a0_11 l0_12 a1_0 a1_1 a1_2 a1_3 a1_4 a1_5 a1_6 a1_7 a1_8 a1_9 a1_10 a1_11 l1_12 (wrap64 (a0_0 + a1_0)) (wrap64 (a0_1 + a1_1)) ji3 ji4 a1_4 a1_5 a1_6 a1_7 a1_8 a1_9 a1_10 a1_11) else (bourneref1_two.j0 k a0_0 a0_1 a0_2 a0_3 a0_4 a0_5 a0_6 a0_7 a0_8 a0_9 a0_10 a0_11 l0_12 a1_0 a1_1 a1_2 a1_3 a1_4 a1_5 a1_6 a1_7 a1_8 a1_9 a1_10 a1_11 l1_12 (wrap64 (a0_0 + a1_0)) (wrap64 (a0_1 + a1_1)) ji3 ji4 a0_4 a0_5 a0_6 a0_7 a1_8 a1_9 a1_10 a1_11)) = some (r1, r2, r3, r4, r5, r6, r7, r8, r9, r10, r11, r12, r13) := H
  have A5 := Aside0.mk A50
  clear A50
  have HC6 := Aside0.mk H
  clear H
  go_enter Try.func53, Try.ntmps53
  go_upto_if 36 with (first | ((with_reducible refine gate_dst (N := 2) rfl ?_); refine box_event ?hg (N := 2) ?hd (cs := #[.int .i64 a0_0, .int .i64 a0_1, .int .i64 a0_2, .int .i64 a0_3, .int .i64 a0_4, .int .i64 a0_5, .int .i64 a0_6, .int .i64 a0_7, .int .i64 a0_8, .int .i64 a0_9, .int .i64 a0_10, .int .i64 a0_11, .slice A0_12 l0_12.length c0_12]) (t := 28) ?hr ?_; (case hd => rfl); (case hg => rfl); (case hr => first | (go_simp; done) | (go_simp; rfl)); intro gb434 hg w7 hbox hb; have n0_ := Aside0.mk (below_step (by repeat (first | (with_reducible first | exact HB.out | apply below_alloc | apply pw_below_drewN | apply below_drew1) | exact HB.out)) hb); have n1_ := Aside0.mk (hbox); have n2_ := Aside0.mk ((by rw [hg]; exact (below_size (by repeat (first | (with_reducible first | exact HB.out | apply below_alloc | apply pw_below_drewN | apply below_drew1) | exact HB.out))) : w.heap.size ≤ gb434)); have n3_ := Aside0.mk ((by rw [hg]; exact (below_size (by repeat (first | (with_reducible first | exact HB.out | apply below_alloc | apply pw_below_drewN | apply below_drew1) | exact HB.out))) : w.heap.size ≤ gb434)); clear HB; have HB := n0_; have BK434 := n1_; have GW434 := n2_; have GE434 := n3_; clear n0_ n1_ n2_ n3_; clear hb hbox hg) | ((with_reducible refine gate_dst (N := 3) rfl ?_); refine box_event ?hg (N := 3) ?hd (cs := #[.int .i64 a1_0, .int .i64 a1_1, .int .i64 a1_2, .int .i64 a1_3, .int .i64 a1_4, .int .i64 a1_5, .int .i64 a1_6, .int .i64 a1_7, .int .i64 a1_8, .int .i64 a1_9, .int .i64 a1_10, .int .i64 a1_11, .slice A1_12 l1_12.length c1_12]) (t := 28) ?hr ?_; (case hd => rfl); (case hg => rfl); (case hr => first | (go_simp; done) | (go_simp; rfl)); intro gb435 hg w8 hbox hb; have n0_ := Aside0.mk (blk_below (g := gb434) (o := .cells #[.int .i64 a0_0, .int .i64 a0_1, .int .i64 a0_2, .int .i64 a0_3, .int .i64 a0_4, .int .i64 a0_5, .int .i64 a0_6, .int .i64 a0_7, .int .i64 a0_8, .int .i64 a0_9, .int .i64 a0_10, .int .i64 a0_11, .slice A0_12 l0_12.length c0_12] 28 (0, 0)) (by (with_reducible repeat (first | refine blk_drewN ?_ _ | refine blk_drew ?_ | refine blk_alloc ?_ _)); exact BK434.out) hb); have n1_ := Aside0.mk (below_step (by repeat (first | (with_reducible first | exact HB.out | apply below_alloc | apply pw_below_drewN | apply below_drew1 | refine below_set ?_ GE434.out) | exact HB.out)) hb); have n2_ := Aside0.mk (hbox); have n3_ := Aside0.mk ((by rw [hg]; exact (below_size (by repeat (first | (with_reducible first | exact HB.out | apply below_alloc | apply pw_below_drewN | apply below_drew1 | refine below_set ?_ GE434.out) | exact HB.out))) : w.heap.size ≤ gb435)); have n4_ := Aside0.mk ((by rw [hg]; exact (below_size (by repeat (first | (with_reducible first | exact HB.out | apply below_alloc | apply pw_below_drewN | apply below_drew1 | refine below_set ?_ GE434.out) | exact HB.out))) : w.heap.size ≤ gb435)); have n5_ := Aside0.mk ((by rw [hg]; exact Nat.ne_of_lt (blk_lt (g := gb434) (o := .cells #[.int .i64 a0_0, .int .i64 a0_1, .int .i64 a0_2, .int .i64 a0_3, .int .i64 a0_4, .int .i64 a0_5, .int .i64 a0_6, .int .i64 a0_7, .int .i64 a0_8, .int .i64 a0_9, .int .i64 a0_10, .int .i64 a0_11, .slice A0_12 l0_12.length c0_12] 28 (0, 0)) (by (with_reducible repeat (first | refine blk_drewN ?_ _ | refine blk_drew ?_ | refine blk_alloc ?_ _)); exact BK434.out)) : gb434 ≠ gb435)); have n6_ := Aside0.mk ((by rw [hg]; exact Nat.ne_of_gt (blk_lt (g := gb434) (o := .cells #[.int .i64 a0_0, .int .i64 a0_1, .int .i64 a0_2, .int .i64 a0_3, .int .i64 a0_4, .int .i64 a0_5, .int .i64 a0_6, .int .i64 a0_7, .int .i64 a0_8, .int .i64 a0_9, .int .i64 a0_10, .int .i64 a0_11, .slice A0_12 l0_12.length c0_12] 28 (0, 0)) (by (with_reducible repeat (first | refine blk_drewN ?_ _ | refine blk_drew ?_ | refine blk_alloc ?_ _)); exact BK434.out)) : gb435 ≠ gb434)); clear BK434; clear HB; have BK434 := n0_; have HB := n1_; have BK435 := n2_; have GW435 := n3_; have GE435 := n4_; have NB434_435 := n5_; have NB435_434 := n6_; clear n0_ n1_ n2_ n3_ n4_ n5_ n6_; clear hb hbox hg) | ((with_reducible refine gate_dst (N := 4) rfl ?_); refine box_event ?hg (N := 4) ?hd (cs := #[.int .i64 0, .int .i64 0, .int .i64 0, .int .i64 0, .int .i64 0, .int .i64 0, .int .i64 0, .int .i64 0, .int .i64 0, .int .i64 0, .int .i64 0, .int .i64 0, .slice none 0 0]) (t := 28) ?hr ?_; (case hd => rfl); (case hg => rfl); (case hr => first | (go_simp; done) | (go_simp; rfl)); intro gb436 hg w9 hbox hb; have n0_ := Aside0.mk (blk_below (g := gb434) (o := .cells #[.int .i64 a0_0, .int .i64 a0_1, .int .i64 a0_2, .int .i64 a0_3, .int .i64 a0_4, .int .i64 a0_5, .int .i64 a0_6, .int .i64 a0_7, .int .i64 a0_8, .int .i64 a0_9, .int .i64 a0_10, .int .i64 a0_11, .slice A0_12 l0_12.length c0_12] 28 (0, 0)) (by (with_reducible repeat (first | refine blk_drewN ?_ _ | refine blk_drew ?_ | refine blk_alloc ?_ _)); exact BK434.out) hb); have n1_ := Aside0.mk (blk_below (g := gb435) (o := .cells #[.int .i64 a1_0, .int .i64 a1_1, .int .i64 a1_2, .int .i64 a1_3, .int .i64 a1_4, .int .i64 a1_5, .int .i64 a1_6, .int .i64 a1_7, .int .i64 a1_8, .int .i64 a1_9, .int .i64 a1_10, .int .i64 a1_11, .slice A1_12 l1_12.length c1_12] 28 (0, 0)) (by (with_reducible repeat (first | refine blk_drewN ?_ _ | refine blk_drew ?_ | refine blk_alloc ?_ _)); exact BK435.out) hb); have n2_ := Aside0.mk (below_step (by repeat (first | (with_reducible first | exact HB.out | apply below_alloc | apply pw_below_drewN | apply below_drew1 | refine below_set ?_ GE434.out | refine below_set ?_ GE435.out) | exact HB.out)) hb); have n3_ := Aside0.mk (hbox); have n4_ := Aside0.mk ((by rw [hg]; exact (below_size (by repeat (first | (with_reducible first | exact HB.out | apply below_alloc | apply pw_below_drewN | apply below_drew1 | refine below_set ?_ GE434.out | refine below_set ?_ GE435.out) | exact HB.out))) : w.heap.size ≤ gb436)); have n5_ := Aside0.mk ((by rw [hg]; exact (below_size (by repeat (first | (with_reducible first | exact HB.out | apply below_alloc | apply pw_below_drewN | apply below_drew1 | refine below_set ?_ GE434.out | refine below_set ?_ GE435.out) | exact HB.out))) : w.heap.size ≤ gb436)); have n6_ := Aside0.mk ((by rw [hg]; exact Nat.ne_of_lt (blk_lt (g := gb434) (o := .cells #[.int .i64 a0_0, .int .i64 a0_1, .int .i64 a0_2, .int .i64 a0_3, .int .i64 a0_4, .int .i64 a0_5, .int .i64 a0_6, .int .i64 a0_7, .int .i64 a0_8, .int .i64 a0_9, .int .i64 a0_10, .int .i64 a0_11, .slice A0_12 l0_12.length c0_12] 28 (0, 0)) (by (with_reducible repeat (first | refine blk_drewN ?_ _ | refine blk_drew ?_ | refine blk_alloc ?_ _)); exact BK434.out)) : gb434 ≠ gb436)); have n7_ := Aside0.mk ((by rw [hg]; exact Nat.ne_of_gt (blk_lt (g := gb434) (o := .cells #[.int .i64 a0_0, .int .i64 a0_1, .int .i64 a0_2, .int .i64 a0_3, .int .i64 a0_4, .int .i64 a0_5, .int .i64 a0_6, .int .i64 a0_7, .int .i64 a0_8, .int .i64 a0_9, .int .i64 a0_10, .int .i64 a0_11, .slice A0_12 l0_12.length c0_12] 28 (0, 0)) (by (with_reducible repeat (first | refine blk_drewN ?_ _ | refine blk_drew ?_ | refine blk_alloc ?_ _)); exact BK434.out)) : gb436 ≠ gb434)); have n8_ := Aside0.mk ((by rw [hg]; exact Nat.ne_of_lt (blk_lt (g := gb435) (o := .cells #[.int .i64 a1_0, .int .i64 a1_1, .int .i64 a1_2, .int .i64 a1_3, .int .i64 a1_4, .int .i64 a1_5, .int .i64 a1_6, .int .i64 a1_7, .int .i64 a1_8, .int .i64 a1_9, .int .i64 a1_10, .int .i64 a1_11, .slice A1_12 l1_12.length c1_12] 28 (0, 0)) (by (with_reducible repeat (first | refine blk_drewN ?_ _ | refine blk_drew ?_ | refine blk_alloc ?_ _)); exact BK435.out)) : gb435 ≠ gb436)); have n9_ := Aside0.mk ((by rw [hg]; exact Nat.ne_of_gt (blk_lt (g := gb435) (o := .cells #[.int .i64 a1_0, .int .i64 a1_1, .int .i64 a1_2, .int .i64 a1_3, .int .i64 a1_4, .int .i64 a1_5, .int .i64 a1_6, .int .i64 a1_7, .int .i64 a1_8, .int .i64 a1_9, .int .i64 a1_10, .int .i64 a1_11, .slice A1_12 l1_12.length c1_12] 28 (0, 0)) (by (with_reducible repeat (first | refine blk_drewN ?_ _ | refine blk_drew ?_ | refine blk_alloc ?_ _)); exact BK435.out)) : gb436 ≠ gb435)); clear BK434; clear BK435; clear HB; have BK434 := n0_; have BK435 := n1_; have HB := n2_; have BK436 := n3_; have GW436 := n4_; have GE436 := n5_; have NB434_436 := n6_; have NB436_434 := n7_; have NB435_436 := n8_; have NB436_435 := n9_; clear n0_ n1_ n2_ n3_ n4_ n5_ n6_ n7_ n8_ n9_; clear hb hbox hg; have hnb10 := NB434_435.out; have hnc10 := NB435_434.out; have hnb11 := NB434_436.out; have hnc11 := NB436_434.out; have hcz12_0 : w9.cell? ⟨gb434, 0, none⟩ = some (.int .i64 a0_0) := (blk_cell BK434.out 0).trans rfl; have hcz12_1 : w9.cell? ⟨gb434, 1, none⟩ = some (.int .i64 a0_1) := (blk_cell BK434.out 1).trans rfl; have hcz12_2 : w9.cell? ⟨gb434, 2, none⟩ = some (.int .i64 a0_2) := (blk_cell BK434.out 2).trans rfl; have hcz12_3 : w9.cell? ⟨gb434, 3, none⟩ = some (.int .i64 a0_3) := (blk_cell BK434.out 3).trans rfl; have hcz12_4 : w9.cell? ⟨gb434, 4, none⟩ = some (.int .i64 a0_4) := (blk_cell BK434.out 4).trans rfl; have hcz12_5 : w9.cell? ⟨gb434, 5, none⟩ = some (.int .i64 a0_5) := (blk_cell BK434.out 5).trans rfl; have hcz12_6 : w9.cell? ⟨gb434, 6, none⟩ = some (.int .i64 a0_6) := (blk_cell BK434.out 6).trans rfl; have hcz12_7 : w9.cell? ⟨gb434, 7, none⟩ = some (.int .i64 a0_7) := (blk_cell BK434.out 7).trans rfl; have hcz12_8 : w9.cell? ⟨gb434, 8, none⟩ = some (.int .i64 a0_8) := (blk_cell BK434.out 8).trans rfl; have hcz12_9 : w9.cell? ⟨gb434, 9, none⟩ = some (.int .i64 a0_9) := (blk_cell BK434.out 9).trans rfl; have hcz12_10 : w9.cell? ⟨gb434, 10, none⟩ = some (.int .i64 a0_10) := (blk_cell BK434.out 10).trans rfl; have hcz12_11 : w9.cell? ⟨gb434, 11, none⟩ = some (.int .i64 a0_11) := (blk_cell BK434.out 11).trans rfl; have hcz12_12 : w9.cell? ⟨gb434, 12, none⟩ = some (.slice A0_12 l0_12.length c0_12) := (blk_cell BK434.out 12).trans rfl; have hfz12_0 := blk_frozen BK434.out 0; have hfz12_1 := blk_frozen BK434.out 1; have hfz12_2 := blk_frozen BK434.out 2; have hfz12_3 := blk_frozen BK434.out 3; have hfz12_4 := blk_frozen BK434.out 4; have hfz12_5 := blk_frozen BK434.out 5; have hfz12_6 := blk_frozen BK434.out 6; have hfz12_7 := blk_frozen BK434.out 7; have hfz12_8 := blk_frozen BK434.out 8; have hfz12_9 := blk_frozen BK434.out 9; have hfz12_10 := blk_frozen BK434.out 10; have hfz12_11 := blk_frozen BK434.out 11; have hfz12_12 := blk_frozen BK434.out 12; have hnb13 := NB435_436.out; have hnc13 := NB436_435.out; have hcz14_0 : w9.cell? ⟨gb435, 0, none⟩ = some (.int .i64 a1_0) := (blk_cell BK435.out 0).trans rfl; have hcz14_1 : w9.cell? ⟨gb435, 1, none⟩ = some (.int .i64 a1_1) := (blk_cell BK435.out 1).trans rfl; have hcz14_2 : w9.cell? ⟨gb435, 2, none⟩ = some (.int .i64 a1_2) := (blk_cell BK435.out 2).trans rfl; have hcz14_3 : w9.cell? ⟨gb435, 3, none⟩ = some (.int .i64 a1_3) := (blk_cell BK435.out 3).trans rfl; have hcz14_4 : w9.cell? ⟨gb435, 4, none⟩ = some (.int .i64 a1_4) := (blk_cell BK435.out 4).trans rfl; have hcz14_5 : w9.cell? ⟨gb435, 5, none⟩ = some (.int .i64 a1_5) := (blk_cell BK435.out 5).trans rfl; have hcz14_6 : w9.cell? ⟨gb435, 6, none⟩ = some (.int .i64 a1_6) := (blk_cell BK435.out 6).trans rfl; have hcz14_7 : w9.cell? ⟨gb435, 7, none⟩ = some (.int .i64 a1_7) := (blk_cell BK435.out 7).trans rfl; have hcz14_8 : w9.cell? ⟨gb435, 8, none⟩ = some (.int .i64 a1_8) := (blk_cell BK435.out 8).trans rfl; have hcz14_9 : w9.cell? ⟨gb435, 9, none⟩ = some (.int .i64 a1_9) := (blk_cell BK435.out 9).trans rfl; have hcz14_10 : w9.cell? ⟨gb435, 10, none⟩ = some (.int .i64 a1_10) := (blk_cell BK435.out 10).trans rfl; have hcz14_11 : w9.cell? ⟨gb435, 11, none⟩ = some (.int .i64 a1_11) := (blk_cell BK435.out 11).trans rfl; have hcz14_12 : w9.cell? ⟨gb435, 12, none⟩ = some (.slice A1_12 l1_12.length c1_12) := (blk_cell BK435.out 12).trans rfl; have hfz14_0 := blk_frozen BK435.out 0; have hfz14_1 := blk_frozen BK435.out 1; have hfz14_2 := blk_frozen BK435.out 2; have hfz14_3 := blk_frozen BK435.out 3; have hfz14_4 := blk_frozen BK435.out 4; have hfz14_5 := blk_frozen BK435.out 5; have hfz14_6 := blk_frozen BK435.out 6; have hfz14_7 := blk_frozen BK435.out 7; have hfz14_8 := blk_frozen BK435.out 8; have hfz14_9 := blk_frozen BK435.out 9; have hfz14_10 := blk_frozen BK435.out 10; have hfz14_11 := blk_frozen BK435.out 11; have hfz14_12 := blk_frozen BK435.out 12) | ((with_reducible refine gate_dst (N := 5) rfl ?_); refine box_event ?hg (N := 5) ?hd (cs := #[.int .i64 0, .int .i64 0, .int .i64 0, .int .i64 0, .int .i64 0, .int .i64 0, .int .i64 0, .int .i64 0, .int .i64 0, .int .i64 0, .int .i64 0, .int .i64 0, .slice none 0 0]) (t := 28) ?hr ?_; (case hd => rfl); (case hg => rfl); (case hr => first | (go_simp; done) | (go_simp; rfl)); intro gb437 hg w15 hbox hb; have n0_ := Aside0.mk (blk_below (g := gb434) (o := .cells #[.int .i64 a0_0, .int .i64 a0_1, .int .i64 a0_2, .int .i64 a0_3, .int .i64 a0_4, .int .i64 a0_5, .int .i64 a0_6, .int .i64 a0_7, .int .i64 a0_8, .int .i64 a0_9, .int .i64 a0_10, .int .i64 a0_11, .slice A0_12 l0_12.length c0_12] 28 (0, 0)) (by (with_reducible repeat (first | refine blk_drewN ?_ _ | refine blk_drew ?_ | refine blk_alloc ?_ _)); exact BK434.out) hb); have n1_ := Aside0.mk (blk_below (g := gb435) (o := .cells #[.int .i64 a1_0, .int .i64 a1_1, .int .i64 a1_2, .int .i64 a1_3, .int .i64 a1_4, .int .i64 a1_5, .int .i64 a1_6, .int .i64 a1_7, .int .i64 a1_8, .int .i64 a1_9, .int .i64 a1_10, .int .i64 a1_11, .slice A1_12 l1_12.length c1_12] 28 (0, 0)) (by (with_reducible repeat (first | refine blk_drewN ?_ _ | refine blk_drew ?_ | refine blk_alloc ?_ _)); exact BK435.out) hb); have n2_ := Aside0.mk (blk_below (g := gb436) (o := .cells #[.int .i64 0, .int .i64 0, .int .i64 0, .int .i64 0, .int .i64 0, .int .i64 0, .int .i64 0, .int .i64 0, .int .i64 0, .int .i64 0, .int .i64 0, .int .i64 0, .slice none 0 0] 28 (0, 0)) (by (with_reducible repeat (first | refine blk_drewN ?_ _ | refine blk_drew ?_ | refine blk_alloc ?_ _)); exact BK436.out) hb); have n3_ := Aside0.mk (below_step (by repeat (first | (with_reducible first | exact HB.out | apply below_alloc | apply pw_below_drewN | apply below_drew1 | refine below_set ?_ GE434.out | refine below_set ?_ GE435.out | refine below_set ?_ GE436.out) | exact HB.out)) hb); have n4_ := Aside0.mk (hbox); have n5_ := Aside0.mk ((by rw [hg]; exact (below_size (by repeat (first | (with_reducible first | exact HB.out | apply below_alloc | apply pw_below_drewN | apply below_drew1 | refine below_set ?_ GE434.out | refine below_set ?_ GE435.out | refine below_set ?_ GE436.out) | exact HB.out))) : w.heap.size ≤ gb437)); have n6_ := Aside0.mk ((by rw [hg]; exact (below_size (by repeat (first | (with_reducible first | exact HB.out | apply below_alloc | apply pw_below_drewN | apply below_drew1 | refine below_set ?_ GE434.out | refine below_set ?_ GE435.out | refine below_set ?_ GE436.out) | exact HB.out))) : w.heap.size ≤ gb437)); have n7_ := Aside0.mk ((by rw [hg]; exact Nat.ne_of_lt (blk_lt (g := gb434) (o := .cells #[.int .i64 a0_0, .int .i64 a0_1, .int .i64 a0_2, .int .i64 a0_3, .int .i64 a0_4, .int .i64 a0_5, .int .i64 a0_6, .int .i64 a0_7, .int .i64 a0_8, .int .i64 a0_9, .int .i64 a0_10, .int .i64 a0_11, .slice A0_12 l0_12.length c0_12] 28 (0, 0)) (by (with_reducible repeat (first | refine blk_drewN ?_ _ | refine blk_drew ?_ | refine blk_alloc ?_ _)); exact BK434.out)) : gb434 ≠ gb437)); have n8_ := Aside0.mk ((by rw [hg]; exact Nat.ne_of_gt (blk_lt (g := gb434) (o := .cells #[.int .i64 a0_0, .int .i64 a0_1, .int .i64 a0_2, .int .i64 a0_3, .int .i64 a0_4, .int .i64 a0_5, .int .i64 a0_6, .int .i64 a0_7, .int .i64 a0_8, .int .i64 a0_9, .int .i64 a0_10, .int .i64 a0_11, .slice A0_12 l0_12.length c0_12] 28 (0, 0)) (by (with_reducible repeat (first | refine blk_drewN ?_ _ | refine blk_drew ?_ | refine blk_alloc ?_ _)); exact BK434.out)) : gb437 ≠ gb434)); have n9_ := Aside0.mk ((by rw [hg]; exact Nat.ne_of_lt (blk_lt (g := gb435) (o := .cells #[.int .i64 a1_0, .int .i64 a1_1, .int .i64 a1_2, .int .i64 a1_3, .int .i64 a1_4, .int .i64 a1_5, .int .i64 a1_6, .int .i64 a1_7, .int .i64 a1_8, .int .i64 a1_9, .int .i64 a1_10, .int .i64 a1_11, .slice A1_12 l1_12.length c1_12] 28 (0, 0)) (by (with_reducible repeat (first | refine blk_drewN ?_ _ | refine blk_drew ?_ | refine blk_alloc ?_ _)); exact BK435.out)) : gb435 ≠ gb437)); have n10_ := Aside0.mk ((by rw [hg]; exact Nat.ne_of_gt (blk_lt (g := gb435) (o := .cells #[.int .i64 a1_0, .int .i64 a1_1, .int .i64 a1_2, .int .i64 a1_3, .int .i64 a1_4, .int .i64 a1_5, .int .i64 a1_6, .int .i64 a1_7, .int .i64 a1_8, .int .i64 a1_9, .int .i64 a1_10, .int .i64 a1_11, .slice A1_12 l1_12.length c1_12] 28 (0, 0)) (by (with_reducible repeat (first | refine blk_drewN ?_ _ | refine blk_drew ?_ | refine blk_alloc ?_ _)); exact BK435.out)) : gb437 ≠ gb435)); have n11_ := Aside0.mk ((by rw [hg]; exact Nat.ne_of_lt (blk_lt (g := gb436) (o := .cells #[.int .i64 0, .int .i64 0, .int .i64 0, .int .i64 0, .int .i64 0, .int .i64 0, .int .i64 0, .int .i64 0, .int .i64 0, .int .i64 0, .int .i64 0, .int .i64 0, .slice none 0 0] 28 (0, 0)) (by (with_reducible repeat (first | refine blk_drewN ?_ _ | refine blk_drew ?_ | refine blk_alloc ?_ _)); exact BK436.out)) : gb436 ≠ gb437)); have n12_ := Aside0.mk ((by rw [hg]; exact Nat.ne_of_gt (blk_lt (g := gb436) (o := .cells #[.int .i64 0, .int .i64 0, .int .i64 0, .int .i64 0, .int .i64 0, .int .i64 0, .int .i64 0, .int .i64 0, .int .i64 0, .int .i64 0, .int .i64 0, .int .i64 0, .slice none 0 0] 28 (0, 0)) (by (with_reducible repeat (first | refine blk_drewN ?_ _ | refine blk_drew ?_ | refine blk_alloc ?_ _)); exact BK436.out)) : gb437 ≠ gb436)); clear BK434; clear BK435; clear BK436; clear HB; have BK434 := n0_; have BK435 := n1_; have BK436 := n2_; have HB := n3_; have BK437 := n4_; have GW437 := n5_; have GE437 := n6_; have NB434_437 := n7_; have NB437_434 := n8_; have NB435_437 := n9_; have NB437_435 := n10_; have NB436_437 := n11_; have NB437_436 := n12_; clear n0_ n1_ n2_ n3_ n4_ n5_ n6_ n7_ n8_ n9_ n10_ n11_ n12_; clear hb hbox hg; have hnb16 := NB437_434.out; have hnc16 := NB434_437.out; have hnb17 := NB437_435.out; have hnc17 := NB435_437.out; have hnb18 := NB437_436.out; have hnc18 := NB436_437.out; have hcz19_0 : w15.cell? ⟨gb437, 0, none⟩ = some (.int .i64 0) := (blk_cell BK437.out 0).trans rfl; have hcz19_1 : w15.cell? ⟨gb437, 1, none⟩ = some (.int .i64 0) := (blk_cell BK437.out 1).trans rfl; have hcz19_2 : w15.cell? ⟨gb437, 2, none⟩ = some (.int .i64 0) := (blk_cell BK437.out 2).trans rfl; have hcz19_3 : w15.cell? ⟨gb437, 3, none⟩ = some (.int .i64 0) := (blk_cell BK437.out 3).trans rfl; have hcz19_4 : w15.cell? ⟨gb437, 4, none⟩ = some (.int .i64 0) := (blk_cell BK437.out 4).trans rfl; have hcz19_5 : w15.cell? ⟨gb437, 5, none⟩ = some (.int .i64 0) := (blk_cell BK437.out 5).trans rfl; have hcz19_6 : w15.cell? ⟨gb437, 6, none⟩ = some (.int .i64 0) := (blk_cell BK437.out 6).trans rfl; have hcz19_7 : w15.cell? ⟨gb437, 7, none⟩ = some (.int .i64 0) := (blk_cell BK437.out 7).trans rfl; have hcz19_8 : w15.cell? ⟨gb437, 8, none⟩ = some (.int .i64 0) := (blk_cell BK437.out 8).trans rfl; have hcz19_9 : w15.cell? ⟨gb437, 9, none⟩ = some (.int .i64 0) := (blk_cell BK437.out 9).trans rfl; have hcz19_10 : w15.cell? ⟨gb437, 10, none⟩ = some (.int .i64 0) := (blk_cell BK437.out 10).trans rfl; have hcz19_11 : w15.cell? ⟨gb437, 11, none⟩ = some (.int .i64 0) := (blk_cell BK437.out 11).trans rfl; have hcz19_12 : w15.cell? ⟨gb437, 12, none⟩ = some (.slice none 0 0) := (blk_cell BK437.out 12).trans rfl; have hfz19_0 := blk_frozen BK437.out 0; have hfz19_1 := blk_frozen BK437.out 1; have hfz19_2 := blk_frozen BK437.out 2; have hfz19_3 := blk_frozen BK437.out 3; have hfz19_4 := blk_frozen BK437.out 4; have hfz19_5 := blk_frozen BK437.out 5; have hfz19_6 := blk_frozen BK437.out 6; have hfz19_7 := blk_frozen BK437.out 7; have hfz19_8 := blk_frozen BK437.out 8; have hfz19_9 := blk_frozen BK437.out 9; have hfz19_10 := blk_frozen BK437.out 10; have hfz19_11 := blk_frozen BK437.out 11; have hfz19_12 := blk_frozen BK437.out 12; have hcz20_0 : w15.cell? ⟨gb435, 0, none⟩ = some (.int .i64 a1_0) := (blk_cell BK435.out 0).trans rfl; have hcz20_1 : w15.cell? ⟨gb435, 1, none⟩ = some (.int .i64 a1_1) := (blk_cell BK435.out 1).trans rfl; have hcz20_2 : w15.cell? ⟨gb435, 2, none⟩ = some (.int .i64 a1_2) := (blk_cell BK435.out 2).trans rfl; have hcz20_3 : w15.cell? ⟨gb435, 3, none⟩ = some (.int .i64 a1_3) := (blk_cell BK435.out 3).trans rfl; have hcz20_4 : w15.cell? ⟨gb435, 4, none⟩ = some (.int .i64 a1_4) := (blk_cell BK435.out 4).trans rfl; have hcz20_5 : w15.cell? ⟨gb435, 5, none⟩ = some (.int .i64 a1_5) := (blk_cell BK435.out 5).trans rfl; have hcz20_6 : w15.cell? ⟨gb435, 6, none⟩ = some (.int .i64 a1_6) := (blk_cell BK435.out 6).trans rfl; have hcz20_7 : w15.cell? ⟨gb435, 7, none⟩ = some (.int .i64 a1_7) := (blk_cell BK435.out 7).trans rfl; have hcz20_8 : w15.cell? ⟨gb435, 8, none⟩ = some (.int .i64 a1_8) := (blk_cell BK435.out 8).trans rfl; have hcz20_9 : w15.cell? ⟨gb435, 9, none⟩ = some (.int .i64 a1_9) := (blk_cell BK435.out 9).trans rfl; have hcz20_10 : w15.cell? ⟨gb435, 10, none⟩ = some (.int .i64 a1_10) := (blk_cell BK435.out 10).trans rfl; have hcz20_11 : w15.cell? ⟨gb435, 11, none⟩ = some (.int .i64 a1_11) := (blk_cell BK435.out 11).trans rfl; have hcz20_12 : w15.cell? ⟨gb435, 12, none⟩ = some (.slice A1_12 l1_12.length c1_12) := (blk_cell BK435.out 12).trans rfl; have hfz20_0 := blk_frozen BK435.out 0; have hfz20_1 := blk_frozen BK435.out 1; have hfz20_2 := blk_frozen BK435.out 2; have hfz20_3 := blk_frozen BK435.out 3; have hfz20_4 := blk_frozen BK435.out 4; have hfz20_5 := blk_frozen BK435.out 5; have hfz20_6 := blk_frozen BK435.out 6; have hfz20_7 := blk_frozen BK435.out 7; have hfz20_8 := blk_frozen BK435.out 8; have hfz20_9 := blk_frozen BK435.out 9; have hfz20_10 := blk_frozen BK435.out 10; have hfz20_11 := blk_frozen BK435.out 11; have hfz20_12 := blk_frozen BK435.out 12; have hcz21_0 : w15.cell? ⟨gb434, 0, none⟩ = some (.int .i64 a0_0) := (blk_cell BK434.out 0).trans rfl; have hcz21_1 : w15.cell? ⟨gb434, 1, none⟩ = some (.int .i64 a0_1) := (blk_cell BK434.out 1).trans rfl; have hcz21_2 : w15.cell? ⟨gb434, 2, none⟩ = some (.int .i64 a0_2) := (blk_cell BK434.out 2).trans rfl; have hcz21_3 : w15.cell? ⟨gb434, 3, none⟩ = some (.int .i64 a0_3) := (blk_cell BK434.out 3).trans rfl; have hcz21_4 : w15.cell? ⟨gb434, 4, none⟩ = some (.int .i64 a0_4) := (blk_cell BK434.out 4).trans rfl; have hcz21_5 : w15.cell? ⟨gb434, 5, none⟩ = some (.int .i64 a0_5) := (blk_cell BK434.out 5).trans rfl; have hcz21_6 : w15.cell? ⟨gb434, 6, none⟩ = some (.int .i64 a0_6) := (blk_cell BK434.out 6).trans rfl; have hcz21_7 : w15.cell? ⟨gb434, 7, none⟩ = some (.int .i64 a0_7) := (blk_cell BK434.out 7).trans rfl; have hcz21_8 : w15.cell? ⟨gb434, 8, none⟩ = some (.int .i64 a0_8) := (blk_cell BK434.out 8).trans rfl; have hcz21_9 : w15.cell? ⟨gb434, 9, none⟩ = some (.int .i64 a0_9) := (blk_cell BK434.out 9).trans rfl; have hcz21_10 : w15.cell? ⟨gb434, 10, none⟩ = some (.int .i64 a0_10) := (blk_cell BK434.out 10).trans rfl; have hcz21_11 : w15.cell? ⟨gb434, 11, none⟩ = some (.int .i64 a0_11) := (blk_cell BK434.out 11).trans rfl; have hcz21_12 : w15.cell? ⟨gb434, 12, none⟩ = some (.slice A0_12 l0_12.length c0_12) := (blk_cell BK434.out 12).trans rfl; have hfz21_0 := blk_frozen BK434.out 0; have hfz21_1 := blk_frozen BK434.out 1; have hfz21_2 := blk_frozen BK434.out 2; have hfz21_3 := blk_frozen BK434.out 3; have hfz21_4 := blk_frozen BK434.out 4; have hfz21_5 := blk_frozen BK434.out 5; have hfz21_6 := blk_frozen BK434.out 6; have hfz21_7 := blk_frozen BK434.out 7; have hfz21_8 := blk_frozen BK434.out 8; have hfz21_9 := blk_frozen BK434.out 9; have hfz21_10 := blk_frozen BK434.out 10; have hfz21_11 := blk_frozen BK434.out 11; have hfz21_12 := blk_frozen BK434.out 12) | ((with_reducible refine gate_callee (f := 59) rfl ?_); refine goesL_ (some 36) rfl rfl Try.func59 (by kernel_rfl) rfl #[.agg #[.int .i64 a1_4, .int .i64 a1_5, .int .i64 a1_6, .int .i64 a1_7], .agg #[.int .i64 a0_4, .int .i64 a0_5, .int .i64 a0_6, .int .i64 a0_7]] rfl (by (try simp only [List.map_toArray, List.map_cons, List.map_nil]); first | done | rfl | (simp only [List.length_drop, List.length_take]; rfl)) ?_; (with_reducible refine (bourneref1_Before.calls a1_4 a1_5 a1_6 a1_7 a0_4 a0_5 a0_6 a0_7 t438 _ A5.out).mono ?_); rintro e w22 ⟨rfl, hb⟩; refine ⟨_, rfl, ?_⟩; have n0_ := Aside0.mk (blk_below (g := gb434) (o := .cells #[.int .i64 a0_0, .int .i64 a0_1, .int .i64 a0_2, .int .i64 a0_3, .int .i64 a0_4, .int .i64 a0_5, .int .i64 a0_6, .int .i64 a0_7, .int .i64 a0_8, .int .i64 a0_9, .int .i64 a0_10, .int .i64 a0_11, .slice A0_12 l0_12.length c0_12] 28 (0, 0)) (by (with_reducible repeat (first | refine blk_drewN ?_ _ | refine blk_drew ?_ | refine blk_alloc ?_ _)); refine blk_far ?_ NB434_437.out _; (with_reducible repeat (first | refine blk_drewN ?_ _ | refine blk_drew ?_ | refine blk_alloc ?_ _)); refine blk_far ?_ NB434_437.out _; (with_reducible repeat (first | refine blk_drewN ?_ _ | refine blk_drew ?_ | refine blk_alloc ?_ _)); refine blk_far ?_ NB434_437.out _; (with_reducible repeat (first | refine blk_drewN ?_ _ | refine blk_drew ?_ | refine blk_alloc ?_ _)); refine blk_far ?_ NB434_437.out _; (with_reducible repeat (first | refine blk_drewN ?_ _ | refine blk_drew ?_ | refine blk_alloc ?_ _)); refine blk_far ?_ NB434_437.out _; (with_reducible repeat (first | refine blk_drewN ?_ _ | refine blk_drew ?_ | refine blk_alloc ?_ _)); refine blk_far ?_ NB434_437.out _; (with_reducible repeat (first | refine blk_drewN ?_ _ | refine blk_drew ?_ | refine blk_alloc ?_ _)); refine blk_far ?_ NB434_437.out _; (with_reducible repeat (first | refine blk_drewN ?_ _ | refine blk_drew ?_ | refine blk_alloc ?_ _)); refine blk_far ?_ NB434_437.out _; (with_reducible repeat (first | refine blk_drewN ?_ _ | refine blk_drew ?_ | refine blk_alloc ?_ _)); refine blk_far ?_ NB434_437.out _; (with_reducible repeat (first | refine blk_drewN ?_ _ | refine blk_drew ?_ | refine blk_alloc ?_ _)); refine blk_far ?_ NB434_437.out _; (with_reducible repeat (first | refine blk_drewN ?_ _ | refine blk_drew ?_ | refine blk_alloc ?_ _)); refine blk_far ?_ NB434_437.out _; (with_reducible repeat (first | refine blk_drewN ?_ _ | refine blk_drew ?_ | refine blk_alloc ?_ _)); refine blk_far ?_ NB434_437.out _; (with_reducible repeat (first | refine blk_drewN ?_ _ | refine blk_drew ?_ | refine blk_alloc ?_ _)); refine blk_far ?_ NB434_437.out _; (with_reducible repeat (first | refine blk_drewN ?_ _ | refine blk_drew ?_ | refine blk_alloc ?_ _)); exact BK434.out) hb); have n1_ := Aside0.mk (blk_below (g := gb435) (o := .cells #[.int .i64 a1_0, .int .i64 a1_1, .int .i64 a1_2, .int .i64 a1_3, .int .i64 a1_4, .int .i64 a1_5, .int .i64 a1_6, .int .i64 a1_7, .int .i64 a1_8, .int .i64 a1_9, .int .i64 a1_10, .int .i64 a1_11, .slice A1_12 l1_12.length c1_12] 28 (0, 0)) (by (with_reducible repeat (first | refine blk_drewN ?_ _ | refine blk_drew ?_ | refine blk_alloc ?_ _)); refine blk_far ?_ NB435_437.out _; (with_reducible repeat (first | refine blk_drewN ?_ _ | refine blk_drew ?_ | refine blk_alloc ?_ _)); refine blk_far ?_ NB435_437.out _; (with_reducible repeat (first | refine blk_drewN ?_ _ | refine blk_drew ?_ | refine blk_alloc ?_ _)); refine blk_far ?_ NB435_437.out _; (with_reducible repeat (first | refine blk_drewN ?_ _ | refine blk_drew ?_ | refine blk_alloc ?_ _)); refine blk_far ?_ NB435_437.out _; (with_reducible repeat (first | refine blk_drewN ?_ _ | refine blk_drew ?_ | refine blk_alloc ?_ _)); refine blk_far ?_ NB435_437.out _; (with_reducible repeat (first | refine blk_drewN ?_ _ | refine blk_drew ?_ | refine blk_alloc ?_ _)); refine blk_far ?_ NB435_437.out _; (with_reducible repeat (first | refine blk_drewN ?_ _ | refine blk_drew ?_ | refine blk_alloc ?_ _)); refine blk_far ?_ NB435_437.out _; (with_reducible repeat (first | refine blk_drewN ?_ _ | refine blk_drew ?_ | refine blk_alloc ?_ _)); refine blk_far ?_ NB435_437.out _; (with_reducible repeat (first | refine blk_drewN ?_ _ | refine blk_drew ?_ | refine blk_alloc ?_ _)); refine blk_far ?_ NB435_437.out _; (with_reducible repeat (first | refine blk_drewN ?_ _ | refine blk_drew ?_ | refine blk_alloc ?_ _)); refine blk_far ?_ NB435_437.out _; (with_reducible repeat (first | refine blk_drewN ?_ _ | refine blk_drew ?_ | refine blk_alloc ?_ _)); refine blk_far ?_ NB435_437.out _; (with_reducible repeat (first | refine blk_drewN ?_ _ | refine blk_drew ?_ | refine blk_alloc ?_ _)); refine blk_far ?_ NB435_437.out _; (with_reducible repeat (first | refine blk_drewN ?_ _ | refine blk_drew ?_ | refine blk_alloc ?_ _)); refine blk_far ?_ NB435_437.out _; (with_reducible repeat (first | refine blk_drewN ?_ _ | refine blk_drew ?_ | refine blk_alloc ?_ _)); exact BK435.out) hb); have n2_ := Aside0.mk (blk_below (g := gb436) (o := .cells #[.int .i64 0, .int .i64 0, .int .i64 0, .int .i64 0, .int .i64 0, .int .i64 0, .int .i64 0, .int .i64 0, .int .i64 0, .int .i64 0, .int .i64 0, .int .i64 0, .slice none 0 0] 28 (0, 0)) (by (with_reducible repeat (first | refine blk_drewN ?_ _ | refine blk_drew ?_ | refine blk_alloc ?_ _)); refine blk_far ?_ NB436_437.out _; (with_reducible repeat (first | refine blk_drewN ?_ _ | refine blk_drew ?_ | refine blk_alloc ?_ _)); refine blk_far ?_ NB436_437.out _; (with_reducible repeat (first | refine blk_drewN ?_ _ | refine blk_drew ?_ | refine blk_alloc ?_ _)); refine blk_far ?_ NB436_437.out _; (with_reducible repeat (first | refine blk_drewN ?_ _ | refine blk_drew ?_ | refine blk_alloc ?_ _)); refine blk_far ?_ NB436_437.out _; (with_reducible repeat (first | refine blk_drewN ?_ _ | refine blk_drew ?_ | refine blk_alloc ?_ _)); refine blk_far ?_ NB436_437.out _; (with_reducible repeat (first | refine blk_drewN ?_ _ | refine blk_drew ?_ | refine blk_alloc ?_ _)); refine blk_far ?_ NB436_437.out _; (with_reducible repeat (first | refine blk_drewN ?_ _ | refine blk_drew ?_ | refine blk_alloc ?_ _)); refine blk_far ?_ NB436_437.out _; (with_reducible repeat (first | refine blk_drewN ?_ _ | refine blk_drew ?_ | refine blk_alloc ?_ _)); refine blk_far ?_ NB436_437.out _; (with_reducible repeat (first | refine blk_drewN ?_ _ | refine blk_drew ?_ | refine blk_alloc ?_ _)); refine blk_far ?_ NB436_437.out _; (with_reducible repeat (first | refine blk_drewN ?_ _ | refine blk_drew ?_ | refine blk_alloc ?_ _)); refine blk_far ?_ NB436_437.out _; (with_reducible repeat (first | refine blk_drewN ?_ _ | refine blk_drew ?_ | refine blk_alloc ?_ _)); refine blk_far ?_ NB436_437.out _; (with_reducible repeat (first | refine blk_drewN ?_ _ | refine blk_drew ?_ | refine blk_alloc ?_ _)); refine blk_far ?_ NB436_437.out _; (with_reducible repeat (first | refine blk_drewN ?_ _ | refine blk_drew ?_ | refine blk_alloc ?_ _)); refine blk_far ?_ NB436_437.out _; (with_reducible repeat (first | refine blk_drewN ?_ _ | refine blk_drew ?_ | refine blk_alloc ?_ _)); exact BK436.out) hb); have n3_ := Aside0.mk (blk_below (g := gb437) (o := .cells #[.int .i64 (wrap64 (a0_0 + a1_0)), .int .i64 (wrap64 (a0_1 + a1_1)), .int .i64 ji3, .int .i64 ji4, .int .i64 a0_4, .int .i64 a0_5, .int .i64 a0_6, .int .i64 a0_7, .int .i64 a1_8, .int .i64 a1_9, .int .i64 a1_10, .int .i64 a1_11, .slice none 0 0] 28 (0, 0)) (by (with_reducible repeat (first | refine blk_drewN ?_ _ | refine blk_drew ?_ | refine blk_alloc ?_ _)); refine blk_put (cs := #[.int .i64 (wrap64 (a0_0 + a1_0)), .int .i64 (wrap64 (a0_1 + a1_1)), .int .i64 ji3, .int .i64 ji4, .int .i64 a0_4, .int .i64 a0_5, .int .i64 a0_6, .int .i64 a0_7, .int .i64 a1_8, .int .i64 a1_9, .int .i64 a1_10, .int .i64 a1_11, .slice none 0 0]) ?_ 12 _ rfl; (with_reducible repeat (first | refine blk_drewN ?_ _ | refine blk_drew ?_ | refine blk_alloc ?_ _)); refine blk_put (cs := #[.int .i64 (wrap64 (a0_0 + a1_0)), .int .i64 (wrap64 (a0_1 + a1_1)), .int .i64 ji3, .int .i64 ji4, .int .i64 a0_4, .int .i64 a0_5, .int .i64 a0_6, .int .i64 a0_7, .int .i64 a1_8, .int .i64 a1_9, .int .i64 a1_10, .int .i64 0, .slice none 0 0]) ?_ 11 _ rfl; (with_reducible repeat (first | refine blk_drewN ?_ _ | refine blk_drew ?_ | refine blk_alloc ?_ _)); refine blk_put (cs := #[.int .i64 (wrap64 (a0_0 + a1_0)), .int .i64 (wrap64 (a0_1 + a1_1)), .int .i64 ji3, .int .i64 ji4, .int .i64 a0_4, .int .i64 a0_5, .int .i64 a0_6, .int .i64 a0_7, .int .i64 a1_8, .int .i64 a1_9, .int .i64 0, .int .i64 0, .slice none 0 0]) ?_ 10 _ rfl; (with_reducible repeat (first | refine blk_drewN ?_ _ | refine blk_drew ?_ | refine blk_alloc ?_ _)); refine blk_put (cs := #[.int .i64 (wrap64 (a0_0 + a1_0)), .int .i64 (wrap64 (a0_1 + a1_1)), .int .i64 ji3, .int .i64 ji4, .int .i64 a0_4, .int .i64 a0_5, .int .i64 a0_6, .int .i64 a0_7, .int .i64 a1_8, .int .i64 0, .int .i64 0, .int .i64 0, .slice none 0 0]) ?_ 9 _ rfl; (with_reducible repeat (first | refine blk_drewN ?_ _ | refine blk_drew ?_ | refine blk_alloc ?_ _)); refine blk_put (cs := #[.int .i64 (wrap64 (a0_0 + a1_0)), .int .i64 (wrap64 (a0_1 + a1_1)), .int .i64 ji3, .int .i64 ji4, .int .i64 a0_4, .int .i64 a0_5, .int .i64 a0_6, .int .i64 a0_7, .int .i64 0, .int .i64 0, .int .i64 0, .int .i64 0, .slice none 0 0]) ?_ 8 _ rfl; (with_reducible repeat (first | refine blk_drewN ?_ _ | refine blk_drew ?_ | refine blk_alloc ?_ _)); refine blk_put (cs := #[.int .i64 (wrap64 (a0_0 + a1_0)), .int .i64 (wrap64 (a0_1 + a1_1)), .int .i64 ji3, .int .i64 ji4, .int .i64 a0_4, .int .i64 a0_5, .int .i64 a0_6, .int .i64 0, .int .i64 0, .int .i64 0, .int .i64 0, .int .i64 0, .slice none 0 0]) ?_ 7 _ rfl; (with_reducible repeat (first | refine blk_drewN ?_ _ | refine blk_drew ?_ | refine blk_alloc ?_ _)); refine blk_put (cs := #[.int .i64 (wrap64 (a0_0 + a1_0)), .int .i64 (wrap64 (a0_1 + a1_1)), .int .i64 ji3, .int .i64 ji4, .int .i64 a0_4, .int .i64 a0_5, .int .i64 0, .int .i64 0, .int .i64 0, .int .i64 0, .int .i64 0, .int .i64 0, .slice none 0 0]) ?_ 6 _ rfl; (with_reducible repeat (first | refine blk_drewN ?_ _ | refine blk_drew ?_ | refine blk_alloc ?_ _)); refine blk_put (cs := #[.int .i64 (wrap64 (a0_0 + a1_0)), .int .i64 (wrap64 (a0_1 + a1_1)), .int .i64 ji3, .int .i64 ji4, .int .i64 a0_4, .int .i64 0, .int .i64 0, .int .i64 0, .int .i64 0, .int .i64 0, .int .i64 0, .int .i64 0, .slice none 0 0]) ?_ 5 _ rfl; (with_reducible repeat (first | refine blk_drewN ?_ _ | refine blk_drew ?_ | refine blk_alloc ?_ _)); refine blk_put (cs := #[.int .i64 (wrap64 (a0_0 + a1_0)), .int .i64 (wrap64 (a0_1 + a1_1)), .int .i64 ji3, .int .i64 ji4, .int .i64 0, .int .i64 0, .int .i64 0, .int .i64 0, .int .i64 0, .int .i64 0, .int .i64 0, .int .i64 0, .slice none 0 0]) ?_ 4 _ rfl; (with_reducible repeat (first | refine blk_drewN ?_ _ | refine blk_drew ?_ | refine blk_alloc ?_ _)); refine blk_put (cs := #[.int .i64 (wrap64 (a0_0 + a1_0)), .int .i64 (wrap64 (a0_1 + a1_1)), .int .i64 ji3, .int .i64 0, .int .i64 0, .int .i64 0, .int .i64 0, .int .i64 0, .int .i64 0, .int .i64 0, .int .i64 0, .int .i64 0, .slice none 0 0]) ?_ 3 _ rfl; (with_reducible repeat (first | refine blk_drewN ?_ _ | refine blk_drew ?_ | refine blk_alloc ?_ _)); refine blk_put (cs := #[.int .i64 (wrap64 (a0_0 + a1_0)), .int .i64 (wrap64 (a0_1 + a1_1)), .int .i64 0, .int .i64 0, .int .i64 0, .int .i64 0, .int .i64 0, .int .i64 0, .int .i64 0, .int .i64 0, .int .i64 0, .int .i64 0, .slice none 0 0]) ?_ 2 _ rfl; (with_reducible repeat (first | refine blk_drewN ?_ _ | refine blk_drew ?_ | refine blk_alloc ?_ _)); refine blk_put (cs := #[.int .i64 (wrap64 (a0_0 + a1_0)), .int .i64 0, .int .i64 0, .int .i64 0, .int .i64 0, .int .i64 0, .int .i64 0, .int .i64 0, .int .i64 0, .int .i64 0, .int .i64 0, .int .i64 0, .slice none 0 0]) ?_ 1 _ rfl; (with_reducible repeat (first | refine blk_drewN ?_ _ | refine blk_drew ?_ | refine blk_alloc ?_ _)); refine blk_put (cs := #[.int .i64 0, .int .i64 0, .int .i64 0, .int .i64 0, .int .i64 0, .int .i64 0, .int .i64 0, .int .i64 0, .int .i64 0, .int .i64 0, .int .i64 0, .int .i64 0, .slice none 0 0]) ?_ 0 _ rfl; (with_reducible repeat (first | refine blk_drewN ?_ _ | refine blk_drew ?_ | refine blk_alloc ?_ _)); exact BK437.out) hb); have n4_ := Aside0.mk (below_step (by repeat (first | (with_reducible first | exact HB.out | apply below_alloc | apply pw_below_drewN | apply below_drew1 | refine below_set ?_ GE434.out | refine below_set ?_ GE435.out | refine below_set ?_ GE436.out | refine below_set ?_ GE437.out) | exact HB.out)) hb); clear BK434; clear BK435; clear BK436; clear BK437; clear HB; have BK434 := n0_; have BK435 := n1_; have BK436 := n2_; have BK437 := n3_; have HB := n4_; clear n0_ n1_ n2_ n3_ n4_; (try clear hb); (try clear hb2); (try clear hk); (try clear hi)))
  (try simp only [Act.put, List.setIfInBounds_toArray, List.set_cons_zero, List.set_cons_succ])
  go_cut [] (fun wc => ∃ (kq : Nat) (x438004_5 : Int) (x438005_5 : Int) (x438006_5 : Int) (x438007_5 : Int), Aside0 (bourneref1_two.j0 kq a0_0 a0_1 a0_2 a0_3 a0_4 a0_5 a0_6 a0_7 a0_8 a0_9 a0_10 a0_11 l0_12 a1_0 a1_1 a1_2 a1_3 a1_4 a1_5 a1_6 a1_7 a1_8 a1_9 a1_10 a1_11 l1_12 (wrap64 (a0_0 + a1_0)) (wrap64 (a0_1 + a1_1)) ji3 ji4 x438004_5 x438005_5 x438006_5 x438007_5 a1_8 a1_9 a1_10 a1_11 = some (r1, r2, r3, r4, r5, r6, r7, r8, r9, r10, r11, r12, r13)) ∧ Aside0 (kq ≤ k) ∧ Aside0 (wc.heap[gb434]? = some (.cells #[.int .i64 a0_0, .int .i64 a0_1, .int .i64 a0_2, .int .i64 a0_3, .int .i64 a0_4, .int .i64 a0_5, .int .i64 a0_6, .int .i64 a0_7, .int .i64 a0_8, .int .i64 a0_9, .int .i64 a0_10, .int .i64 a0_11, (.slice A0_12 l0_12.length c0_12)] 28 (0, 0))) ∧ Aside0 (wc.heap[gb435]? = some (.cells #[.int .i64 a1_0, .int .i64 a1_1, .int .i64 a1_2, .int .i64 a1_3, .int .i64 a1_4, .int .i64 a1_5, .int .i64 a1_6, .int .i64 a1_7, .int .i64 a1_8, .int .i64 a1_9, .int .i64 a1_10, .int .i64 a1_11, (.slice A1_12 l1_12.length c1_12)] 28 (0, 0))) ∧ Aside0 (wc.heap[gb436]? = some (.cells #[.int .i64 0, .int .i64 0, .int .i64 0, .int .i64 0, .int .i64 0, .int .i64 0, .int .i64 0, .int .i64 0, .int .i64 0, .int .i64 0, .int .i64 0, .int .i64 0, (.slice none 0 0)] 28 (0, 0))) ∧ Aside0 (wc.heap[gb437]? = some (.cells #[.int .i64 (wrap64 (a0_0 + a1_0)), .int .i64 (wrap64 (a0_1 + a1_1)), .int .i64 ji3, .int .i64 ji4, .int .i64 x438004_5, .int .i64 x438005_5, .int .i64 x438006_5, .int .i64 x438007_5, .int .i64 a1_8, .int .i64 a1_9, .int .i64 a1_10, .int .i64 a1_11, (.slice none 0 0)] 28 (0, 0))) ∧ Aside0 (Below w.heap.size w wc))
  case first =>
    have H := HC6.out
    clear HC6
    by_cases c23 : t438 = true
    · subst c23
      have H1 : (bourneref1_two.j0 k a0_0 a0_1 a0_2 a0_3 a0_4 a0_5 a0_6 a0_7 a0_8 a0_9 a0_10 a0_11 l0_12 a1_0 a1_1 a1_2 a1_3 a1_4 a1_5 a1_6 a1_7 a1_8 a1_9 a1_10 a1_11 l1_12 (wrap64 (a0_0 + a1_0)) (wrap64 (a0_1 + a1_1)) ji3 ji4 a1_4 a1_5 a1_6 a1_7 a1_8 a1_9 a1_10 a1_11) = some (r1, r2, r3, r4, r5, r6, r7, r8, r9, r10, r11, r12, r13) := by rw [if_pos rfl] at H; exact H
      clear H
      have H := H1
      clear H1
      have H' := Aside0.mk H
      clear H
      have hnb24 := NB435_434.out
      have hnc24 := NB434_435.out
      have hnb25 := NB435_436.out
      have hnc25 := NB436_435.out
      have hnb26 := NB435_437.out
      have hnc26 := NB437_435.out
      have hcz27_0 : w22.cell? ⟨gb435, 0, none⟩ = some (.int .i64 a1_0) := (blk_cell BK435.out 0).trans rfl
      have hcz27_1 : w22.cell? ⟨gb435, 1, none⟩ = some (.int .i64 a1_1) := (blk_cell BK435.out 1).trans rfl
      have hcz27_2 : w22.cell? ⟨gb435, 2, none⟩ = some (.int .i64 a1_2) := (blk_cell BK435.out 2).trans rfl
      have hcz27_3 : w22.cell? ⟨gb435, 3, none⟩ = some (.int .i64 a1_3) := (blk_cell BK435.out 3).trans rfl
      have hcz27_4 : w22.cell? ⟨gb435, 4, none⟩ = some (.int .i64 a1_4) := (blk_cell BK435.out 4).trans rfl
      have hcz27_5 : w22.cell? ⟨gb435, 5, none⟩ = some (.int .i64 a1_5) := (blk_cell BK435.out 5).trans rfl
      have hcz27_6 : w22.cell? ⟨gb435, 6, none⟩ = some (.int .i64 a1_6) := (blk_cell BK435.out 6).trans rfl
      have hcz27_7 : w22.cell? ⟨gb435, 7, none⟩ = some (.int .i64 a1_7) := (blk_cell BK435.out 7).trans rfl
      have hcz27_8 : w22.cell? ⟨gb435, 8, none⟩ = some (.int .i64 a1_8) := (blk_cell BK435.out 8).trans rfl
      have hcz27_9 : w22.cell? ⟨gb435, 9, none⟩ = some (.int .i64 a1_9) := (blk_cell BK435.out 9).trans rfl
      have hcz27_10 : w22.cell? ⟨gb435, 10, none⟩ = some (.int .i64 a1_10) := (blk_cell BK435.out 10).trans rfl
      have hcz27_11 : w22.cell? ⟨gb435, 11, none⟩ = some (.int .i64 a1_11) := (blk_cell BK435.out 11).trans rfl
      have hcz27_12 : w22.cell? ⟨gb435, 12, none⟩ = some (.slice A1_12 l1_12.length c1_12) := (blk_cell BK435.out 12).trans rfl
      have hfz27_0 := blk_frozen BK435.out 0
      have hfz27_1 := blk_frozen BK435.out 1
      have hfz27_2 := blk_frozen BK435.out 2
      have hfz27_3 := blk_frozen BK435.out 3
      have hfz27_4 := blk_frozen BK435.out 4
      have hfz27_5 := blk_frozen BK435.out 5
      have hfz27_6 := blk_frozen BK435.out 6
      have hfz27_7 := blk_frozen BK435.out 7
      have hfz27_8 := blk_frozen BK435.out 8
      have hfz27_9 := blk_frozen BK435.out 9
      have hfz27_10 := blk_frozen BK435.out 10
      have hfz27_11 := blk_frozen BK435.out 11
      have hfz27_12 := blk_frozen BK435.out 12
      have hnb28 := NB437_434.out
      have hnc28 := NB434_437.out
      have hnb29 := NB437_436.out
      have hnc29 := NB436_437.out
      have hcz30_0 : w22.cell? ⟨gb437, 0, none⟩ = some (.int .i64 (wrap64 (a0_0 + a1_0))) := (blk_cell BK437.out 0).trans rfl
      have hcz30_1 : w22.cell? ⟨gb437, 1, none⟩ = some (.int .i64 (wrap64 (a0_1 + a1_1))) := (blk_cell BK437.out 1).trans rfl
      have hcz30_2 : w22.cell? ⟨gb437, 2, none⟩ = some (.int .i64 ji3) := (blk_cell BK437.out 2).trans rfl
      have hcz30_3 : w22.cell? ⟨gb437, 3, none⟩ = some (.int .i64 ji4) := (blk_cell BK437.out 3).trans rfl
      have hcz30_4 : w22.cell? ⟨gb437, 4, none⟩ = some (.int .i64 a0_4) := (blk_cell BK437.out 4).trans rfl
      have hcz30_5 : w22.cell? ⟨gb437, 5, none⟩ = some (.int .i64 a0_5) := (blk_cell BK437.out 5).trans rfl
      have hcz30_6 : w22.cell? ⟨gb437, 6, none⟩ = some (.int .i64 a0_6) := (blk_cell BK437.out 6).trans rfl
      have hcz30_7 : w22.cell? ⟨gb437, 7, none⟩ = some (.int .i64 a0_7) := (blk_cell BK437.out 7).trans rfl
      have hcz30_8 : w22.cell? ⟨gb437, 8, none⟩ = some (.int .i64 a1_8) := (blk_cell BK437.out 8).trans rfl
      have hcz30_9 : w22.cell? ⟨gb437, 9, none⟩ = some (.int .i64 a1_9) := (blk_cell BK437.out 9).trans rfl
      have hcz30_10 : w22.cell? ⟨gb437, 10, none⟩ = some (.int .i64 a1_10) := (blk_cell BK437.out 10).trans rfl
      have hcz30_11 : w22.cell? ⟨gb437, 11, none⟩ = some (.int .i64 a1_11) := (blk_cell BK437.out 11).trans rfl
      have hcz30_12 : w22.cell? ⟨gb437, 12, none⟩ = some (.slice none 0 0) := (blk_cell BK437.out 12).trans rfl
      have hfz30_0 := blk_frozen BK437.out 0
      have hfz30_1 := blk_frozen BK437.out 1
      have hfz30_2 := blk_frozen BK437.out 2
      have hfz30_3 := blk_frozen BK437.out 3
      have hfz30_4 := blk_frozen BK437.out 4
      have hfz30_5 := blk_frozen BK437.out 5
      have hfz30_6 := blk_frozen BK437.out 6
      have hfz30_7 := blk_frozen BK437.out 7
      have hfz30_8 := blk_frozen BK437.out 8
      have hfz30_9 := blk_frozen BK437.out 9
      have hfz30_10 := blk_frozen BK437.out 10
      have hfz30_11 := blk_frozen BK437.out 11
      have hfz30_12 := blk_frozen BK437.out 12
      go_wp2
      go_meet
      case rel => exact ⟨_, (a1_4), (a1_5), (a1_6), (a1_7), H', ⟨by first | omega | exact Nat.le_refl _⟩, ⟨by (with_reducible repeat (first | refine blk_drewN ?_ _ | refine blk_drew ?_ | refine blk_alloc ?_ _)); refine blk_far ?_ NB434_437.out _; (with_reducible repeat (first | refine blk_drewN ?_ _ | refine blk_drew ?_ | refine blk_alloc ?_ _)); refine blk_far ?_ NB434_437.out _; (with_reducible repeat (first | refine blk_drewN ?_ _ | refine blk_drew ?_ | refine blk_alloc ?_ _)); refine blk_far ?_ NB434_437.out _; (with_reducible repeat (first | refine blk_drewN ?_ _ | refine blk_drew ?_ | refine blk_alloc ?_ _)); refine blk_far ?_ NB434_437.out _; (with_reducible repeat (first | refine blk_drewN ?_ _ | refine blk_drew ?_ | refine blk_alloc ?_ _)); exact BK434.out⟩, ⟨by (with_reducible repeat (first | refine blk_drewN ?_ _ | refine blk_drew ?_ | refine blk_alloc ?_ _)); refine blk_far ?_ NB435_437.out _; (with_reducible repeat (first | refine blk_drewN ?_ _ | refine blk_drew ?_ | refine blk_alloc ?_ _)); refine blk_far ?_ NB435_437.out _; (with_reducible repeat (first | refine blk_drewN ?_ _ | refine blk_drew ?_ | refine blk_alloc ?_ _)); refine blk_far ?_ NB435_437.out _; (with_reducible repeat (first | refine blk_drewN ?_ _ | refine blk_drew ?_ | refine blk_alloc ?_ _)); refine blk_far ?_ NB435_437.out _; (with_reducible repeat (first | refine blk_drewN ?_ _ | refine blk_drew ?_ | refine blk_alloc ?_ _)); exact BK435.out⟩, ⟨by (with_reducible repeat (first | refine blk_drewN ?_ _ | refine blk_drew ?_ | refine blk_alloc ?_ _)); refine blk_far ?_ NB436_437.out _; (with_reducible repeat (first | refine blk_drewN ?_ _ | refine blk_drew ?_ | refine blk_alloc ?_ _)); refine blk_far ?_ NB436_437.out _; (with_reducible repeat (first | refine blk_drewN ?_ _ | refine blk_drew ?_ | refine blk_alloc ?_ _)); refine blk_far ?_ NB436_437.out _; (with_reducible repeat (first | refine blk_drewN ?_ _ | refine blk_drew ?_ | refine blk_alloc ?_ _)); refine blk_far ?_ NB436_437.out _; (with_reducible repeat (first | refine blk_drewN ?_ _ | refine blk_drew ?_ | refine blk_alloc ?_ _)); exact BK436.out⟩, ⟨by (with_reducible repeat (first | refine blk_drewN ?_ _ | refine blk_drew ?_ | refine blk_alloc ?_ _)); refine blk_put (cs := #[.int .i64 (wrap64 (a0_0 + a1_0)), .int .i64 (wrap64 (a0_1 + a1_1)), .int .i64 ji3, .int .i64 ji4, .int .i64 a1_4, .int .i64 a1_5, .int .i64 a1_6, .int .i64 a0_7, .int .i64 a1_8, .int .i64 a1_9, .int .i64 a1_10, .int .i64 a1_11, .slice none 0 0]) ?_ 7 _ rfl; (with_reducible repeat (first | refine blk_drewN ?_ _ | refine blk_drew ?_ | refine blk_alloc ?_ _)); refine blk_put (cs := #[.int .i64 (wrap64 (a0_0 + a1_0)), .int .i64 (wrap64 (a0_1 + a1_1)), .int .i64 ji3, .int .i64 ji4, .int .i64 a1_4, .int .i64 a1_5, .int .i64 a0_6, .int .i64 a0_7, .int .i64 a1_8, .int .i64 a1_9, .int .i64 a1_10, .int .i64 a1_11, .slice none 0 0]) ?_ 6 _ rfl; (with_reducible repeat (first | refine blk_drewN ?_ _ | refine blk_drew ?_ | refine blk_alloc ?_ _)); refine blk_put (cs := #[.int .i64 (wrap64 (a0_0 + a1_0)), .int .i64 (wrap64 (a0_1 + a1_1)), .int .i64 ji3, .int .i64 ji4, .int .i64 a1_4, .int .i64 a0_5, .int .i64 a0_6, .int .i64 a0_7, .int .i64 a1_8, .int .i64 a1_9, .int .i64 a1_10, .int .i64 a1_11, .slice none 0 0]) ?_ 5 _ rfl; (with_reducible repeat (first | refine blk_drewN ?_ _ | refine blk_drew ?_ | refine blk_alloc ?_ _)); refine blk_put (cs := #[.int .i64 (wrap64 (a0_0 + a1_0)), .int .i64 (wrap64 (a0_1 + a1_1)), .int .i64 ji3, .int .i64 ji4, .int .i64 a0_4, .int .i64 a0_5, .int .i64 a0_6, .int .i64 a0_7, .int .i64 a1_8, .int .i64 a1_9, .int .i64 a1_10, .int .i64 a1_11, .slice none 0 0]) ?_ 4 _ rfl; (with_reducible repeat (first | refine blk_drewN ?_ _ | refine blk_drew ?_ | refine blk_alloc ?_ _)); exact BK437.out⟩, ⟨by repeat (first | (with_reducible first | exact HB.out | apply below_alloc | apply pw_below_drewN | apply below_drew1 | refine below_set ?_ GE434.out | refine below_set ?_ GE435.out | refine below_set ?_ GE436.out | refine below_set ?_ GE437.out) | exact HB.out)⟩⟩
    · replace c23 := Bool.eq_false_iff.mpr c23
      subst c23
      have H1 : (bourneref1_two.j0 k a0_0 a0_1 a0_2 a0_3 a0_4 a0_5 a0_6 a0_7 a0_8 a0_9 a0_10 a0_11 l0_12 a1_0 a1_1 a1_2 a1_3 a1_4 a1_5 a1_6 a1_7 a1_8 a1_9 a1_10 a1_11 l1_12 (wrap64 (a0_0 + a1_0)) (wrap64 (a0_1 + a1_1)) ji3 ji4 a0_4 a0_5 a0_6 a0_7 a1_8 a1_9 a1_10 a1_11) = some (r1, r2, r3, r4, r5, r6, r7, r8, r9, r10, r11, r12, r13) := by rw [if_neg (show ¬ (false = true) by decide)] at H; exact H
      clear H
      have H := H1
      clear H1
      have H' := Aside0.mk H
      clear H
      go_wp2
      go_meet
      case rel => exact ⟨_, (a0_4), (a0_5), (a0_6), (a0_7), H', ⟨by first | omega | exact Nat.le_refl _⟩, ⟨by (with_reducible repeat (first | refine blk_drewN ?_ _ | refine blk_drew ?_ | refine blk_alloc ?_ _)); exact BK434.out⟩, ⟨by (with_reducible repeat (first | refine blk_drewN ?_ _ | refine blk_drew ?_ | refine blk_alloc ?_ _)); exact BK435.out⟩, ⟨by (with_reducible repeat (first | refine blk_drewN ?_ _ | refine blk_drew ?_ | refine blk_alloc ?_ _)); exact BK436.out⟩, ⟨by (with_reducible repeat (first | refine blk_drewN ?_ _ | refine blk_drew ?_ | refine blk_alloc ?_ _)); exact BK437.out⟩, ⟨by repeat (first | (with_reducible first | exact HB.out | apply below_alloc | apply pw_below_drewN | apply below_drew1 | refine below_set ?_ GE434.out | refine below_set ?_ GE435.out | refine below_set ?_ GE436.out | refine below_set ?_ GE437.out) | exact HB.out)⟩⟩
  case rest =>
    clear HC6
    try clear c1
    try clear c2
    try clear p2
    try clear c5
    try clear p6
    try clear c10
    try clear c11
    try clear c13
    try clear c16
    try clear c17
    try clear c18
    try clear c23
    try clear c24
    try clear c25
    try clear c26
    try clear c28
    try clear c29
    try clear hcz12_0
    try clear hcz12_1
    try clear hcz12_10
    try clear hcz12_11
    try clear hcz12_12
    try clear hcz12_2
    try clear hcz12_3
    try clear hcz12_4
    try clear hcz12_5
    try clear hcz12_6
    try clear hcz12_7
    try clear hcz12_8
    try clear hcz12_9
    try clear hcz14_0
    try clear hcz14_1
    try clear hcz14_10
    try clear hcz14_11
    try clear hcz14_12
    try clear hcz14_2
    try clear hcz14_3
    try clear hcz14_4
    try clear hcz14_5
    try clear hcz14_6
    try clear hcz14_7
    try clear hcz14_8
    try clear hcz14_9
    try clear hcz19_0
    try clear hcz19_1
    try clear hcz19_10
    try clear hcz19_11
    try clear hcz19_12
    try clear hcz19_2
    try clear hcz19_3
    try clear hcz19_4
    try clear hcz19_5
    try clear hcz19_6
    try clear hcz19_7
    try clear hcz19_8
    try clear hcz19_9
    try clear hcz20_0
    try clear hcz20_1
    try clear hcz20_10
    try clear hcz20_11
    try clear hcz20_12
    try clear hcz20_2
    try clear hcz20_3
    try clear hcz20_4
    try clear hcz20_5
    try clear hcz20_6
    try clear hcz20_7
    try clear hcz20_8
    try clear hcz20_9
    try clear hcz21_0
    try clear hcz21_1
    try clear hcz21_10
    try clear hcz21_11
    try clear hcz21_12
    try clear hcz21_2
    try clear hcz21_3
    try clear hcz21_4
    try clear hcz21_5
    try clear hcz21_6
    try clear hcz21_7
    try clear hcz21_8
    try clear hcz21_9
    try clear hcz27_0
    try clear hcz27_1
    try clear hcz27_10
    try clear hcz27_11
    try clear hcz27_12
    try clear hcz27_2
    try clear hcz27_3
    try clear hcz27_4
    try clear hcz27_5
    try clear hcz27_6
    try clear hcz27_7
    try clear hcz27_8
    try clear hcz27_9
    try clear hcz30_0
    try clear hcz30_1
    try clear hcz30_10
    try clear hcz30_11
    try clear hcz30_12
    try clear hcz30_2
    try clear hcz30_3
    try clear hcz30_4
    try clear hcz30_5
    try clear hcz30_6
    try clear hcz30_7
    try clear hcz30_8
    try clear hcz30_9
    try clear hfz12_0
    try clear hfz12_1
    try clear hfz12_10
    try clear hfz12_11
    try clear hfz12_12
    try clear hfz12_2
    try clear hfz12_3
    try clear hfz12_4
    try clear hfz12_5
    try clear hfz12_6
    try clear hfz12_7
    try clear hfz12_8
    try clear hfz12_9
    try clear hfz14_0
    try clear hfz14_1
    try clear hfz14_10
    try clear hfz14_11
    try clear hfz14_12
    try clear hfz14_2
    try clear hfz14_3
    try clear hfz14_4
    try clear hfz14_5
    try clear hfz14_6
    try clear hfz14_7
    try clear hfz14_8
    try clear hfz14_9
    try clear hfz19_0
    try clear hfz19_1
    try clear hfz19_10
    try clear hfz19_11
    try clear hfz19_12
    try clear hfz19_2
    try clear hfz19_3
    try clear hfz19_4
    try clear hfz19_5
    try clear hfz19_6
    try clear hfz19_7
    try clear hfz19_8
    try clear hfz19_9
    try clear hfz20_0
    try clear hfz20_1
    try clear hfz20_10
    try clear hfz20_11
    try clear hfz20_12
    try clear hfz20_2
    try clear hfz20_3
    try clear hfz20_4
    try clear hfz20_5
    try clear hfz20_6
    try clear hfz20_7
    try clear hfz20_8
    try clear hfz20_9
    try clear hfz21_0
    try clear hfz21_1
    try clear hfz21_10
    try clear hfz21_11
    try clear hfz21_12
    try clear hfz21_2
    try clear hfz21_3
    try clear hfz21_4
    try clear hfz21_5
    try clear hfz21_6
    try clear hfz21_7
    try clear hfz21_8
    try clear hfz21_9
    try clear hfz27_0
    try clear hfz27_1
    try clear hfz27_10
    try clear hfz27_11
    try clear hfz27_12
    try clear hfz27_2
    try clear hfz27_3
    try clear hfz27_4
    try clear hfz27_5
    try clear hfz27_6
    try clear hfz27_7
    try clear hfz27_8
    try clear hfz27_9
    try clear hfz30_0
    try clear hfz30_1
    try clear hfz30_10
    try clear hfz30_11
    try clear hfz30_12
    try clear hfz30_2
    try clear hfz30_3
    try clear hfz30_4
    try clear hfz30_5
    try clear hfz30_6
    try clear hfz30_7
    try clear hfz30_8
    try clear hfz30_9
    obtain ⟨kq, x438004_5, x438005_5, x438006_5, x438007_5, HA, HJ5, BK434, BK435, BK436, BK437, HB⟩ := hcut
    cases kq with
    | zero => exact absurd HA.out (by simp [bourneref1_two.j0])
    | succ kj5 =>
      have H := HA.out
      clear HA
      simp only [bourneref1_two.j0] at H
      replace H := Option.bind_eq_some_iff.mp H
      obtain ⟨t439, A310, H⟩ := H
      replace H : (if t439 = true then (bourneref1_two.j1 kj5 a0_0 a0_1 a0_2 a0_3 a0_4 a0_5 a0_6 a0_7 a0_8 a0_9 a0_10 a0_11 l0_12 a1_0 a1_1 a1_2 a1_3 a1_4 a1_5 a1_6 a1_7 a1_8 a1_9 a1_10 a1_11 l1_12 (wrap64 (a0_0 + a1_0)) (wrap64 (a0_1 + a1_1)) ji3 ji4 x438004_5 x438005_5 x438006_5 x438007_5 a0_8 a0_9 a0_10 a0_11) else (bourneref1_two.j1 kj5 a0_0 a0_1 a0_2 a0_3 a0_4 a0_5 a0_6 a0_7 a0_8 a0_9 a0_10 a0_11 l0_12 a1_0 a1_1 a1_2 a1_3 a1_4 a1_5 a1_6 a1_7 a1_8 a1_9 a1_10 a1_11 l1_12 (wrap64 (a0_0 + a1_0)) (wrap64 (a0_1 + a1_1)) ji3 ji4 x438004_5 x438005_5 x438006_5 x438007_5 a1_8 a1_9 a1_10 a1_11)) = some (r1, r2, r3, r4, r5, r6, r7, r8, r9, r10, r11, r12, r13) := H
      have A31 := Aside0.mk A310
      clear A310
      have HC32 := Aside0.mk H
      clear H
      have hnb33 := NB435_434.out
      have hnc33 := NB434_435.out
      have hnb34 := NB435_436.out
      have hnc34 := NB436_435.out
      have hnb35 := NB435_437.out
      have hnc35 := NB437_435.out
      have hcz36_0 : wc.cell? ⟨gb435, 0, none⟩ = some (.int .i64 a1_0) := (blk_cell BK435.out 0).trans rfl
      have hcz36_1 : wc.cell? ⟨gb435, 1, none⟩ = some (.int .i64 a1_1) := (blk_cell BK435.out 1).trans rfl
      have hcz36_2 : wc.cell? ⟨gb435, 2, none⟩ = some (.int .i64 a1_2) := (blk_cell BK435.out 2).trans rfl
      have hcz36_3 : wc.cell? ⟨gb435, 3, none⟩ = some (.int .i64 a1_3) := (blk_cell BK435.out 3).trans rfl
      have hcz36_4 : wc.cell? ⟨gb435, 4, none⟩ = some (.int .i64 a1_4) := (blk_cell BK435.out 4).trans rfl
      have hcz36_5 : wc.cell? ⟨gb435, 5, none⟩ = some (.int .i64 a1_5) := (blk_cell BK435.out 5).trans rfl
      have hcz36_6 : wc.cell? ⟨gb435, 6, none⟩ = some (.int .i64 a1_6) := (blk_cell BK435.out 6).trans rfl
      have hcz36_7 : wc.cell? ⟨gb435, 7, none⟩ = some (.int .i64 a1_7) := (blk_cell BK435.out 7).trans rfl
      have hcz36_8 : wc.cell? ⟨gb435, 8, none⟩ = some (.int .i64 a1_8) := (blk_cell BK435.out 8).trans rfl
      have hcz36_9 : wc.cell? ⟨gb435, 9, none⟩ = some (.int .i64 a1_9) := (blk_cell BK435.out 9).trans rfl
      have hcz36_10 : wc.cell? ⟨gb435, 10, none⟩ = some (.int .i64 a1_10) := (blk_cell BK435.out 10).trans rfl
      have hcz36_11 : wc.cell? ⟨gb435, 11, none⟩ = some (.int .i64 a1_11) := (blk_cell BK435.out 11).trans rfl
      have hcz36_12 : wc.cell? ⟨gb435, 12, none⟩ = some (.slice A1_12 l1_12.length c1_12) := (blk_cell BK435.out 12).trans rfl
      have hfz36_0 := blk_frozen BK435.out 0
      have hfz36_1 := blk_frozen BK435.out 1
      have hfz36_2 := blk_frozen BK435.out 2
      have hfz36_3 := blk_frozen BK435.out 3
      have hfz36_4 := blk_frozen BK435.out 4
      have hfz36_5 := blk_frozen BK435.out 5
      have hfz36_6 := blk_frozen BK435.out 6
      have hfz36_7 := blk_frozen BK435.out 7
      have hfz36_8 := blk_frozen BK435.out 8
      have hfz36_9 := blk_frozen BK435.out 9
      have hfz36_10 := blk_frozen BK435.out 10
      have hfz36_11 := blk_frozen BK435.out 11
      have hfz36_12 := blk_frozen BK435.out 12
      have hnb37 := NB434_436.out
      have hnc37 := NB436_434.out
      have hnb38 := NB434_437.out
      have hnc38 := NB437_434.out
      have hcz39_0 : wc.cell? ⟨gb434, 0, none⟩ = some (.int .i64 a0_0) := (blk_cell BK434.out 0).trans rfl
      have hcz39_1 : wc.cell? ⟨gb434, 1, none⟩ = some (.int .i64 a0_1) := (blk_cell BK434.out 1).trans rfl
      have hcz39_2 : wc.cell? ⟨gb434, 2, none⟩ = some (.int .i64 a0_2) := (blk_cell BK434.out 2).trans rfl
      have hcz39_3 : wc.cell? ⟨gb434, 3, none⟩ = some (.int .i64 a0_3) := (blk_cell BK434.out 3).trans rfl
      have hcz39_4 : wc.cell? ⟨gb434, 4, none⟩ = some (.int .i64 a0_4) := (blk_cell BK434.out 4).trans rfl
      have hcz39_5 : wc.cell? ⟨gb434, 5, none⟩ = some (.int .i64 a0_5) := (blk_cell BK434.out 5).trans rfl
      have hcz39_6 : wc.cell? ⟨gb434, 6, none⟩ = some (.int .i64 a0_6) := (blk_cell BK434.out 6).trans rfl
      have hcz39_7 : wc.cell? ⟨gb434, 7, none⟩ = some (.int .i64 a0_7) := (blk_cell BK434.out 7).trans rfl
      have hcz39_8 : wc.cell? ⟨gb434, 8, none⟩ = some (.int .i64 a0_8) := (blk_cell BK434.out 8).trans rfl
      have hcz39_9 : wc.cell? ⟨gb434, 9, none⟩ = some (.int .i64 a0_9) := (blk_cell BK434.out 9).trans rfl
      have hcz39_10 : wc.cell? ⟨gb434, 10, none⟩ = some (.int .i64 a0_10) := (blk_cell BK434.out 10).trans rfl
      have hcz39_11 : wc.cell? ⟨gb434, 11, none⟩ = some (.int .i64 a0_11) := (blk_cell BK434.out 11).trans rfl
      have hcz39_12 : wc.cell? ⟨gb434, 12, none⟩ = some (.slice A0_12 l0_12.length c0_12) := (blk_cell BK434.out 12).trans rfl
      have hfz39_0 := blk_frozen BK434.out 0
      have hfz39_1 := blk_frozen BK434.out 1
      have hfz39_2 := blk_frozen BK434.out 2
      have hfz39_3 := blk_frozen BK434.out 3
      have hfz39_4 := blk_frozen BK434.out 4
      have hfz39_5 := blk_frozen BK434.out 5
      have hfz39_6 := blk_frozen BK434.out 6
      have hfz39_7 := blk_frozen BK434.out 7
      have hfz39_8 := blk_frozen BK434.out 8
      have hfz39_9 := blk_frozen BK434.out 9
      have hfz39_10 := blk_frozen BK434.out 10
      have hfz39_11 := blk_frozen BK434.out 11
      have hfz39_12 := blk_frozen BK434.out 12
      go_upto_if 44 with (first | ((with_reducible refine gate_callee (f := 59) rfl ?_); refine goesL_ (some 44) rfl rfl Try.func59 (by kernel_rfl) rfl #[.agg #[.int .i64 a1_8, .int .i64 a1_9, .int .i64 a1_10, .int .i64 a1_11], .agg #[.int .i64 a0_8, .int .i64 a0_9, .int .i64 a0_10, .int .i64 a0_11]] rfl (by (try simp only [List.map_toArray, List.map_cons, List.map_nil]); first | done | rfl | (simp only [List.length_drop, List.length_take]; rfl)) ?_; (with_reducible refine (bourneref1_Before.calls a1_8 a1_9 a1_10 a1_11 a0_8 a0_9 a0_10 a0_11 t439 _ A31.out).mono ?_); rintro e w40 ⟨rfl, hb⟩; refine ⟨_, rfl, ?_⟩; have n0_ := Aside0.mk (blk_below (g := gb434) (o := .cells #[.int .i64 a0_0, .int .i64 a0_1, .int .i64 a0_2, .int .i64 a0_3, .int .i64 a0_4, .int .i64 a0_5, .int .i64 a0_6, .int .i64 a0_7, .int .i64 a0_8, .int .i64 a0_9, .int .i64 a0_10, .int .i64 a0_11, .slice A0_12 l0_12.length c0_12] 28 (0, 0)) (by (with_reducible repeat (first | refine blk_drewN ?_ _ | refine blk_drew ?_ | refine blk_alloc ?_ _)); exact BK434.out) hb); have n1_ := Aside0.mk (blk_below (g := gb435) (o := .cells #[.int .i64 a1_0, .int .i64 a1_1, .int .i64 a1_2, .int .i64 a1_3, .int .i64 a1_4, .int .i64 a1_5, .int .i64 a1_6, .int .i64 a1_7, .int .i64 a1_8, .int .i64 a1_9, .int .i64 a1_10, .int .i64 a1_11, .slice A1_12 l1_12.length c1_12] 28 (0, 0)) (by (with_reducible repeat (first | refine blk_drewN ?_ _ | refine blk_drew ?_ | refine blk_alloc ?_ _)); exact BK435.out) hb); have n2_ := Aside0.mk (blk_below (g := gb436) (o := .cells #[.int .i64 0, .int .i64 0, .int .i64 0, .int .i64 0, .int .i64 0, .int .i64 0, .int .i64 0, .int .i64 0, .int .i64 0, .int .i64 0, .int .i64 0, .int .i64 0, .slice none 0 0] 28 (0, 0)) (by (with_reducible repeat (first | refine blk_drewN ?_ _ | refine blk_drew ?_ | refine blk_alloc ?_ _)); exact BK436.out) hb); have n3_ := Aside0.mk (blk_below (g := gb437) (o := .cells #[.int .i64 (wrap64 (a0_0 + a1_0)), .int .i64 (wrap64 (a0_1 + a1_1)), .int .i64 ji3, .int .i64 ji4, .int .i64 x438004_5, .int .i64 x438005_5, .int .i64 x438006_5, .int .i64 x438007_5, .int .i64 a1_8, .int .i64 a1_9, .int .i64 a1_10, .int .i64 a1_11, .slice none 0 0] 28 (0, 0)) (by (with_reducible repeat (first | refine blk_drewN ?_ _ | refine blk_drew ?_ | refine blk_alloc ?_ _)); exact BK437.out) hb); have n4_ := Aside0.mk (below_step (by repeat (first | (with_reducible first | exact HB.out | apply below_alloc | apply pw_below_drewN | apply below_drew1 | refine below_set ?_ GE434.out | refine below_set ?_ GE435.out | refine below_set ?_ GE436.out | refine below_set ?_ GE437.out) | exact HB.out)) hb); clear BK434; clear BK435; clear BK436; clear BK437; clear HB; have BK434 := n0_; have BK435 := n1_; have BK436 := n2_; have BK437 := n3_; have HB := n4_; clear n0_ n1_ n2_ n3_ n4_; (try clear hb); (try clear hb2); (try clear hk); (try clear hi)))
      (try simp only [Act.put, List.setIfInBounds_toArray, List.set_cons_zero, List.set_cons_succ])
      go_cut [] (fun wc => ∃ (kq : Nat) (x438008_31 : Int) (x438009_31 : Int) (x438010_31 : Int) (x438011_31 : Int), Aside0 (bourneref1_two.j1 kq a0_0 a0_1 a0_2 a0_3 a0_4 a0_5 a0_6 a0_7 a0_8 a0_9 a0_10 a0_11 l0_12 a1_0 a1_1 a1_2 a1_3 a1_4 a1_5 a1_6 a1_7 a1_8 a1_9 a1_10 a1_11 l1_12 (wrap64 (a0_0 + a1_0)) (wrap64 (a0_1 + a1_1)) ji3 ji4 x438004_5 x438005_5 x438006_5 x438007_5 x438008_31 x438009_31 x438010_31 x438011_31 = some (r1, r2, r3, r4, r5, r6, r7, r8, r9, r10, r11, r12, r13)) ∧ Aside0 (kq ≤ kj5) ∧ Aside0 (wc.heap[gb434]? = some (.cells #[.int .i64 a0_0, .int .i64 a0_1, .int .i64 a0_2, .int .i64 a0_3, .int .i64 a0_4, .int .i64 a0_5, .int .i64 a0_6, .int .i64 a0_7, .int .i64 a0_8, .int .i64 a0_9, .int .i64 a0_10, .int .i64 a0_11, (.slice A0_12 l0_12.length c0_12)] 28 (0, 0))) ∧ Aside0 (wc.heap[gb435]? = some (.cells #[.int .i64 a1_0, .int .i64 a1_1, .int .i64 a1_2, .int .i64 a1_3, .int .i64 a1_4, .int .i64 a1_5, .int .i64 a1_6, .int .i64 a1_7, .int .i64 a1_8, .int .i64 a1_9, .int .i64 a1_10, .int .i64 a1_11, (.slice A1_12 l1_12.length c1_12)] 28 (0, 0))) ∧ Aside0 (wc.heap[gb436]? = some (.cells #[.int .i64 0, .int .i64 0, .int .i64 0, .int .i64 0, .int .i64 0, .int .i64 0, .int .i64 0, .int .i64 0, .int .i64 0, .int .i64 0, .int .i64 0, .int .i64 0, (.slice none 0 0)] 28 (0, 0))) ∧ Aside0 (wc.heap[gb437]? = some (.cells #[.int .i64 (wrap64 (a0_0 + a1_0)), .int .i64 (wrap64 (a0_1 + a1_1)), .int .i64 ji3, .int .i64 ji4, .int .i64 x438004_5, .int .i64 x438005_5, .int .i64 x438006_5, .int .i64 x438007_5, .int .i64 x438008_31, .int .i64 x438009_31, .int .i64 x438010_31, .int .i64 x438011_31, (.slice none 0 0)] 28 (0, 0))) ∧ Aside0 (Below w.heap.size w wc))
      case first =>
        have H := HC32.out
        clear HC32
        by_cases c41 : t439 = true
        · subst c41
          have H1 : (bourneref1_two.j1 kj5 a0_0 a0_1 a0_2 a0_3 a0_4 a0_5 a0_6 a0_7 a0_8 a0_9 a0_10 a0_11 l0_12 a1_0 a1_1 a1_2 a1_3 a1_4 a1_5 a1_6 a1_7 a1_8 a1_9 a1_10 a1_11 l1_12 (wrap64 (a0_0 + a1_0)) (wrap64 (a0_1 + a1_1)) ji3 ji4 x438004_5 x438005_5 x438006_5 x438007_5 a0_8 a0_9 a0_10 a0_11) = some (r1, r2, r3, r4, r5, r6, r7, r8, r9, r10, r11, r12, r13) := by rw [if_pos rfl] at H; exact H
          clear H
          have H := H1
          clear H1
          have H' := Aside0.mk H
          clear H
          have hnb42 := NB434_435.out
          have hnc42 := NB435_434.out
          have hnb43 := NB434_436.out
          have hnc43 := NB436_434.out
          have hnb44 := NB434_437.out
          have hnc44 := NB437_434.out
          have hcz45_0 : w40.cell? ⟨gb434, 0, none⟩ = some (.int .i64 a0_0) := (blk_cell BK434.out 0).trans rfl
          have hcz45_1 : w40.cell? ⟨gb434, 1, none⟩ = some (.int .i64 a0_1) := (blk_cell BK434.out 1).trans rfl
          have hcz45_2 : w40.cell? ⟨gb434, 2, none⟩ = some (.int .i64 a0_2) := (blk_cell BK434.out 2).trans rfl
          have hcz45_3 : w40.cell? ⟨gb434, 3, none⟩ = some (.int .i64 a0_3) := (blk_cell BK434.out 3).trans rfl
          have hcz45_4 : w40.cell? ⟨gb434, 4, none⟩ = some (.int .i64 a0_4) := (blk_cell BK434.out 4).trans rfl
          have hcz45_5 : w40.cell? ⟨gb434, 5, none⟩ = some (.int .i64 a0_5) := (blk_cell BK434.out 5).trans rfl
          have hcz45_6 : w40.cell? ⟨gb434, 6, none⟩ = some (.int .i64 a0_6) := (blk_cell BK434.out 6).trans rfl
          have hcz45_7 : w40.cell? ⟨gb434, 7, none⟩ = some (.int .i64 a0_7) := (blk_cell BK434.out 7).trans rfl
          have hcz45_8 : w40.cell? ⟨gb434, 8, none⟩ = some (.int .i64 a0_8) := (blk_cell BK434.out 8).trans rfl
          have hcz45_9 : w40.cell? ⟨gb434, 9, none⟩ = some (.int .i64 a0_9) := (blk_cell BK434.out 9).trans rfl
          have hcz45_10 : w40.cell? ⟨gb434, 10, none⟩ = some (.int .i64 a0_10) := (blk_cell BK434.out 10).trans rfl
          have hcz45_11 : w40.cell? ⟨gb434, 11, none⟩ = some (.int .i64 a0_11) := (blk_cell BK434.out 11).trans rfl
          have hcz45_12 : w40.cell? ⟨gb434, 12, none⟩ = some (.slice A0_12 l0_12.length c0_12) := (blk_cell BK434.out 12).trans rfl
          have hfz45_0 := blk_frozen BK434.out 0
          have hfz45_1 := blk_frozen BK434.out 1
          have hfz45_2 := blk_frozen BK434.out 2
          have hfz45_3 := blk_frozen BK434.out 3
          have hfz45_4 := blk_frozen BK434.out 4
          have hfz45_5 := blk_frozen BK434.out 5
          have hfz45_6 := blk_frozen BK434.out 6
          have hfz45_7 := blk_frozen BK434.out 7
          have hfz45_8 := blk_frozen BK434.out 8
          have hfz45_9 := blk_frozen BK434.out 9
          have hfz45_10 := blk_frozen BK434.out 10
          have hfz45_11 := blk_frozen BK434.out 11
          have hfz45_12 := blk_frozen BK434.out 12
          have hnb46 := NB437_435.out
          have hnc46 := NB435_437.out
          have hnb47 := NB437_436.out
          have hnc47 := NB436_437.out
          have hcz48_0 : w40.cell? ⟨gb437, 0, none⟩ = some (.int .i64 (wrap64 (a0_0 + a1_0))) := (blk_cell BK437.out 0).trans rfl
          have hcz48_1 : w40.cell? ⟨gb437, 1, none⟩ = some (.int .i64 (wrap64 (a0_1 + a1_1))) := (blk_cell BK437.out 1).trans rfl
          have hcz48_2 : w40.cell? ⟨gb437, 2, none⟩ = some (.int .i64 ji3) := (blk_cell BK437.out 2).trans rfl
          have hcz48_3 : w40.cell? ⟨gb437, 3, none⟩ = some (.int .i64 ji4) := (blk_cell BK437.out 3).trans rfl
          have hcz48_4 : w40.cell? ⟨gb437, 4, none⟩ = some (.int .i64 x438004_5) := (blk_cell BK437.out 4).trans rfl
          have hcz48_5 : w40.cell? ⟨gb437, 5, none⟩ = some (.int .i64 x438005_5) := (blk_cell BK437.out 5).trans rfl
          have hcz48_6 : w40.cell? ⟨gb437, 6, none⟩ = some (.int .i64 x438006_5) := (blk_cell BK437.out 6).trans rfl
          have hcz48_7 : w40.cell? ⟨gb437, 7, none⟩ = some (.int .i64 x438007_5) := (blk_cell BK437.out 7).trans rfl
          have hcz48_8 : w40.cell? ⟨gb437, 8, none⟩ = some (.int .i64 a1_8) := (blk_cell BK437.out 8).trans rfl
          have hcz48_9 : w40.cell? ⟨gb437, 9, none⟩ = some (.int .i64 a1_9) := (blk_cell BK437.out 9).trans rfl
          have hcz48_10 : w40.cell? ⟨gb437, 10, none⟩ = some (.int .i64 a1_10) := (blk_cell BK437.out 10).trans rfl
          have hcz48_11 : w40.cell? ⟨gb437, 11, none⟩ = some (.int .i64 a1_11) := (blk_cell BK437.out 11).trans rfl
          have hcz48_12 : w40.cell? ⟨gb437, 12, none⟩ = some (.slice none 0 0) := (blk_cell BK437.out 12).trans rfl
          have hfz48_0 := blk_frozen BK437.out 0
          have hfz48_1 := blk_frozen BK437.out 1
          have hfz48_2 := blk_frozen BK437.out 2
          have hfz48_3 := blk_frozen BK437.out 3
          have hfz48_4 := blk_frozen BK437.out 4
          have hfz48_5 := blk_frozen BK437.out 5
          have hfz48_6 := blk_frozen BK437.out 6
          have hfz48_7 := blk_frozen BK437.out 7
          have hfz48_8 := blk_frozen BK437.out 8
          have hfz48_9 := blk_frozen BK437.out 9
          have hfz48_10 := blk_frozen BK437.out 10
          have hfz48_11 := blk_frozen BK437.out 11
          have hfz48_12 := blk_frozen BK437.out 12
          go_wp2
          go_meet
          case rel => exact ⟨_, (a0_8), (a0_9), (a0_10), (a0_11), H', ⟨by have := HJ5.out; first | omega | exact Nat.le_refl _⟩, ⟨by (with_reducible repeat (first | refine blk_drewN ?_ _ | refine blk_drew ?_ | refine blk_alloc ?_ _)); refine blk_far ?_ NB434_437.out _; (with_reducible repeat (first | refine blk_drewN ?_ _ | refine blk_drew ?_ | refine blk_alloc ?_ _)); refine blk_far ?_ NB434_437.out _; (with_reducible repeat (first | refine blk_drewN ?_ _ | refine blk_drew ?_ | refine blk_alloc ?_ _)); refine blk_far ?_ NB434_437.out _; (with_reducible repeat (first | refine blk_drewN ?_ _ | refine blk_drew ?_ | refine blk_alloc ?_ _)); refine blk_far ?_ NB434_437.out _; (with_reducible repeat (first | refine blk_drewN ?_ _ | refine blk_drew ?_ | refine blk_alloc ?_ _)); exact BK434.out⟩, ⟨by (with_reducible repeat (first | refine blk_drewN ?_ _ | refine blk_drew ?_ | refine blk_alloc ?_ _)); refine blk_far ?_ NB435_437.out _; (with_reducible repeat (first | refine blk_drewN ?_ _ | refine blk_drew ?_ | refine blk_alloc ?_ _)); refine blk_far ?_ NB435_437.out _; (with_reducible repeat (first | refine blk_drewN ?_ _ | refine blk_drew ?_ | refine blk_alloc ?_ _)); refine blk_far ?_ NB435_437.out _; (with_reducible repeat (first | refine blk_drewN ?_ _ | refine blk_drew ?_ | refine blk_alloc ?_ _)); refine blk_far ?_ NB435_437.out _; (with_reducible repeat (first | refine blk_drewN ?_ _ | refine blk_drew ?_ | refine blk_alloc ?_ _)); exact BK435.out⟩, ⟨by (with_reducible repeat (first | refine blk_drewN ?_ _ | refine blk_drew ?_ | refine blk_alloc ?_ _)); refine blk_far ?_ NB436_437.out _; (with_reducible repeat (first | refine blk_drewN ?_ _ | refine blk_drew ?_ | refine blk_alloc ?_ _)); refine blk_far ?_ NB436_437.out _; (with_reducible repeat (first | refine blk_drewN ?_ _ | refine blk_drew ?_ | refine blk_alloc ?_ _)); refine blk_far ?_ NB436_437.out _; (with_reducible repeat (first | refine blk_drewN ?_ _ | refine blk_drew ?_ | refine blk_alloc ?_ _)); refine blk_far ?_ NB436_437.out _; (with_reducible repeat (first | refine blk_drewN ?_ _ | refine blk_drew ?_ | refine blk_alloc ?_ _)); exact BK436.out⟩, ⟨by (with_reducible repeat (first | refine blk_drewN ?_ _ | refine blk_drew ?_ | refine blk_alloc ?_ _)); refine blk_put (cs := #[.int .i64 (wrap64 (a0_0 + a1_0)), .int .i64 (wrap64 (a0_1 + a1_1)), .int .i64 ji3, .int .i64 ji4, .int .i64 x438004_5, .int .i64 x438005_5, .int .i64 x438006_5, .int .i64 x438007_5, .int .i64 a0_8, .int .i64 a0_9, .int .i64 a0_10, .int .i64 a1_11, .slice none 0 0]) ?_ 11 _ rfl; (with_reducible repeat (first | refine blk_drewN ?_ _ | refine blk_drew ?_ | refine blk_alloc ?_ _)); refine blk_put (cs := #[.int .i64 (wrap64 (a0_0 + a1_0)), .int .i64 (wrap64 (a0_1 + a1_1)), .int .i64 ji3, .int .i64 ji4, .int .i64 x438004_5, .int .i64 x438005_5, .int .i64 x438006_5, .int .i64 x438007_5, .int .i64 a0_8, .int .i64 a0_9, .int .i64 a1_10, .int .i64 a1_11, .slice none 0 0]) ?_ 10 _ rfl; (with_reducible repeat (first | refine blk_drewN ?_ _ | refine blk_drew ?_ | refine blk_alloc ?_ _)); refine blk_put (cs := #[.int .i64 (wrap64 (a0_0 + a1_0)), .int .i64 (wrap64 (a0_1 + a1_1)), .int .i64 ji3, .int .i64 ji4, .int .i64 x438004_5, .int .i64 x438005_5, .int .i64 x438006_5, .int .i64 x438007_5, .int .i64 a0_8, .int .i64 a1_9, .int .i64 a1_10, .int .i64 a1_11, .slice none 0 0]) ?_ 9 _ rfl; (with_reducible repeat (first | refine blk_drewN ?_ _ | refine blk_drew ?_ | refine blk_alloc ?_ _)); refine blk_put (cs := #[.int .i64 (wrap64 (a0_0 + a1_0)), .int .i64 (wrap64 (a0_1 + a1_1)), .int .i64 ji3, .int .i64 ji4, .int .i64 x438004_5, .int .i64 x438005_5, .int .i64 x438006_5, .int .i64 x438007_5, .int .i64 a1_8, .int .i64 a1_9, .int .i64 a1_10, .int .i64 a1_11, .slice none 0 0]) ?_ 8 _ rfl; (with_reducible repeat (first | refine blk_drewN ?_ _ | refine blk_drew ?_ | refine blk_alloc ?_ _)); exact BK437.out⟩, ⟨by repeat (first | (with_reducible first | exact HB.out | apply below_alloc | apply pw_below_drewN | apply below_drew1 | refine below_set ?_ GE434.out | refine below_set ?_ GE435.out | refine below_set ?_ GE436.out | refine below_set ?_ GE437.out) | exact HB.out)⟩⟩
        · replace c41 := Bool.eq_false_iff.mpr c41
          subst c41
          have H1 : (bourneref1_two.j1 kj5 a0_0 a0_1 a0_2 a0_3 a0_4 a0_5 a0_6 a0_7 a0_8 a0_9 a0_10 a0_11 l0_12 a1_0 a1_1 a1_2 a1_3 a1_4 a1_5 a1_6 a1_7 a1_8 a1_9 a1_10 a1_11 l1_12 (wrap64 (a0_0 + a1_0)) (wrap64 (a0_1 + a1_1)) ji3 ji4 x438004_5 x438005_5 x438006_5 x438007_5 a1_8 a1_9 a1_10 a1_11) = some (r1, r2, r3, r4, r5, r6, r7, r8, r9, r10, r11, r12, r13) := by rw [if_neg (show ¬ (false = true) by decide)] at H; exact H
          clear H
          have H := H1
          clear H1
          have H' := Aside0.mk H
          clear H
          go_wp2
          go_meet
          case rel => exact ⟨_, (a1_8), (a1_9), (a1_10), (a1_11), H', ⟨by have := HJ5.out; first | omega | exact Nat.le_refl _⟩, ⟨by (with_reducible repeat (first | refine blk_drewN ?_ _ | refine blk_drew ?_ | refine blk_alloc ?_ _)); exact BK434.out⟩, ⟨by (with_reducible repeat (first | refine blk_drewN ?_ _ | refine blk_drew ?_ | refine blk_alloc ?_ _)); exact BK435.out⟩, ⟨by (with_reducible repeat (first | refine blk_drewN ?_ _ | refine blk_drew ?_ | refine blk_alloc ?_ _)); exact BK436.out⟩, ⟨by (with_reducible repeat (first | refine blk_drewN ?_ _ | refine blk_drew ?_ | refine blk_alloc ?_ _)); exact BK437.out⟩, ⟨by repeat (first | (with_reducible first | exact HB.out | apply below_alloc | apply pw_below_drewN | apply below_drew1 | refine below_set ?_ GE434.out | refine below_set ?_ GE435.out | refine below_set ?_ GE436.out | refine below_set ?_ GE437.out) | exact HB.out)⟩⟩
      case rest =>
        clear HC32
        try clear c1
        try clear c2
        try clear p2
        try clear c3
        try clear c4
        try clear c5
        try clear p6
        try clear c10
        try clear c11
        try clear c13
        try clear c16
        try clear c17
        try clear c18
        try clear c23
        try clear c24
        try clear c25
        try clear c26
        try clear c28
        try clear c29
        try clear c33
        try clear c34
        try clear c35
        try clear c37
        try clear c38
        try clear c41
        try clear c42
        try clear c43
        try clear c44
        try clear c46
        try clear c47
        try clear hcz12_0
        try clear hcz12_1
        try clear hcz12_10
        try clear hcz12_11
        try clear hcz12_12
        try clear hcz12_2
        try clear hcz12_3
        try clear hcz12_4
        try clear hcz12_5
        try clear hcz12_6
        try clear hcz12_7
        try clear hcz12_8
        try clear hcz12_9
        try clear hcz14_0
        try clear hcz14_1
        try clear hcz14_10
        try clear hcz14_11
        try clear hcz14_12
        try clear hcz14_2
        try clear hcz14_3
        try clear hcz14_4
        try clear hcz14_5
        try clear hcz14_6
        try clear hcz14_7
        try clear hcz14_8
        try clear hcz14_9
        try clear hcz19_0
        try clear hcz19_1
        try clear hcz19_10
        try clear hcz19_11
        try clear hcz19_12
        try clear hcz19_2
        try clear hcz19_3
        try clear hcz19_4
        try clear hcz19_5
        try clear hcz19_6
        try clear hcz19_7
        try clear hcz19_8
        try clear hcz19_9
        try clear hcz20_0
        try clear hcz20_1
        try clear hcz20_10
        try clear hcz20_11
        try clear hcz20_12
        try clear hcz20_2
        try clear hcz20_3
        try clear hcz20_4
        try clear hcz20_5
        try clear hcz20_6
        try clear hcz20_7
        try clear hcz20_8
        try clear hcz20_9
        try clear hcz21_0
        try clear hcz21_1
        try clear hcz21_10
        try clear hcz21_11
        try clear hcz21_12
        try clear hcz21_2
        try clear hcz21_3
        try clear hcz21_4
        try clear hcz21_5
        try clear hcz21_6
        try clear hcz21_7
        try clear hcz21_8
        try clear hcz21_9
        try clear hcz27_0
        try clear hcz27_1
        try clear hcz27_10
        try clear hcz27_11
        try clear hcz27_12
        try clear hcz27_2
        try clear hcz27_3
        try clear hcz27_4
        try clear hcz27_5
        try clear hcz27_6
        try clear hcz27_7
        try clear hcz27_8
        try clear hcz27_9
        try clear hcz30_0
        try clear hcz30_1
        try clear hcz30_10
        try clear hcz30_11
        try clear hcz30_12
        try clear hcz30_2
        try clear hcz30_3
        try clear hcz30_4
        try clear hcz30_5
        try clear hcz30_6
        try clear hcz30_7
        try clear hcz30_8
        try clear hcz30_9
        try clear hcz36_0
        try clear hcz36_1
        try clear hcz36_10
        try clear hcz36_11
        try clear hcz36_12
        try clear hcz36_2
        try clear hcz36_3
        try clear hcz36_4
        try clear hcz36_5
        try clear hcz36_6
        try clear hcz36_7
        try clear hcz36_8
        try clear hcz36_9
        try clear hcz39_0
        try clear hcz39_1
        try clear hcz39_10
        try clear hcz39_11
        try clear hcz39_12
        try clear hcz39_2
        try clear hcz39_3
        try clear hcz39_4
        try clear hcz39_5
        try clear hcz39_6
        try clear hcz39_7
        try clear hcz39_8
        try clear hcz39_9
        try clear hcz45_0
        try clear hcz45_1
        try clear hcz45_10
        try clear hcz45_11
        try clear hcz45_12
        try clear hcz45_2
        try clear hcz45_3
        try clear hcz45_4
        try clear hcz45_5
        try clear hcz45_6
        try clear hcz45_7
        try clear hcz45_8
        try clear hcz45_9
        try clear hcz48_0
        try clear hcz48_1
        try clear hcz48_10
        try clear hcz48_11
        try clear hcz48_12
        try clear hcz48_2
        try clear hcz48_3
        try clear hcz48_4
        try clear hcz48_5
        try clear hcz48_6
        try clear hcz48_7
        try clear hcz48_8
        try clear hcz48_9
        try clear hfz12_0
        try clear hfz12_1
        try clear hfz12_10
        try clear hfz12_11
        try clear hfz12_12
        try clear hfz12_2
        try clear hfz12_3
        try clear hfz12_4
        try clear hfz12_5
        try clear hfz12_6
        try clear hfz12_7
        try clear hfz12_8
        try clear hfz12_9
        try clear hfz14_0
        try clear hfz14_1
        try clear hfz14_10
        try clear hfz14_11
        try clear hfz14_12
        try clear hfz14_2
        try clear hfz14_3
        try clear hfz14_4
        try clear hfz14_5
        try clear hfz14_6
        try clear hfz14_7
        try clear hfz14_8
        try clear hfz14_9
        try clear hfz19_0
        try clear hfz19_1
        try clear hfz19_10
        try clear hfz19_11
        try clear hfz19_12
        try clear hfz19_2
        try clear hfz19_3
        try clear hfz19_4
        try clear hfz19_5
        try clear hfz19_6
        try clear hfz19_7
        try clear hfz19_8
        try clear hfz19_9
        try clear hfz20_0
        try clear hfz20_1
        try clear hfz20_10
        try clear hfz20_11
        try clear hfz20_12
        try clear hfz20_2
        try clear hfz20_3
        try clear hfz20_4
        try clear hfz20_5
        try clear hfz20_6
        try clear hfz20_7
        try clear hfz20_8
        try clear hfz20_9
        try clear hfz21_0
        try clear hfz21_1
        try clear hfz21_10
        try clear hfz21_11
        try clear hfz21_12
        try clear hfz21_2
        try clear hfz21_3
        try clear hfz21_4
        try clear hfz21_5
        try clear hfz21_6
        try clear hfz21_7
        try clear hfz21_8
        try clear hfz21_9
        try clear hfz27_0
        try clear hfz27_1
        try clear hfz27_10
        try clear hfz27_11
        try clear hfz27_12
        try clear hfz27_2
        try clear hfz27_3
        try clear hfz27_4
        try clear hfz27_5
        try clear hfz27_6
        try clear hfz27_7
        try clear hfz27_8
        try clear hfz27_9
        try clear hfz30_0
        try clear hfz30_1
        try clear hfz30_10
        try clear hfz30_11
        try clear hfz30_12
        try clear hfz30_2
        try clear hfz30_3
        try clear hfz30_4
        try clear hfz30_5
        try clear hfz30_6
        try clear hfz30_7
        try clear hfz30_8
        try clear hfz30_9
        try clear hfz36_0
        try clear hfz36_1
        try clear hfz36_10
        try clear hfz36_11
        try clear hfz36_12
        try clear hfz36_2
        try clear hfz36_3
        try clear hfz36_4
        try clear hfz36_5
        try clear hfz36_6
        try clear hfz36_7
        try clear hfz36_8
        try clear hfz36_9
        try clear hfz39_0
        try clear hfz39_1
        try clear hfz39_10
        try clear hfz39_11
        try clear hfz39_12
        try clear hfz39_2
        try clear hfz39_3
        try clear hfz39_4
        try clear hfz39_5
        try clear hfz39_6
        try clear hfz39_7
        try clear hfz39_8
        try clear hfz39_9
        try clear hfz45_0
        try clear hfz45_1
        try clear hfz45_10
        try clear hfz45_11
        try clear hfz45_12
        try clear hfz45_2
        try clear hfz45_3
        try clear hfz45_4
        try clear hfz45_5
        try clear hfz45_6
        try clear hfz45_7
        try clear hfz45_8
        try clear hfz45_9
        try clear hfz48_0
        try clear hfz48_1
        try clear hfz48_10
        try clear hfz48_11
        try clear hfz48_12
        try clear hfz48_2
        try clear hfz48_3
        try clear hfz48_4
        try clear hfz48_5
        try clear hfz48_6
        try clear hfz48_7
        try clear hfz48_8
        try clear hfz48_9
        try clear p2
        try clear p6
        obtain ⟨kq, x438008_31, x438009_31, x438010_31, x438011_31, HA, HJ31, BK434, BK435, BK436, BK437, HB⟩ := hcut
        cases kq with
        | zero => exact absurd HA.out (by simp [bourneref1_two.j1])
        | succ kj31 =>
          have H := HA.out
          clear HA
          simp only [bourneref1_two.j1] at H
          have H' := Aside0.mk H
          clear H
          go_wp2
          go_loopg [6] kj31 (fun kq v6 w' => ∃ (x6_3 : Int) (x438012_3 : List Int) (u438012 : Value), v6 = .int .i64 x6_3 ∧ Aside0 (bourneref1_two.l0 kq x6_3 a0_0 a0_1 a0_2 a0_3 a0_4 a0_5 a0_6 a0_7 a0_8 a0_9 a0_10 a0_11 l0_12 a1_0 a1_1 a1_2 a1_3 a1_4 a1_5 a1_6 a1_7 a1_8 a1_9 a1_10 a1_11 l1_12 (wrap64 (a0_0 + a1_0)) (wrap64 (a0_1 + a1_1)) ji3 ji4 x438004_5 x438005_5 x438006_5 x438007_5 x438008_31 x438009_31 x438010_31 x438011_31 x438012_3 = some (r1, r2, r3, r4, r5, r6, r7, r8, r9, r10, r11, r12, r13)) ∧ Aside0 (kq ≤ kj31) ∧ Aside0 (Kd.R (Kd.int .i64) 3 w' w.heap.size (fun _ => True) u438012 x438012_3) ∧ Aside0 (w'.heap[gb434]? = some (.cells #[.int .i64 a0_0, .int .i64 a0_1, .int .i64 a0_2, .int .i64 a0_3, .int .i64 a0_4, .int .i64 a0_5, .int .i64 a0_6, .int .i64 a0_7, .int .i64 a0_8, .int .i64 a0_9, .int .i64 a0_10, .int .i64 a0_11, (.slice A0_12 l0_12.length c0_12)] 28 (0, 0))) ∧ Aside0 (w'.heap[gb435]? = some (.cells #[.int .i64 a1_0, .int .i64 a1_1, .int .i64 a1_2, .int .i64 a1_3, .int .i64 a1_4, .int .i64 a1_5, .int .i64 a1_6, .int .i64 a1_7, .int .i64 a1_8, .int .i64 a1_9, .int .i64 a1_10, .int .i64 a1_11, (.slice A1_12 l1_12.length c1_12)] 28 (0, 0))) ∧ Aside0 (w'.heap[gb436]? = some (.cells #[.int .i64 0, .int .i64 0, .int .i64 0, .int .i64 0, .int .i64 0, .int .i64 0, .int .i64 0, .int .i64 0, .int .i64 0, .int .i64 0, .int .i64 0, .int .i64 0, (.slice none 0 0)] 28 (0, 0))) ∧ Aside0 (w'.heap[gb437]? = some (.cells #[.int .i64 (wrap64 (a0_0 + a1_0)), .int .i64 (wrap64 (a0_1 + a1_1)), .int .i64 ji3, .int .i64 ji4, .int .i64 x438004_5, .int .i64 x438005_5, .int .i64 x438006_5, .int .i64 x438007_5, .int .i64 x438008_31, .int .i64 x438009_31, .int .i64 x438010_31, .int .i64 x438011_31, u438012] 28 (0, 0))) ∧ Aside0 (Below w.heap.size w w'))
          case atStart => exact ⟨(0), (([] : List Int)), (.slice none 0 0), (by first | rfl | (simp; done) | (simp [*]; done)), H', ⟨Nat.le_refl _⟩, ⟨by first | exact Kd.R_nil _ _ _ _ _ | exact Kd.N_nil _ _ _ _ _ | exact Kd.V_nil _ _ _ _ _ | exact Kd.Q_nil _ _ _ _ _ | exact Kd.S_nil _ _ _ _ _⟩, ⟨by (with_reducible repeat (first | refine blk_drewN ?_ _ | refine blk_drew ?_ | refine blk_alloc ?_ _)); exact BK434.out⟩, ⟨by (with_reducible repeat (first | refine blk_drewN ?_ _ | refine blk_drew ?_ | refine blk_alloc ?_ _)); exact BK435.out⟩, ⟨by (with_reducible repeat (first | refine blk_drewN ?_ _ | refine blk_drew ?_ | refine blk_alloc ?_ _)); exact BK436.out⟩, ⟨by (with_reducible repeat (first | refine blk_drewN ?_ _ | refine blk_drew ?_ | refine blk_alloc ?_ _)); exact BK437.out⟩, ⟨by repeat (first | (with_reducible first | exact HB.out | apply below_alloc | apply pw_below_drewN | apply below_drew1 | refine below_set ?_ GE434.out | refine below_set ?_ GE435.out | refine below_set ?_ GE436.out | refine below_set ?_ GE437.out) | exact HB.out)⟩⟩
          case round =>
            clear H'
            try clear c1
            try clear c2
            try clear p2
            try clear c3
            try clear c4
            try clear c5
            try clear p6
            try clear c10
            try clear c11
            try clear c13
            try clear c16
            try clear c17
            try clear c18
            try clear c23
            try clear c24
            try clear c25
            try clear c26
            try clear c28
            try clear c29
            try clear c33
            try clear c34
            try clear c35
            try clear c37
            try clear c38
            try clear c41
            try clear c42
            try clear c43
            try clear c44
            try clear c46
            try clear c47
            try clear hcz12_0
            try clear hcz12_1
            try clear hcz12_10
            try clear hcz12_11
            try clear hcz12_12
            try clear hcz12_2
            try clear hcz12_3
            try clear hcz12_4
            try clear hcz12_5
            try clear hcz12_6
            try clear hcz12_7
            try clear hcz12_8
            try clear hcz12_9
            try clear hcz14_0
            try clear hcz14_1
            try clear hcz14_10
            try clear hcz14_11
            try clear hcz14_12
            try clear hcz14_2
            try clear hcz14_3
            try clear hcz14_4
            try clear hcz14_5
            try clear hcz14_6
            try clear hcz14_7
            try clear hcz14_8
            try clear hcz14_9
            try clear hcz19_0
            try clear hcz19_1
            try clear hcz19_10
            try clear hcz19_11
            try clear hcz19_12
            try clear hcz19_2
            try clear hcz19_3
            try clear hcz19_4
            try clear hcz19_5
            try clear hcz19_6
            try clear hcz19_7
            try clear hcz19_8
            try clear hcz19_9
            try clear hcz20_0
            try clear hcz20_1
            try clear hcz20_10
            try clear hcz20_11
            try clear hcz20_12
            try clear hcz20_2
            try clear hcz20_3
            try clear hcz20_4
            try clear hcz20_5
            try clear hcz20_6
            try clear hcz20_7
            try clear hcz20_8
            try clear hcz20_9
            try clear hcz21_0
            try clear hcz21_1
            try clear hcz21_10
            try clear hcz21_11
            try clear hcz21_12
            try clear hcz21_2
            try clear hcz21_3
            try clear hcz21_4
            try clear hcz21_5
            try clear hcz21_6
            try clear hcz21_7
            try clear hcz21_8
            try clear hcz21_9
            try clear hcz27_0
            try clear hcz27_1
            try clear hcz27_10
            try clear hcz27_11
            try clear hcz27_12
            try clear hcz27_2
            try clear hcz27_3
            try clear hcz27_4
            try clear hcz27_5
            try clear hcz27_6
            try clear hcz27_7
            try clear hcz27_8
            try clear hcz27_9
            try clear hcz30_0
            try clear hcz30_1
            try clear hcz30_10
            try clear hcz30_11
            try clear hcz30_12
            try clear hcz30_2
            try clear hcz30_3
            try clear hcz30_4
            try clear hcz30_5
            try clear hcz30_6
            try clear hcz30_7
            try clear hcz30_8
            try clear hcz30_9
            try clear hcz36_0
            try clear hcz36_1
            try clear hcz36_10
            try clear hcz36_11
            try clear hcz36_12
            try clear hcz36_2
            try clear hcz36_3
            try clear hcz36_4
            try clear hcz36_5
            try clear hcz36_6
            try clear hcz36_7
            try clear hcz36_8
            try clear hcz36_9
            try clear hcz39_0
            try clear hcz39_1
            try clear hcz39_10
            try clear hcz39_11
            try clear hcz39_12
            try clear hcz39_2
            try clear hcz39_3
            try clear hcz39_4
            try clear hcz39_5
            try clear hcz39_6
            try clear hcz39_7
            try clear hcz39_8
            try clear hcz39_9
            try clear hcz45_0
            try clear hcz45_1
            try clear hcz45_10
            try clear hcz45_11
            try clear hcz45_12
            try clear hcz45_2
            try clear hcz45_3
            try clear hcz45_4
            try clear hcz45_5
            try clear hcz45_6
            try clear hcz45_7
            try clear hcz45_8
            try clear hcz45_9
            try clear hcz48_0
            try clear hcz48_1
            try clear hcz48_10
            try clear hcz48_11
            try clear hcz48_12
            try clear hcz48_2
            try clear hcz48_3
            try clear hcz48_4
            try clear hcz48_5
            try clear hcz48_6
            try clear hcz48_7
            try clear hcz48_8
            try clear hcz48_9
            try clear hfz12_0
            try clear hfz12_1
            try clear hfz12_10
            try clear hfz12_11
            try clear hfz12_12
            try clear hfz12_2
            try clear hfz12_3
            try clear hfz12_4
            try clear hfz12_5
            try clear hfz12_6
            try clear hfz12_7
            try clear hfz12_8
            try clear hfz12_9
            try clear hfz14_0
            try clear hfz14_1
            try clear hfz14_10
            try clear hfz14_11
            try clear hfz14_12
            try clear hfz14_2
            try clear hfz14_3
            try clear hfz14_4
            try clear hfz14_5
            try clear hfz14_6
            try clear hfz14_7
            try clear hfz14_8
            try clear hfz14_9
            try clear hfz19_0
            try clear hfz19_1
            try clear hfz19_10
            try clear hfz19_11
            try clear hfz19_12
            try clear hfz19_2
            try clear hfz19_3
            try clear hfz19_4
            try clear hfz19_5
            try clear hfz19_6
            try clear hfz19_7
            try clear hfz19_8
            try clear hfz19_9
            try clear hfz20_0
            try clear hfz20_1
            try clear hfz20_10
            try clear hfz20_11
            try clear hfz20_12
            try clear hfz20_2
            try clear hfz20_3
            try clear hfz20_4
            try clear hfz20_5
            try clear hfz20_6
            try clear hfz20_7
            try clear hfz20_8
            try clear hfz20_9
            try clear hfz21_0
            try clear hfz21_1
            try clear hfz21_10
            try clear hfz21_11
            try clear hfz21_12
            try clear hfz21_2
            try clear hfz21_3
            try clear hfz21_4
            try clear hfz21_5
            try clear hfz21_6
            try clear hfz21_7
            try clear hfz21_8
            try clear hfz21_9
            try clear hfz27_0
            try clear hfz27_1
            try clear hfz27_10
            try clear hfz27_11
            try clear hfz27_12
            try clear hfz27_2
            try clear hfz27_3
            try clear hfz27_4
            try clear hfz27_5
            try clear hfz27_6
            try clear hfz27_7
            try clear hfz27_8
            try clear hfz27_9
            try clear hfz30_0
            try clear hfz30_1
            try clear hfz30_10
            try clear hfz30_11
            try clear hfz30_12
            try clear hfz30_2
            try clear hfz30_3
            try clear hfz30_4
            try clear hfz30_5
            try clear hfz30_6
            try clear hfz30_7
            try clear hfz30_8
            try clear hfz30_9
            try clear hfz36_0
            try clear hfz36_1
            try clear hfz36_10
            try clear hfz36_11
            try clear hfz36_12
            try clear hfz36_2
            try clear hfz36_3
            try clear hfz36_4
            try clear hfz36_5
            try clear hfz36_6
            try clear hfz36_7
            try clear hfz36_8
            try clear hfz36_9
            try clear hfz39_0
            try clear hfz39_1
            try clear hfz39_10
            try clear hfz39_11
            try clear hfz39_12
            try clear hfz39_2
            try clear hfz39_3
            try clear hfz39_4
            try clear hfz39_5
            try clear hfz39_6
            try clear hfz39_7
            try clear hfz39_8
            try clear hfz39_9
            try clear hfz45_0
            try clear hfz45_1
            try clear hfz45_10
            try clear hfz45_11
            try clear hfz45_12
            try clear hfz45_2
            try clear hfz45_3
            try clear hfz45_4
            try clear hfz45_5
            try clear hfz45_6
            try clear hfz45_7
            try clear hfz45_8
            try clear hfz45_9
            try clear hfz48_0
            try clear hfz48_1
            try clear hfz48_10
            try clear hfz48_11
            try clear hfz48_12
            try clear hfz48_2
            try clear hfz48_3
            try clear hfz48_4
            try clear hfz48_5
            try clear hfz48_6
            try clear hfz48_7
            try clear hfz48_8
            try clear hfz48_9
            try clear p2
            try clear p6
            obtain ⟨x6_3, x438012_3, u438012, rfl, HA, HK3, HO_438012, BK434, BK435, BK436, BK437, HB⟩ := hrel
            cases gk with
            | zero => exact absurd HA.out (by simp [bourneref1_two.l0])
            | succ k3 =>
              have H := HA.out
              clear HA
              simp only [bourneref1_two.l0] at H
              by_cases c49 : x6_3 < (l0_12.length : Int)
              · rw [if_pos c49] at H
                have c49b0 : decide (x6_3 < (l0_12.length : Int)) = true := decide_eq_true c49
                clear c49
                by_cases c50 : 0 ≤ x6_3
                · rw [if_pos c50] at H
                  have c50b0 : decide (0 ≤ x6_3) = true := decide_eq_true c50
                  clear c50
                  by_cases c51 : x6_3 < (l1_12.length : Int)
                  · rw [if_pos c51] at H
                    have c51b0 : decide (x6_3 < (l1_12.length : Int)) = true := decide_eq_true c51
                    clear c51
                    by_cases c52 : x438012_3.length < 17592186044416
                    · rw [if_pos c52] at H
                      have LMc52 := Aside0.mk c52
                      clear c52
                      obtain ⟨y442, hy442⟩ : ∃ y_ : List Int, y_ = (x438012_3 ++ [wrap64 ((rd l0_12 x6_3) + (rd l1_12 x6_3))]) := ⟨_, rfl⟩
                      replace H : (bourneref1_two.l0 k3 (wrap64 (x6_3 + 1)) a0_0 a0_1 a0_2 a0_3 a0_4 a0_5 a0_6 a0_7 a0_8 a0_9 a0_10 a0_11 l0_12 a1_0 a1_1 a1_2 a1_3 a1_4 a1_5 a1_6 a1_7 a1_8 a1_9 a1_10 a1_11 l1_12 (wrap64 (a0_0 + a1_0)) (wrap64 (a0_1 + a1_1)) ji3 ji4 x438004_5 x438005_5 x438006_5 x438007_5 x438008_31 x438009_31 x438010_31 x438011_31 y442) = some (r1, r2, r3, r4, r5, r6, r7, r8, r9, r10, r11, r12, r13) := by first | (rw [hy442]; with_reducible exact H) | (have H2_ := (Option.bind_some _ _).symm.trans H; rw [hy442]; with_reducible exact H2_) | (have H2_ := (Option.bind_some _ _).symm.trans H; with_reducible exact H2_) | with_reducible exact H | (rw [hy442]; exact H) | exact H
                      have Ny442 := Aside0.mk hy442
                      clear hy442
                      have H' := Aside0.mk H
                      clear H
                      have hnb53 := NB434_435.out
                      have hnc53 := NB435_434.out
                      have hnb54 := NB434_436.out
                      have hnc54 := NB436_434.out
                      have hnb55 := NB434_437.out
                      have hnc55 := NB437_434.out
                      have hcz56_0 : wr.cell? ⟨gb434, 0, none⟩ = some (.int .i64 a0_0) := (blk_cell BK434.out 0).trans rfl
                      have hcz56_1 : wr.cell? ⟨gb434, 1, none⟩ = some (.int .i64 a0_1) := (blk_cell BK434.out 1).trans rfl
                      have hcz56_2 : wr.cell? ⟨gb434, 2, none⟩ = some (.int .i64 a0_2) := (blk_cell BK434.out 2).trans rfl
                      have hcz56_3 : wr.cell? ⟨gb434, 3, none⟩ = some (.int .i64 a0_3) := (blk_cell BK434.out 3).trans rfl
                      have hcz56_4 : wr.cell? ⟨gb434, 4, none⟩ = some (.int .i64 a0_4) := (blk_cell BK434.out 4).trans rfl
                      have hcz56_5 : wr.cell? ⟨gb434, 5, none⟩ = some (.int .i64 a0_5) := (blk_cell BK434.out 5).trans rfl
                      have hcz56_6 : wr.cell? ⟨gb434, 6, none⟩ = some (.int .i64 a0_6) := (blk_cell BK434.out 6).trans rfl
                      have hcz56_7 : wr.cell? ⟨gb434, 7, none⟩ = some (.int .i64 a0_7) := (blk_cell BK434.out 7).trans rfl
                      have hcz56_8 : wr.cell? ⟨gb434, 8, none⟩ = some (.int .i64 a0_8) := (blk_cell BK434.out 8).trans rfl
                      have hcz56_9 : wr.cell? ⟨gb434, 9, none⟩ = some (.int .i64 a0_9) := (blk_cell BK434.out 9).trans rfl
                      have hcz56_10 : wr.cell? ⟨gb434, 10, none⟩ = some (.int .i64 a0_10) := (blk_cell BK434.out 10).trans rfl
                      have hcz56_11 : wr.cell? ⟨gb434, 11, none⟩ = some (.int .i64 a0_11) := (blk_cell BK434.out 11).trans rfl
                      have hcz56_12 : wr.cell? ⟨gb434, 12, none⟩ = some (.slice A0_12 l0_12.length c0_12) := (blk_cell BK434.out 12).trans rfl
                      have hfz56_0 := blk_frozen BK434.out 0
                      have hfz56_1 := blk_frozen BK434.out 1
                      have hfz56_2 := blk_frozen BK434.out 2
                      have hfz56_3 := blk_frozen BK434.out 3
                      have hfz56_4 := blk_frozen BK434.out 4
                      have hfz56_5 := blk_frozen BK434.out 5
                      have hfz56_6 := blk_frozen BK434.out 6
                      have hfz56_7 := blk_frozen BK434.out 7
                      have hfz56_8 := blk_frozen BK434.out 8
                      have hfz56_9 := blk_frozen BK434.out 9
                      have hfz56_10 := blk_frozen BK434.out 10
                      have hfz56_11 := blk_frozen BK434.out 11
                      have hfz56_12 := blk_frozen BK434.out 12
                      try go_wp2
                      have n0_ := Aside0.mk (Kd.R_drew HO_438012.out)
                      have n1_ := Aside0.mk (blk_drew BK434.out)
                      have n2_ := Aside0.mk (blk_drew BK435.out)
                      have n3_ := Aside0.mk (blk_drew BK436.out)
                      have n4_ := Aside0.mk (blk_drew BK437.out)
                      have n5_ := Aside0.mk (below_drew1 HB.out)
                      clear HO_438012
                      clear BK434
                      clear BK435
                      clear BK436
                      clear BK437
                      clear HB
                      have HO_438012 := n0_
                      have BK434 := n1_
                      have BK435 := n2_
                      have BK436 := n3_
                      have BK437 := n4_
                      have HB := n5_
                      clear n0_ n1_ n2_ n3_ n4_ n5_
                      have p440 : 0 ≤ (x6_3 : Int) := of_decide_eq_true (by first | (with_reducible assumption) | assumption)
                      have q440 : x6_3 < (l0_12.length : Int) := of_decide_eq_true (by first | (with_reducible assumption) | assumption)
                      obtain ⟨ad440, e440, hx440_0⟩ := Kd.at_int HR0_12.out x6_3 p440 q440
                      have hw440_0 := hx440_0
                      cases e440
                      replace hx440_0 := (HB.out.cell (World.block_lt_of_cell? w _ hx440_0)).trans hx440_0
                      replace p440 := eq_true p440
                      replace q440 := eq_true q440
                      have p441 : 0 ≤ (x6_3 : Int) := of_decide_eq_true (by first | (with_reducible assumption) | assumption)
                      have q441 : x6_3 < (l1_12.length : Int) := of_decide_eq_true (by first | (with_reducible assumption) | assumption)
                      obtain ⟨ad441, e441, hx441_0⟩ := Kd.at_int HR1_12.out x6_3 p441 q441
                      have hw441_0 := hx441_0
                      cases e441
                      replace hx441_0 := (HB.out.cell (World.block_lt_of_cell? w _ hx441_0)).trans hx441_0
                      replace p441 := eq_true p441
                      replace q441 := eq_true q441
                      refine start_ (n := 17) (S := fun w' => w'.cell? ⟨gb437, 0, none⟩ = some (.int .i64 (wrap64 (a0_0 + a1_0))) ∧ w'.cell? ⟨gb437, 1, none⟩ = some (.int .i64 (wrap64 (a0_1 + a1_1))) ∧ w'.cell? ⟨gb437, 2, none⟩ = some (.int .i64 ji3) ∧ w'.cell? ⟨gb437, 3, none⟩ = some (.int .i64 ji4) ∧ w'.cell? ⟨gb437, 4, none⟩ = some (.int .i64 x438004_5) ∧ w'.cell? ⟨gb437, 5, none⟩ = some (.int .i64 x438005_5) ∧ w'.cell? ⟨gb437, 6, none⟩ = some (.int .i64 x438006_5) ∧ w'.cell? ⟨gb437, 7, none⟩ = some (.int .i64 x438007_5) ∧ w'.cell? ⟨gb437, 8, none⟩ = some (.int .i64 x438008_31) ∧ w'.cell? ⟨gb437, 9, none⟩ = some (.int .i64 x438009_31) ∧ w'.cell? ⟨gb437, 10, none⟩ = some (.int .i64 x438010_31) ∧ w'.cell? ⟨gb437, 11, none⟩ = some (.int .i64 x438011_31) ∧ w'.cell? ⟨gb437, 12, none⟩ = some (u438012) ∧ w'.cell? ⟨gb434, 0, none⟩ = some (.int .i64 a0_0) ∧ w'.cell? ⟨gb434, 1, none⟩ = some (.int .i64 a0_1) ∧ w'.cell? ⟨gb434, 2, none⟩ = some (.int .i64 a0_2) ∧ w'.cell? ⟨gb434, 3, none⟩ = some (.int .i64 a0_3) ∧ w'.cell? ⟨gb434, 4, none⟩ = some (.int .i64 a0_4) ∧ w'.cell? ⟨gb434, 5, none⟩ = some (.int .i64 a0_5) ∧ w'.cell? ⟨gb434, 6, none⟩ = some (.int .i64 a0_6) ∧ w'.cell? ⟨gb434, 7, none⟩ = some (.int .i64 a0_7) ∧ w'.cell? ⟨gb434, 8, none⟩ = some (.int .i64 a0_8) ∧ w'.cell? ⟨gb434, 9, none⟩ = some (.int .i64 a0_9) ∧ w'.cell? ⟨gb434, 10, none⟩ = some (.int .i64 a0_10) ∧ w'.cell? ⟨gb434, 11, none⟩ = some (.int .i64 a0_11) ∧ w'.cell? ⟨gb434, 12, none⟩ = some (.slice (some ad440) l0_12.length c0_12) ∧ w'.cell? ⟨gb435, 0, none⟩ = some (.int .i64 a1_0) ∧ w'.cell? ⟨gb435, 1, none⟩ = some (.int .i64 a1_1) ∧ w'.cell? ⟨gb435, 2, none⟩ = some (.int .i64 a1_2) ∧ w'.cell? ⟨gb435, 3, none⟩ = some (.int .i64 a1_3) ∧ w'.cell? ⟨gb435, 4, none⟩ = some (.int .i64 a1_4) ∧ w'.cell? ⟨gb435, 5, none⟩ = some (.int .i64 a1_5) ∧ w'.cell? ⟨gb435, 6, none⟩ = some (.int .i64 a1_6) ∧ w'.cell? ⟨gb435, 7, none⟩ = some (.int .i64 a1_7) ∧ w'.cell? ⟨gb435, 8, none⟩ = some (.int .i64 a1_8) ∧ w'.cell? ⟨gb435, 9, none⟩ = some (.int .i64 a1_9) ∧ w'.cell? ⟨gb435, 10, none⟩ = some (.int .i64 a1_10) ∧ w'.cell? ⟨gb435, 11, none⟩ = some (.int .i64 a1_11) ∧ w'.cell? ⟨gb435, 12, none⟩ = some (.slice (some ad441) l1_12.length c1_12) ∧ w'.cell? (ad440.add (x6_3).toNat) = some (.int .i64 (rd l0_12 x6_3)) ∧ w'.cell? (ad441.add (x6_3).toNat) = some (.int .i64 (rd l1_12 x6_3))) (ds := [16]) #[false, false, false, false, false, false, false, false, false, false, false, false, false, false, false, false, false] (by kernel_rfl) rfl rfl ⟨(blk_cell BK437.out 0).trans rfl, (blk_cell BK437.out 1).trans rfl, (blk_cell BK437.out 2).trans rfl, (blk_cell BK437.out 3).trans rfl, (blk_cell BK437.out 4).trans rfl, (blk_cell BK437.out 5).trans rfl, (blk_cell BK437.out 6).trans rfl, (blk_cell BK437.out 7).trans rfl, (blk_cell BK437.out 8).trans rfl, (blk_cell BK437.out 9).trans rfl, (blk_cell BK437.out 10).trans rfl, (blk_cell BK437.out 11).trans rfl, (blk_cell BK437.out 12).trans rfl, (blk_cell BK434.out 0).trans rfl, (blk_cell BK434.out 1).trans rfl, (blk_cell BK434.out 2).trans rfl, (blk_cell BK434.out 3).trans rfl, (blk_cell BK434.out 4).trans rfl, (blk_cell BK434.out 5).trans rfl, (blk_cell BK434.out 6).trans rfl, (blk_cell BK434.out 7).trans rfl, (blk_cell BK434.out 8).trans rfl, (blk_cell BK434.out 9).trans rfl, (blk_cell BK434.out 10).trans rfl, (blk_cell BK434.out 11).trans rfl, (blk_cell BK434.out 12).trans rfl, (blk_cell BK435.out 0).trans rfl, (blk_cell BK435.out 1).trans rfl, (blk_cell BK435.out 2).trans rfl, (blk_cell BK435.out 3).trans rfl, (blk_cell BK435.out 4).trans rfl, (blk_cell BK435.out 5).trans rfl, (blk_cell BK435.out 6).trans rfl, (blk_cell BK435.out 7).trans rfl, (blk_cell BK435.out 8).trans rfl, (blk_cell BK435.out 9).trans rfl, (blk_cell BK435.out 10).trans rfl, (blk_cell BK435.out 11).trans rfl, (blk_cell BK435.out 12).trans rfl, ((HB.out.cell (World.block_lt_of_cell? w _ hw440_0)).trans hw440_0), ((HB.out.cell (World.block_lt_of_cell? w _ hw441_0)).trans hw441_0)⟩ (fun hHeld => ?_); refine with_tabW bourneref1_two.tab9 bourneref1_two.bits9 (fun HT_ HW_ => ?_)
                      generalize wr.drew = w57 at HO_438012 BK434 BK435 BK436 BK437 HB hx440_0 hx441_0 hHeld ⊢
                      refine pure_ (i := 0) (N := some 55) (v := ?_) (a' := ?_) #[true, false, false, false, false, false, false, false, false, false, false, false, false, false, false, false, false] rfl rfl (any_of HT_.out (by kernel_rfl)) (fun _ _ _ h => h) (Or.inl ⟨by rfl, ?_⟩) ?_ ?_
                      rotate_left
                      · intro w'
                        go_simp
                        with_reducible rfl
                      rotate_left
                      · simp only [Act.put, List.setIfInBounds_toArray, List.set_cons_zero, List.set_cons_succ, i64_w, i32_w]
                        rfl
                      refine pure_ (i := 2) (N := some 57) (v := ?_) (a' := ?_) #[true, false, true, false, false, false, false, false, false, false, false, false, false, false, false, false, false] rfl rfl (any_of HT_.out (by kernel_rfl)) (fun _ _ _ h => h) (Or.inl ⟨by rfl, ?_⟩) ?_ ?_
                      rotate_left
                      · intro w'
                        go_simp
                        with_reducible rfl
                      rotate_left
                      · simp only [Act.put, List.setIfInBounds_toArray, List.set_cons_zero, List.set_cons_succ, i64_w, i32_w]
                        rfl
                      refine pure_ (i := 4) (N := some 59) (v := ?_) (a' := ?_) #[true, false, true, false, true, false, false, false, false, false, false, false, false, false, false, false, false] rfl rfl (any_of HT_.out (by kernel_rfl)) (fun _ _ _ h => h) (Or.inl ⟨by rfl, ?_⟩) ?_ ?_
                      rotate_left
                      · intro w'
                        go_simp
                        with_reducible rfl
                      rotate_left
                      · simp only [Act.put, List.setIfInBounds_toArray, List.set_cons_zero, List.set_cons_succ, i64_w, i32_w]
                        rfl
                      refine pure_ (i := 7) (N := some 62) (v := ?_) (a' := ?_) #[true, false, true, false, true, false, false, true, false, false, false, false, false, false, false, false, false] rfl rfl (any_of HT_.out (by kernel_rfl)) (fun _ _ _ h => h) (Or.inl ⟨by rfl, ?_⟩) ?_ ?_
                      rotate_left
                      · intro w'
                        go_simp
                        with_reducible rfl
                      rotate_left
                      · simp only [Act.put, List.setIfInBounds_toArray, List.set_cons_zero, List.set_cons_succ, i64_w, i32_w]
                        rfl
                      refine pure_ (i := 9) (N := some 64) (v := ?_) (a' := ?_) #[true, false, true, false, true, false, false, true, false, true, false, false, false, false, false, false, false] rfl rfl (any_of HT_.out (by kernel_rfl)) (fun _ _ _ h => h) (Or.inl ⟨by rfl, ?_⟩) ?_ ?_
                      rotate_left
                      · intro w'
                        go_simp
                        with_reducible rfl
                      rotate_left
                      · simp only [Act.put, List.setIfInBounds_toArray, List.set_cons_zero, List.set_cons_succ, i64_w, i32_w]
                        rfl
                      refine take_ (i := 1) (N := some 56) (v := ?_) (a' := ?_) #[true, true, true, false, true, false, false, true, false, true, false, false, false, false, false, false, false] rfl rfl (take_ofW HT_.out HW_.out (by kernel_rfl)) (fun _ _ _ h => h) (Or.inl ⟨by rfl, ?_⟩) hHeld ?_ ?_
                      rotate_left
                      · rintro w' ⟨s0, s1, s2, s3, s4, s5, s6, s7, s8, s9, s10, s11, s12, s13, s14, s15, s16, s17, s18, s19, s20, s21, s22, s23, s24, s25, s26, s27, s28, s29, s30, s31, s32, s33, s34, s35, s36, s37, s38, s39, s40⟩
                        go_simp
                        with_reducible rfl
                      rotate_left
                      · simp only [Act.put, List.setIfInBounds_toArray, List.set_cons_zero, List.set_cons_succ, i64_w, i32_w]
                        rfl
                      refine take_ (i := 3) (N := some 58) (v := ?_) (a' := ?_) #[true, true, true, true, true, false, false, true, false, true, false, false, false, false, false, false, false] rfl rfl (take_ofW HT_.out HW_.out (by kernel_rfl)) (fun _ _ _ h => h) (Or.inl ⟨by rfl, ?_⟩) hHeld ?_ ?_
                      rotate_left
                      · rintro w' ⟨s0, s1, s2, s3, s4, s5, s6, s7, s8, s9, s10, s11, s12, s13, s14, s15, s16, s17, s18, s19, s20, s21, s22, s23, s24, s25, s26, s27, s28, s29, s30, s31, s32, s33, s34, s35, s36, s37, s38, s39, s40⟩
                        go_simp
                        with_reducible rfl
                      rotate_left
                      · simp only [Act.put, List.setIfInBounds_toArray, List.set_cons_zero, List.set_cons_succ, i64_w, i32_w]
                        rfl
                      refine pure_ (i := 5) (N := some 60) (v := ?_) (a' := ?_) #[true, true, true, true, true, true, false, true, false, true, false, false, false, false, false, false, false] rfl rfl (any_of HT_.out (by kernel_rfl)) (fun _ _ _ h => h) (Or.inl ⟨by rfl, ?_⟩) ?_ ?_
                      rotate_left
                      · intro w'
                        go_simp
                        with_reducible rfl
                      rotate_left
                      · simp only [Act.put, List.setIfInBounds_toArray, List.set_cons_zero, List.set_cons_succ, i64_w, i32_w]
                        rfl
                      refine take_ (i := 6) (N := some 61) (v := ?_) (a' := ?_) #[true, true, true, true, true, true, true, true, false, true, false, false, false, false, false, false, false] rfl rfl (take_ofW HT_.out HW_.out (by kernel_rfl)) (fun _ _ _ h => h) (Or.inl ⟨by rfl, ?_⟩) hHeld ?_ ?_
                      rotate_left
                      · rintro w' ⟨s0, s1, s2, s3, s4, s5, s6, s7, s8, s9, s10, s11, s12, s13, s14, s15, s16, s17, s18, s19, s20, s21, s22, s23, s24, s25, s26, s27, s28, s29, s30, s31, s32, s33, s34, s35, s36, s37, s38, s39, s40⟩
                        go_simp
                        with_reducible rfl
                      rotate_left
                      · simp only [Act.put, List.setIfInBounds_toArray, List.set_cons_zero, List.set_cons_succ, i64_w, i32_w]
                        rfl
                      refine take_ (i := 8) (N := some 63) (v := ?_) (a' := ?_) #[true, true, true, true, true, true, true, true, true, true, false, false, false, false, false, false, false] rfl rfl (take_ofW HT_.out HW_.out (by kernel_rfl)) (fun _ _ _ h => h) (Or.inl ⟨by rfl, ?_⟩) hHeld ?_ ?_
                      rotate_left
                      · rintro w' ⟨s0, s1, s2, s3, s4, s5, s6, s7, s8, s9, s10, s11, s12, s13, s14, s15, s16, s17, s18, s19, s20, s21, s22, s23, s24, s25, s26, s27, s28, s29, s30, s31, s32, s33, s34, s35, s36, s37, s38, s39, s40⟩
                        go_simp
                        with_reducible rfl
                      rotate_left
                      · simp only [Act.put, List.setIfInBounds_toArray, List.set_cons_zero, List.set_cons_succ, i64_w, i32_w]
                        rfl
                      refine pure_ (i := 10) (N := some 65) (v := ?_) (a' := ?_) #[true, true, true, true, true, true, true, true, true, true, true, false, false, false, false, false, false] rfl rfl (any_of HT_.out (by kernel_rfl)) (fun _ _ _ h => h) (Or.inl ⟨by rfl, ?_⟩) ?_ ?_
                      rotate_left
                      · intro w'
                        go_simp
                        with_reducible rfl
                      rotate_left
                      · simp only [Act.put, List.setIfInBounds_toArray, List.set_cons_zero, List.set_cons_succ, i64_w, i32_w]
                        rfl
                      refine take_ (i := 11) (N := some 66) (v := ?_) (a' := ?_) #[true, true, true, true, true, true, true, true, true, true, true, true, false, false, false, false, false] rfl rfl (take_ofW HT_.out HW_.out (by kernel_rfl)) (fun _ _ _ h => h) (Or.inl ⟨by rfl, ?_⟩) hHeld ?_ ?_
                      rotate_left
                      · rintro w' ⟨s0, s1, s2, s3, s4, s5, s6, s7, s8, s9, s10, s11, s12, s13, s14, s15, s16, s17, s18, s19, s20, s21, s22, s23, s24, s25, s26, s27, s28, s29, s30, s31, s32, s33, s34, s35, s36, s37, s38, s39, s40⟩
                        go_simp
                        with_reducible rfl
                      rotate_left
                      · simp only [Act.put, List.setIfInBounds_toArray, List.set_cons_zero, List.set_cons_succ, i64_w, i32_w]
                        rfl
                      refine pure_ (i := 12) (N := some 67) (v := ?_) (a' := ?_) #[true, true, true, true, true, true, true, true, true, true, true, true, true, false, false, false, false] rfl rfl (any_of HT_.out (by kernel_rfl)) (fun _ _ _ h => h) (Or.inl ⟨by rfl, ?_⟩) ?_ ?_
                      rotate_left
                      · intro w'
                        go_simp
                        with_reducible rfl
                      rotate_left
                      · simp only [Act.put, List.setIfInBounds_toArray, List.set_cons_zero, List.set_cons_succ, i64_w, i32_w]
                        rfl
                      refine one_ (i := 13) (N := some 68) #[true, true, true, true, true, true, true, true, true, true, true, true, true, true, false, false, false] rfl rfl (one_of HT_.out (by kernel_rfl)) (by decide) (fun K hK => ?_)
                      refine value_ (w1 := ?_) (v := ?_) (by rfl) rfl ?_ ?_
                      rotate_left 2
                      · go_simp
                        constructor
                        · rfl
                        · rfl
                      refine hK.out _ _ ⟨(blk_cell (blk_alloc BK437.out _) 0).trans rfl, (blk_cell (blk_alloc BK437.out _) 1).trans rfl, (blk_cell (blk_alloc BK437.out _) 2).trans rfl, (blk_cell (blk_alloc BK437.out _) 3).trans rfl, (blk_cell (blk_alloc BK437.out _) 4).trans rfl, (blk_cell (blk_alloc BK437.out _) 5).trans rfl, (blk_cell (blk_alloc BK437.out _) 6).trans rfl, (blk_cell (blk_alloc BK437.out _) 7).trans rfl, (blk_cell (blk_alloc BK437.out _) 8).trans rfl, (blk_cell (blk_alloc BK437.out _) 9).trans rfl, (blk_cell (blk_alloc BK437.out _) 10).trans rfl, (blk_cell (blk_alloc BK437.out _) 11).trans rfl, (blk_cell (blk_alloc BK437.out _) 12).trans rfl, (blk_cell (blk_alloc BK434.out _) 0).trans rfl, (blk_cell (blk_alloc BK434.out _) 1).trans rfl, (blk_cell (blk_alloc BK434.out _) 2).trans rfl, (blk_cell (blk_alloc BK434.out _) 3).trans rfl, (blk_cell (blk_alloc BK434.out _) 4).trans rfl, (blk_cell (blk_alloc BK434.out _) 5).trans rfl, (blk_cell (blk_alloc BK434.out _) 6).trans rfl, (blk_cell (blk_alloc BK434.out _) 7).trans rfl, (blk_cell (blk_alloc BK434.out _) 8).trans rfl, (blk_cell (blk_alloc BK434.out _) 9).trans rfl, (blk_cell (blk_alloc BK434.out _) 10).trans rfl, (blk_cell (blk_alloc BK434.out _) 11).trans rfl, (blk_cell (blk_alloc BK434.out _) 12).trans rfl, (blk_cell (blk_alloc BK435.out _) 0).trans rfl, (blk_cell (blk_alloc BK435.out _) 1).trans rfl, (blk_cell (blk_alloc BK435.out _) 2).trans rfl, (blk_cell (blk_alloc BK435.out _) 3).trans rfl, (blk_cell (blk_alloc BK435.out _) 4).trans rfl, (blk_cell (blk_alloc BK435.out _) 5).trans rfl, (blk_cell (blk_alloc BK435.out _) 6).trans rfl, (blk_cell (blk_alloc BK435.out _) 7).trans rfl, (blk_cell (blk_alloc BK435.out _) 8).trans rfl, (blk_cell (blk_alloc BK435.out _) 9).trans rfl, (blk_cell (blk_alloc BK435.out _) 10).trans rfl, (blk_cell (blk_alloc BK435.out _) 11).trans rfl, (blk_cell (blk_alloc BK435.out _) 12).trans rfl, (World.cell?_alloc_lt _ _ _ (World.block_lt_of_cell? _ _ (((HB.out.cell (World.block_lt_of_cell? w _ hw440_0)).trans hw440_0)))).trans (((HB.out.cell (World.block_lt_of_cell? w _ hw440_0)).trans hw440_0)), (World.cell?_alloc_lt _ _ _ (World.block_lt_of_cell? _ _ (((HB.out.cell (World.block_lt_of_cell? w _ hw441_0)).trans hw441_0)))).trans (((HB.out.cell (World.block_lt_of_cell? w _ hw441_0)).trans hw441_0))⟩ (fun hHeld => ?_)
                      clear hK K
                      refine norm_ (a' := ?_) ?_ ?_
                      rotate_left
                      · show Act.put _ (some 68) _ = _
                        simp only [Act.put, List.setIfInBounds_toArray, List.set_cons_zero, List.set_cons_succ, i64_w, i32_w]
                        rfl
                      refine one_ (i := 14) (N := some 69) #[true, true, true, true, true, true, true, true, true, true, true, true, true, true, true, false, false] rfl rfl (one_of HT_.out (by kernel_rfl)) (by decide) (fun K hK => ?_)
                      refine Kd.R_append_step (Kd.int .i64) (w0 := w) w.heap.size (by rfl) (.tmp 56) (.tmp 68) 22 3 (.int .i64 0) 8 rfl Try.underlying22 info3 rfl (by decide) (by omega) u438012 x438012_3 (wrap64 ((rd l0_12 x6_3) + (rd l1_12 x6_3))) [.int .i64 (wrap64 ((rd l0_12 x6_3) + (rd l1_12 x6_3)))] (fun _ => True) (fun _ => False) rfl rfl ?aP (fun _ hk => hk.elim) ?aF ?aO ?aB ?aS ?aL ?_
                      (case aP => exact rfl)
                      (case aB => exact (by repeat (first | (with_reducible first | exact HB.out | apply below_alloc | apply pw_below_drewN | apply below_drew1 | refine below_set ?_ GE434.out | refine below_set ?_ GE435.out | refine below_set ?_ GE436.out | refine below_set ?_ GE437.out) | exact HB.out)))
                      (case aF => exact (fun _ _ => trivial))
                      (case aO => exact (by (with_reducible repeat (first | apply Kd.R_alloc | apply Kd.R_drewN | apply Kd.R_drew)); exact HO_438012.out))
                      (case aS => exact (below_size (by repeat (first | (with_reducible first | exact HB.out | apply below_alloc | apply pw_below_drewN | apply below_drew1 | refine below_set ?_ GE434.out | refine below_set ?_ GE435.out | refine below_set ?_ GE436.out | refine below_set ?_ GE437.out) | exact HB.out))))
                      (case aL => have := LMc52.out; omega)
                      intro v443 w58 ho hb hg hat
                      rw [← Ny442.out] at ho
                      have n0_ := Aside0.mk (blk_grown (g := gb434) (o := .cells #[.int .i64 a0_0, .int .i64 a0_1, .int .i64 a0_2, .int .i64 a0_3, .int .i64 a0_4, .int .i64 a0_5, .int .i64 a0_6, .int .i64 a0_7, .int .i64 a0_8, .int .i64 a0_9, .int .i64 a0_10, .int .i64 a0_11, .slice (some ad440) l0_12.length c0_12] 28 (0, 0)) (by (with_reducible repeat (first | refine blk_drewN ?_ _ | refine blk_drew ?_ | refine blk_alloc ?_ _)); exact BK434.out) hg (Kd.R_ne HO_438012.out BK434.out (by decide)))
                      have n1_ := Aside0.mk (blk_grown (g := gb435) (o := .cells #[.int .i64 a1_0, .int .i64 a1_1, .int .i64 a1_2, .int .i64 a1_3, .int .i64 a1_4, .int .i64 a1_5, .int .i64 a1_6, .int .i64 a1_7, .int .i64 a1_8, .int .i64 a1_9, .int .i64 a1_10, .int .i64 a1_11, .slice (some ad441) l1_12.length c1_12] 28 (0, 0)) (by (with_reducible repeat (first | refine blk_drewN ?_ _ | refine blk_drew ?_ | refine blk_alloc ?_ _)); exact BK435.out) hg (Kd.R_ne HO_438012.out BK435.out (by decide)))
                      have n2_ := Aside0.mk (blk_grown (g := gb436) (o := .cells #[.int .i64 0, .int .i64 0, .int .i64 0, .int .i64 0, .int .i64 0, .int .i64 0, .int .i64 0, .int .i64 0, .int .i64 0, .int .i64 0, .int .i64 0, .int .i64 0, .slice none 0 0] 28 (0, 0)) (by (with_reducible repeat (first | refine blk_drewN ?_ _ | refine blk_drew ?_ | refine blk_alloc ?_ _)); exact BK436.out) hg (Kd.R_ne HO_438012.out BK436.out (by decide)))
                      have n3_ := Aside0.mk (blk_grown (g := gb437) (o := .cells #[.int .i64 (wrap64 (a0_0 + a1_0)), .int .i64 (wrap64 (a0_1 + a1_1)), .int .i64 ji3, .int .i64 ji4, .int .i64 x438004_5, .int .i64 x438005_5, .int .i64 x438006_5, .int .i64 x438007_5, .int .i64 x438008_31, .int .i64 x438009_31, .int .i64 x438010_31, .int .i64 x438011_31, u438012] 28 (0, 0)) (by (with_reducible repeat (first | refine blk_drewN ?_ _ | refine blk_drew ?_ | refine blk_alloc ?_ _)); exact BK437.out) hg (Kd.R_ne HO_438012.out BK437.out (by decide)))
                      have n4_ := Aside0.mk (hb)
                      have n5_ := Aside0.mk (ho)
                      clear BK434
                      clear BK435
                      clear BK436
                      clear BK437
                      clear HB
                      clear HO_438012
                      have BK434 := n0_
                      have BK435 := n1_
                      have BK436 := n2_
                      have BK437 := n3_
                      have HB := n4_
                      have HO444 := n5_
                      clear n0_ n1_ n2_ n3_ n4_ n5_
                      clear ho hb hg hat
                      obtain ⟨Ao59, co59, eo59⟩ := Kd.R_slice HO444.out
                      (first | subst eo59 | (injection eo59 with f1_ f2_ f3_; have f4_ := f1_.symm; have f5_ := f3_.symm; clear f1_ f2_ f3_; subst f4_; subst f5_))
                      refine hK.out _ _ ⟨(blk_cell BK437.out 0).trans rfl, (blk_cell BK437.out 1).trans rfl, (blk_cell BK437.out 2).trans rfl, (blk_cell BK437.out 3).trans rfl, (blk_cell BK437.out 4).trans rfl, (blk_cell BK437.out 5).trans rfl, (blk_cell BK437.out 6).trans rfl, (blk_cell BK437.out 7).trans rfl, (blk_cell BK437.out 8).trans rfl, (blk_cell BK437.out 9).trans rfl, (blk_cell BK437.out 10).trans rfl, (blk_cell BK437.out 11).trans rfl, (blk_cell BK437.out 12).trans rfl, (blk_cell BK434.out 0).trans rfl, (blk_cell BK434.out 1).trans rfl, (blk_cell BK434.out 2).trans rfl, (blk_cell BK434.out 3).trans rfl, (blk_cell BK434.out 4).trans rfl, (blk_cell BK434.out 5).trans rfl, (blk_cell BK434.out 6).trans rfl, (blk_cell BK434.out 7).trans rfl, (blk_cell BK434.out 8).trans rfl, (blk_cell BK434.out 9).trans rfl, (blk_cell BK434.out 10).trans rfl, (blk_cell BK434.out 11).trans rfl, (blk_cell BK434.out 12).trans rfl, (blk_cell BK435.out 0).trans rfl, (blk_cell BK435.out 1).trans rfl, (blk_cell BK435.out 2).trans rfl, (blk_cell BK435.out 3).trans rfl, (blk_cell BK435.out 4).trans rfl, (blk_cell BK435.out 5).trans rfl, (blk_cell BK435.out 6).trans rfl, (blk_cell BK435.out 7).trans rfl, (blk_cell BK435.out 8).trans rfl, (blk_cell BK435.out 9).trans rfl, (blk_cell BK435.out 10).trans rfl, (blk_cell BK435.out 11).trans rfl, (blk_cell BK435.out 12).trans rfl, ((HB.out.cell (World.block_lt_of_cell? w _ hw440_0)).trans hw440_0), ((HB.out.cell (World.block_lt_of_cell? w _ hw441_0)).trans hw441_0)⟩ (fun hHeld => ?_)
                      clear hK K
                      refine norm_ (a' := ?_) ?_ ?_
                      rotate_left
                      · show Act.put _ (some 69) _ = _
                        simp only [Act.put, List.setIfInBounds_toArray, List.set_cons_zero, List.set_cons_succ, i64_w, i32_w]
                        rfl
                      refine pure_ (i := 15) (N := some 70) (v := ?_) (a' := ?_) #[true, true, true, true, true, true, true, true, true, true, true, true, true, true, true, true, false] rfl rfl (any_of HT_.out (by kernel_rfl)) (fun _ _ _ h => h) (Or.inl ⟨by rfl, ?_⟩) ?_ ?_
                      rotate_left
                      · intro w'
                        go_simp
                        with_reducible rfl
                      rotate_left
                      · simp only [Act.put, List.setIfInBounds_toArray, List.set_cons_zero, List.set_cons_succ, i64_w, i32_w]
                        rfl
                      refine last_ (i := 16) (N := none) #[true, true, true, true, true, true, true, true, true, true, true, true, true, true, true, true, true] rfl rfl (one_of HT_.out (by kernel_rfl)) (by decide) (fun K hK => ?_)
                      have hs60 : w58.cell? ⟨gb437, 12, none⟩ = some (u438012) := (blk_cell BK437.out 12).trans rfl
                      have hfs60 := blk_frozen BK437.out 12
                      have hns60_0 := NB434_437.out
                      have hns60_1 := NB435_437.out
                      have hns60_2 := NB436_437.out
                      have hms60_0 := NB437_434.out
                      have hms60_1 := NB437_435.out
                      have hms60_2 := NB437_436.out
                      refine skip_ (w1 := ?_) (by rfl) rfl ?_ ?_
                      rotate_left
                      · go_simp
                        rfl
                      refine hK.out _ _ ?_
                      clear hK K
                      refine done_ (done_of HT_.out (by kernel_rfl)) ?_
                      try go_wp2
                      go_roundg k3
                      case measure => have := HJ5.out; have := HJ31.out; have := HK3.out; omega
                      case rel => exact ⟨(wrap64 (x6_3 + 1)), (y442), (.slice Ao59 y442.length co59), (by first | rfl | (simp; done) | (simp [*]; done)), H', ⟨by have := HJ5.out; have := HJ31.out; have := HK3.out; omega⟩, ⟨by (with_reducible repeat (first | apply Kd.R_alloc | apply Kd.R_drewN | apply Kd.R_drew)); exact Kd.R_mono (Kd.R_far (p := ⟨gb437, 12, none⟩) (Kd.R_types HO444.out BK437.out (by decide)) (fun _ hk => hk.2) (.slice Ao59 y442.length co59)) (fun _ hk => trivial)⟩, ⟨by (with_reducible repeat (first | refine blk_drewN ?_ _ | refine blk_drew ?_ | refine blk_alloc ?_ _)); refine blk_far ?_ NB434_437.out _; (with_reducible repeat (first | refine blk_drewN ?_ _ | refine blk_drew ?_ | refine blk_alloc ?_ _)); exact BK434.out⟩, ⟨by (with_reducible repeat (first | refine blk_drewN ?_ _ | refine blk_drew ?_ | refine blk_alloc ?_ _)); refine blk_far ?_ NB435_437.out _; (with_reducible repeat (first | refine blk_drewN ?_ _ | refine blk_drew ?_ | refine blk_alloc ?_ _)); exact BK435.out⟩, ⟨by (with_reducible repeat (first | refine blk_drewN ?_ _ | refine blk_drew ?_ | refine blk_alloc ?_ _)); refine blk_far ?_ NB436_437.out _; (with_reducible repeat (first | refine blk_drewN ?_ _ | refine blk_drew ?_ | refine blk_alloc ?_ _)); exact BK436.out⟩, ⟨by (with_reducible repeat (first | refine blk_drewN ?_ _ | refine blk_drew ?_ | refine blk_alloc ?_ _)); refine blk_put (cs := #[.int .i64 (wrap64 (a0_0 + a1_0)), .int .i64 (wrap64 (a0_1 + a1_1)), .int .i64 ji3, .int .i64 ji4, .int .i64 x438004_5, .int .i64 x438005_5, .int .i64 x438006_5, .int .i64 x438007_5, .int .i64 x438008_31, .int .i64 x438009_31, .int .i64 x438010_31, .int .i64 x438011_31, u438012]) ?_ 12 _ rfl; (with_reducible repeat (first | refine blk_drewN ?_ _ | refine blk_drew ?_ | refine blk_alloc ?_ _)); exact BK437.out⟩, ⟨by repeat (first | (with_reducible first | exact HB.out | apply below_alloc | apply pw_below_drewN | apply below_drew1 | refine below_set ?_ GE434.out | refine below_set ?_ GE435.out | refine below_set ?_ GE436.out | refine below_set ?_ GE437.out) | exact HB.out)⟩⟩
                    · rw [if_neg c52] at H
                      exact absurd H (by simp)
                  · rw [if_neg c51] at H
                    exact absurd H (by simp)
                · rw [if_neg c50] at H
                  exact absurd H (by simp)
              · rw [if_neg c49] at H
                have c49b0 : decide (x6_3 < (l0_12.length : Int)) = false := decide_eq_false c49
                clear c49
                simp only [Option.some.injEq, Prod.mk.injEq] at H
                obtain ⟨rfl, rfl, rfl, rfl, rfl, rfl, rfl, rfl, rfl, rfl, rfl, rfl, rfl⟩ := H
                have hnb61 := NB434_435.out
                have hnc61 := NB435_434.out
                have hnb62 := NB434_436.out
                have hnc62 := NB436_434.out
                have hnb63 := NB434_437.out
                have hnc63 := NB437_434.out
                have hcz64_0 : wr.cell? ⟨gb434, 0, none⟩ = some (.int .i64 a0_0) := (blk_cell BK434.out 0).trans rfl
                have hcz64_1 : wr.cell? ⟨gb434, 1, none⟩ = some (.int .i64 a0_1) := (blk_cell BK434.out 1).trans rfl
                have hcz64_2 : wr.cell? ⟨gb434, 2, none⟩ = some (.int .i64 a0_2) := (blk_cell BK434.out 2).trans rfl
                have hcz64_3 : wr.cell? ⟨gb434, 3, none⟩ = some (.int .i64 a0_3) := (blk_cell BK434.out 3).trans rfl
                have hcz64_4 : wr.cell? ⟨gb434, 4, none⟩ = some (.int .i64 a0_4) := (blk_cell BK434.out 4).trans rfl
                have hcz64_5 : wr.cell? ⟨gb434, 5, none⟩ = some (.int .i64 a0_5) := (blk_cell BK434.out 5).trans rfl
                have hcz64_6 : wr.cell? ⟨gb434, 6, none⟩ = some (.int .i64 a0_6) := (blk_cell BK434.out 6).trans rfl
                have hcz64_7 : wr.cell? ⟨gb434, 7, none⟩ = some (.int .i64 a0_7) := (blk_cell BK434.out 7).trans rfl
                have hcz64_8 : wr.cell? ⟨gb434, 8, none⟩ = some (.int .i64 a0_8) := (blk_cell BK434.out 8).trans rfl
                have hcz64_9 : wr.cell? ⟨gb434, 9, none⟩ = some (.int .i64 a0_9) := (blk_cell BK434.out 9).trans rfl
                have hcz64_10 : wr.cell? ⟨gb434, 10, none⟩ = some (.int .i64 a0_10) := (blk_cell BK434.out 10).trans rfl
                have hcz64_11 : wr.cell? ⟨gb434, 11, none⟩ = some (.int .i64 a0_11) := (blk_cell BK434.out 11).trans rfl
                have hcz64_12 : wr.cell? ⟨gb434, 12, none⟩ = some (.slice A0_12 l0_12.length c0_12) := (blk_cell BK434.out 12).trans rfl
                have hfz64_0 := blk_frozen BK434.out 0
                have hfz64_1 := blk_frozen BK434.out 1
                have hfz64_2 := blk_frozen BK434.out 2
                have hfz64_3 := blk_frozen BK434.out 3
                have hfz64_4 := blk_frozen BK434.out 4
                have hfz64_5 := blk_frozen BK434.out 5
                have hfz64_6 := blk_frozen BK434.out 6
                have hfz64_7 := blk_frozen BK434.out 7
                have hfz64_8 := blk_frozen BK434.out 8
                have hfz64_9 := blk_frozen BK434.out 9
                have hfz64_10 := blk_frozen BK434.out 10
                have hfz64_11 := blk_frozen BK434.out 11
                have hfz64_12 := blk_frozen BK434.out 12
                have hnb65 := NB437_435.out
                have hnc65 := NB435_437.out
                have hnb66 := NB437_436.out
                have hnc66 := NB436_437.out
                have hcz67_0 : wr.cell? ⟨gb437, 0, none⟩ = some (.int .i64 (wrap64 (a0_0 + a1_0))) := (blk_cell BK437.out 0).trans rfl
                have hcz67_1 : wr.cell? ⟨gb437, 1, none⟩ = some (.int .i64 (wrap64 (a0_1 + a1_1))) := (blk_cell BK437.out 1).trans rfl
                have hcz67_2 : wr.cell? ⟨gb437, 2, none⟩ = some (.int .i64 ji3) := (blk_cell BK437.out 2).trans rfl
                have hcz67_3 : wr.cell? ⟨gb437, 3, none⟩ = some (.int .i64 ji4) := (blk_cell BK437.out 3).trans rfl
                have hcz67_4 : wr.cell? ⟨gb437, 4, none⟩ = some (.int .i64 x438004_5) := (blk_cell BK437.out 4).trans rfl
                have hcz67_5 : wr.cell? ⟨gb437, 5, none⟩ = some (.int .i64 x438005_5) := (blk_cell BK437.out 5).trans rfl
                have hcz67_6 : wr.cell? ⟨gb437, 6, none⟩ = some (.int .i64 x438006_5) := (blk_cell BK437.out 6).trans rfl
                have hcz67_7 : wr.cell? ⟨gb437, 7, none⟩ = some (.int .i64 x438007_5) := (blk_cell BK437.out 7).trans rfl
                have hcz67_8 : wr.cell? ⟨gb437, 8, none⟩ = some (.int .i64 x438008_31) := (blk_cell BK437.out 8).trans rfl
                have hcz67_9 : wr.cell? ⟨gb437, 9, none⟩ = some (.int .i64 x438009_31) := (blk_cell BK437.out 9).trans rfl
                have hcz67_10 : wr.cell? ⟨gb437, 10, none⟩ = some (.int .i64 x438010_31) := (blk_cell BK437.out 10).trans rfl
                have hcz67_11 : wr.cell? ⟨gb437, 11, none⟩ = some (.int .i64 x438011_31) := (blk_cell BK437.out 11).trans rfl
                have hcz67_12 : wr.cell? ⟨gb437, 12, none⟩ = some (u438012) := (blk_cell BK437.out 12).trans rfl
                have hfz67_0 := blk_frozen BK437.out 0
                have hfz67_1 := blk_frozen BK437.out 1
                have hfz67_2 := blk_frozen BK437.out 2
                have hfz67_3 := blk_frozen BK437.out 3
                have hfz67_4 := blk_frozen BK437.out 4
                have hfz67_5 := blk_frozen BK437.out 5
                have hfz67_6 := blk_frozen BK437.out 6
                have hfz67_7 := blk_frozen BK437.out 7
                have hfz67_8 := blk_frozen BK437.out 8
                have hfz67_9 := blk_frozen BK437.out 9
                have hfz67_10 := blk_frozen BK437.out 10
                have hfz67_11 := blk_frozen BK437.out 11
                have hfz67_12 := blk_frozen BK437.out 12
                have hnb68 := NB436_435.out
                have hnc68 := NB435_436.out
                have hcz69_0 : wr.cell? ⟨gb436, 0, none⟩ = some (.int .i64 0) := (blk_cell BK436.out 0).trans rfl
                have hcz69_1 : wr.cell? ⟨gb436, 1, none⟩ = some (.int .i64 0) := (blk_cell BK436.out 1).trans rfl
                have hcz69_2 : wr.cell? ⟨gb436, 2, none⟩ = some (.int .i64 0) := (blk_cell BK436.out 2).trans rfl
                have hcz69_3 : wr.cell? ⟨gb436, 3, none⟩ = some (.int .i64 0) := (blk_cell BK436.out 3).trans rfl
                have hcz69_4 : wr.cell? ⟨gb436, 4, none⟩ = some (.int .i64 0) := (blk_cell BK436.out 4).trans rfl
                have hcz69_5 : wr.cell? ⟨gb436, 5, none⟩ = some (.int .i64 0) := (blk_cell BK436.out 5).trans rfl
                have hcz69_6 : wr.cell? ⟨gb436, 6, none⟩ = some (.int .i64 0) := (blk_cell BK436.out 6).trans rfl
                have hcz69_7 : wr.cell? ⟨gb436, 7, none⟩ = some (.int .i64 0) := (blk_cell BK436.out 7).trans rfl
                have hcz69_8 : wr.cell? ⟨gb436, 8, none⟩ = some (.int .i64 0) := (blk_cell BK436.out 8).trans rfl
                have hcz69_9 : wr.cell? ⟨gb436, 9, none⟩ = some (.int .i64 0) := (blk_cell BK436.out 9).trans rfl
                have hcz69_10 : wr.cell? ⟨gb436, 10, none⟩ = some (.int .i64 0) := (blk_cell BK436.out 10).trans rfl
                have hcz69_11 : wr.cell? ⟨gb436, 11, none⟩ = some (.int .i64 0) := (blk_cell BK436.out 11).trans rfl
                have hcz69_12 : wr.cell? ⟨gb436, 12, none⟩ = some (.slice none 0 0) := (blk_cell BK436.out 12).trans rfl
                have hfz69_0 := blk_frozen BK436.out 0
                have hfz69_1 := blk_frozen BK436.out 1
                have hfz69_2 := blk_frozen BK436.out 2
                have hfz69_3 := blk_frozen BK436.out 3
                have hfz69_4 := blk_frozen BK436.out 4
                have hfz69_5 := blk_frozen BK436.out 5
                have hfz69_6 := blk_frozen BK436.out 6
                have hfz69_7 := blk_frozen BK436.out 7
                have hfz69_8 := blk_frozen BK436.out 8
                have hfz69_9 := blk_frozen BK436.out 9
                have hfz69_10 := blk_frozen BK436.out 10
                have hfz69_11 := blk_frozen BK436.out 11
                have hfz69_12 := blk_frozen BK436.out 12
                obtain ⟨Ao70, co70, eo70⟩ := Kd.R_slice HO_438012.out
                subst eo70
                go_wp2
                refine bodyPost_ret (results_cell_row rfl _ _ gb436 28 #[.int .i64 (wrap64 (a0_0 + a1_0)), .int .i64 (wrap64 (a0_1 + a1_1)), .int .i64 ji3, .int .i64 ji4, .int .i64 x438004_5, .int .i64 x438005_5, .int .i64 x438006_5, .int .i64 x438007_5, .int .i64 x438008_31, .int .i64 x438009_31, .int .i64 x438010_31, .int .i64 x438011_31, .slice Ao70 x438012_3.length co70] (0, 0) _ rfl (by (with_reducible repeat (first | refine blk_drewN ?_ _ | refine blk_drew ?_ | refine blk_alloc ?_ _)); refine blk_put (cs := #[.int .i64 (wrap64 (a0_0 + a1_0)), .int .i64 (wrap64 (a0_1 + a1_1)), .int .i64 ji3, .int .i64 ji4, .int .i64 x438004_5, .int .i64 x438005_5, .int .i64 x438006_5, .int .i64 x438007_5, .int .i64 x438008_31, .int .i64 x438009_31, .int .i64 x438010_31, .int .i64 x438011_31, .slice none 0 0]) ?_ 12 _ rfl; (with_reducible repeat (first | refine blk_drewN ?_ _ | refine blk_drew ?_ | refine blk_alloc ?_ _)); refine blk_put (cs := #[.int .i64 (wrap64 (a0_0 + a1_0)), .int .i64 (wrap64 (a0_1 + a1_1)), .int .i64 ji3, .int .i64 ji4, .int .i64 x438004_5, .int .i64 x438005_5, .int .i64 x438006_5, .int .i64 x438007_5, .int .i64 x438008_31, .int .i64 x438009_31, .int .i64 x438010_31, .int .i64 0, .slice none 0 0]) ?_ 11 _ rfl; (with_reducible repeat (first | refine blk_drewN ?_ _ | refine blk_drew ?_ | refine blk_alloc ?_ _)); refine blk_put (cs := #[.int .i64 (wrap64 (a0_0 + a1_0)), .int .i64 (wrap64 (a0_1 + a1_1)), .int .i64 ji3, .int .i64 ji4, .int .i64 x438004_5, .int .i64 x438005_5, .int .i64 x438006_5, .int .i64 x438007_5, .int .i64 x438008_31, .int .i64 x438009_31, .int .i64 0, .int .i64 0, .slice none 0 0]) ?_ 10 _ rfl; (with_reducible repeat (first | refine blk_drewN ?_ _ | refine blk_drew ?_ | refine blk_alloc ?_ _)); refine blk_put (cs := #[.int .i64 (wrap64 (a0_0 + a1_0)), .int .i64 (wrap64 (a0_1 + a1_1)), .int .i64 ji3, .int .i64 ji4, .int .i64 x438004_5, .int .i64 x438005_5, .int .i64 x438006_5, .int .i64 x438007_5, .int .i64 x438008_31, .int .i64 0, .int .i64 0, .int .i64 0, .slice none 0 0]) ?_ 9 _ rfl; (with_reducible repeat (first | refine blk_drewN ?_ _ | refine blk_drew ?_ | refine blk_alloc ?_ _)); refine blk_put (cs := #[.int .i64 (wrap64 (a0_0 + a1_0)), .int .i64 (wrap64 (a0_1 + a1_1)), .int .i64 ji3, .int .i64 ji4, .int .i64 x438004_5, .int .i64 x438005_5, .int .i64 x438006_5, .int .i64 x438007_5, .int .i64 0, .int .i64 0, .int .i64 0, .int .i64 0, .slice none 0 0]) ?_ 8 _ rfl; (with_reducible repeat (first | refine blk_drewN ?_ _ | refine blk_drew ?_ | refine blk_alloc ?_ _)); refine blk_put (cs := #[.int .i64 (wrap64 (a0_0 + a1_0)), .int .i64 (wrap64 (a0_1 + a1_1)), .int .i64 ji3, .int .i64 ji4, .int .i64 x438004_5, .int .i64 x438005_5, .int .i64 x438006_5, .int .i64 0, .int .i64 0, .int .i64 0, .int .i64 0, .int .i64 0, .slice none 0 0]) ?_ 7 _ rfl; (with_reducible repeat (first | refine blk_drewN ?_ _ | refine blk_drew ?_ | refine blk_alloc ?_ _)); refine blk_put (cs := #[.int .i64 (wrap64 (a0_0 + a1_0)), .int .i64 (wrap64 (a0_1 + a1_1)), .int .i64 ji3, .int .i64 ji4, .int .i64 x438004_5, .int .i64 x438005_5, .int .i64 0, .int .i64 0, .int .i64 0, .int .i64 0, .int .i64 0, .int .i64 0, .slice none 0 0]) ?_ 6 _ rfl; (with_reducible repeat (first | refine blk_drewN ?_ _ | refine blk_drew ?_ | refine blk_alloc ?_ _)); refine blk_put (cs := #[.int .i64 (wrap64 (a0_0 + a1_0)), .int .i64 (wrap64 (a0_1 + a1_1)), .int .i64 ji3, .int .i64 ji4, .int .i64 x438004_5, .int .i64 0, .int .i64 0, .int .i64 0, .int .i64 0, .int .i64 0, .int .i64 0, .int .i64 0, .slice none 0 0]) ?_ 5 _ rfl; (with_reducible repeat (first | refine blk_drewN ?_ _ | refine blk_drew ?_ | refine blk_alloc ?_ _)); refine blk_put (cs := #[.int .i64 (wrap64 (a0_0 + a1_0)), .int .i64 (wrap64 (a0_1 + a1_1)), .int .i64 ji3, .int .i64 ji4, .int .i64 0, .int .i64 0, .int .i64 0, .int .i64 0, .int .i64 0, .int .i64 0, .int .i64 0, .int .i64 0, .slice none 0 0]) ?_ 4 _ rfl; (with_reducible repeat (first | refine blk_drewN ?_ _ | refine blk_drew ?_ | refine blk_alloc ?_ _)); refine blk_put (cs := #[.int .i64 (wrap64 (a0_0 + a1_0)), .int .i64 (wrap64 (a0_1 + a1_1)), .int .i64 ji3, .int .i64 0, .int .i64 0, .int .i64 0, .int .i64 0, .int .i64 0, .int .i64 0, .int .i64 0, .int .i64 0, .int .i64 0, .slice none 0 0]) ?_ 3 _ rfl; (with_reducible repeat (first | refine blk_drewN ?_ _ | refine blk_drew ?_ | refine blk_alloc ?_ _)); refine blk_put (cs := #[.int .i64 (wrap64 (a0_0 + a1_0)), .int .i64 (wrap64 (a0_1 + a1_1)), .int .i64 0, .int .i64 0, .int .i64 0, .int .i64 0, .int .i64 0, .int .i64 0, .int .i64 0, .int .i64 0, .int .i64 0, .int .i64 0, .slice none 0 0]) ?_ 2 _ rfl; (with_reducible repeat (first | refine blk_drewN ?_ _ | refine blk_drew ?_ | refine blk_alloc ?_ _)); refine blk_put (cs := #[.int .i64 (wrap64 (a0_0 + a1_0)), .int .i64 0, .int .i64 0, .int .i64 0, .int .i64 0, .int .i64 0, .int .i64 0, .int .i64 0, .int .i64 0, .int .i64 0, .int .i64 0, .int .i64 0, .slice none 0 0]) ?_ 1 _ rfl; (with_reducible repeat (first | refine blk_drewN ?_ _ | refine blk_drew ?_ | refine blk_alloc ?_ _)); refine blk_put (cs := #[.int .i64 0, .int .i64 0, .int .i64 0, .int .i64 0, .int .i64 0, .int .i64 0, .int .i64 0, .int .i64 0, .int .i64 0, .int .i64 0, .int .i64 0, .int .i64 0, .slice none 0 0]) ?_ 0 _ rfl; (with_reducible repeat (first | refine blk_drewN ?_ _ | refine blk_drew ?_ | refine blk_alloc ?_ _)); exact BK436.out) Try.underlying28 rfl (by kernel_rfl)) rfl ?_
                exact ⟨_, by first | rfl | (simp [errW_none, errW_some] <;> rfl) | (simp only [← hji3, ← hji4]; first | rfl | (simp [errW_none, errW_some] <;> rfl)) | (simp [*, errW_none, errW_some] <;> rfl), by (with_reducible repeat (first | apply Kd.R_alloc | apply Kd.R_drewN | apply Kd.R_drew)); exact Kd.R_mono (Kd.R_far (p := ⟨gb436, 12, none⟩) (Kd.R_far (p := ⟨gb436, 11, none⟩) (Kd.R_far (p := ⟨gb436, 10, none⟩) (Kd.R_far (p := ⟨gb436, 9, none⟩) (Kd.R_far (p := ⟨gb436, 8, none⟩) (Kd.R_far (p := ⟨gb436, 7, none⟩) (Kd.R_far (p := ⟨gb436, 6, none⟩) (Kd.R_far (p := ⟨gb436, 5, none⟩) (Kd.R_far (p := ⟨gb436, 4, none⟩) (Kd.R_far (p := ⟨gb436, 3, none⟩) (Kd.R_far (p := ⟨gb436, 2, none⟩) (Kd.R_far (p := ⟨gb436, 1, none⟩) (Kd.R_far (p := ⟨gb436, 0, none⟩) (Kd.R_types HO_438012.out BK436.out (by decide)) (fun _ hk => hk.2) (.int .i64 (wrap64 (a0_0 + a1_0)))) (fun _ hk => hk.2) (.int .i64 (wrap64 (a0_1 + a1_1)))) (fun _ hk => hk.2) (.int .i64 ji3)) (fun _ hk => hk.2) (.int .i64 ji4)) (fun _ hk => hk.2) (.int .i64 x438004_5)) (fun _ hk => hk.2) (.int .i64 x438005_5)) (fun _ hk => hk.2) (.int .i64 x438006_5)) (fun _ hk => hk.2) (.int .i64 x438007_5)) (fun _ hk => hk.2) (.int .i64 x438008_31)) (fun _ hk => hk.2) (.int .i64 x438009_31)) (fun _ hk => hk.2) (.int .i64 x438010_31)) (fun _ hk => hk.2) (.int .i64 x438011_31)) (fun _ hk => hk.2) (.slice Ao70 x438012_3.length co70)) (fun _ hk => trivial), by repeat (first | (with_reducible first | exact HB.out | apply below_alloc | apply pw_below_drewN | apply below_drew1 | refine below_set ?_ GE434.out | refine below_set ?_ GE435.out | refine below_set ?_ GE436.out | refine below_set ?_ GE437.out) | exact HB.out)⟩

end Go.Proofs.Ytggaefklcpbfnaa.Pa
