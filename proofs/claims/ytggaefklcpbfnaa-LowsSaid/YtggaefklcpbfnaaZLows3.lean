/- Lemmas, contracts of functions and plain laws, part 3: what the row's proof uses. No statement of the seed is proved here. -/
import Derived.Test.YtggaefklcpbfnaaYPa0
import Derived.Test.YtggaefklcpbfnaaZLows2
import Derived.Test.YtggaefklcpbfnaaYPaBourneref1rank
import Derived.Test.YtggaefklcpbfnaaYPaRLeaf
import Derived.Test.YtggaefklcpbfnaaZLows1
import Derived.Test.YtggaefklcpbfnaaYPaInts
import Derived.Test.YtggaefklcpbfnaaYPaItem2
import Derived.Test.YtggaefklcpbfnaaYPaLeaf
import Derived.Test.YtggaefklcpbfnaaYPaSameA
namespace Go.Proofs.Ytggaefklcpbfnaa.Pa
open Go.RowKit Go.Proofs.YtggaefklcpbfnaaW.PrintWords Go.Proofs.YtggaefklcpbfnaaW.PrintLast Go.Proofs.YtggaefklcpbfnaaW.PrintMore
attribute [local go_sem] max2_int min2_int max_two min_two max_three min_three max_four min_four   -- for this text's walks alone
set_option linter.unusedVariables false
set_option linter.unusedSimpArgs false

def bourneref1_Value.j0 : Nat → Bool → Int → Int → Int → Int → List Int → Int → Int → Int → Int → Int → Int → Int → Int → Int → Int → Int → Int → Int → List Int → Option (Int × Bool × List Int × Int)
  | 0, _, _, _, _, _, _, _, _, _, _, _, _, _, _, _, _, _, _, _, _ => none
  | k + 1, x46, x529000, x529001, x529002, x529003, x529004, x529005, x530000, x530001, x530002, x530003, x530004, x530005, x530006, x530007, x530008, x530009, x530010, x530011, x530012 => if x46 = true then (some (0, false, ([] : List Int), 200)) else (if x529001 = 0 then (some (x530000, false, ([] : List Int), 0)) else (if x529001 = 1 then ((bourneref1_within.f x530001 1125899906842624).bind fun t532 => (if t532 = true then (some (x530001, false, ([] : List Int), 0)) else (some (0, true, ([] : List Int), 0)))) else (if x529001 = 2 then (some (x530002, false, ([] : List Int), 0)) else (if x529001 = 3 then (some (x530003, false, ([] : List Int), 0)) else (if x529001 = 4 then (some (x530007, false, ([] : List Int), 0)) else (if x529001 = 5 then (some (x530011, false, ([] : List Int), 0)) else (if x529001 = 6 then ((some (([] : List Int) : List Int)).bind fun y533 => (if y533.length + x530012.length < 17592186044416 then (some (0, false, (y533 ++ x530012), 0)) else (none))) else ((bourneref1_rank.f k x529000 x529001 x529002 x529003 x529004 x529005 x530000 x530001 x530002 x530003 x530004 x530005 x530006 x530007 x530008 x530009 x530010 x530011 x530012).bind fun t539 => (some (t539, false, ([] : List Int), 0))))))))))
def bourneref1_Value.f (k : Nat) (a0_0 : Int) (a0_1 : Int) (a0_2 : Int) (a0_3 : Int) (l0_4 : List Int) (a0_5 : Int) (a1_0 : Int) (a1_1 : Int) (a1_2 : Int) (a1_3 : Int) (a1_4 : Int) (a1_5 : Int) (a1_6 : Int) (a1_7 : Int) (a1_8 : Int) (a1_9 : Int) (a1_10 : Int) (a1_11 : Int) (l1_12 : List Int) : Option (Int × Bool × List Int × Int) := if a0_1 < 0 then (bourneref1_Value.j0 k true a0_0 a0_1 a0_2 a0_3 l0_4 a0_5 a1_0 a1_1 a1_2 a1_3 a1_4 a1_5 a1_6 a1_7 a1_8 a1_9 a1_10 a1_11 l1_12) else (if a0_1 > 7 then (bourneref1_Value.j0 k true a0_0 a0_1 a0_2 a0_3 l0_4 a0_5 a1_0 a1_1 a1_2 a1_3 a1_4 a1_5 a1_6 a1_7 a1_8 a1_9 a1_10 a1_11 l1_12) else (if a0_5 < 0 then (bourneref1_Value.j0 k true a0_0 a0_1 a0_2 a0_3 l0_4 a0_5 a1_0 a1_1 a1_2 a1_3 a1_4 a1_5 a1_6 a1_7 a1_8 a1_9 a1_10 a1_11 l1_12) else (if a0_5 > 1000 then (bourneref1_Value.j0 k true a0_0 a0_1 a0_2 a0_3 l0_4 a0_5 a1_0 a1_1 a1_2 a1_3 a1_4 a1_5 a1_6 a1_7 a1_8 a1_9 a1_10 a1_11 l1_12) else ((bourneref1_AccMay.f a1_0 a1_1 a1_2 a1_3 a1_4 a1_5 a1_6 a1_7 a1_8 a1_9 a1_10 a1_11 l1_12 l0_4).bind fun t531 => (if t531 = true then (if a1_0 = 0 then (bourneref1_Value.j0 k true a0_0 a0_1 a0_2 a0_3 l0_4 a0_5 a1_0 a1_1 a1_2 a1_3 a1_4 a1_5 a1_6 a1_7 a1_8 a1_9 a1_10 a1_11 l1_12) else (if a0_1 = 7 then (bourneref1_Value.j0 k ((l0_4.length : Int) == 0) a0_0 a0_1 a0_2 a0_3 l0_4 a0_5 a1_0 a1_1 a1_2 a1_3 a1_4 a1_5 a1_6 a1_7 a1_8 a1_9 a1_10 a1_11 l1_12) else (bourneref1_Value.j0 k false a0_0 a0_1 a0_2 a0_3 l0_4 a0_5 a1_0 a1_1 a1_2 a1_3 a1_4 a1_5 a1_6 a1_7 a1_8 a1_9 a1_10 a1_11 l1_12))) else (bourneref1_Value.j0 k true a0_0 a0_1 a0_2 a0_3 l0_4 a0_5 a1_0 a1_1 a1_2 a1_3 a1_4 a1_5 a1_6 a1_7 a1_8 a1_9 a1_10 a1_11 l1_12))))))
set_option maxHeartbeats 8000000 in
set_option maxRecDepth 100000 in
theorem bourneref1_Value.calls (k : Nat) (a0_0 : Int) (a0_1 : Int) (a0_2 : Int) (a0_3 : Int) (A0_4 : Option Addr) (c0_4 : Nat) (l0_4 : List Int) (a0_5 : Int) (a1_0 : Int) (a1_1 : Int) (a1_2 : Int) (a1_3 : Int) (a1_4 : Int) (a1_5 : Int) (a1_6 : Int) (a1_7 : Int) (a1_8 : Int) (a1_9 : Int) (a1_10 : Int) (a1_11 : Int) (A1_12 : Option Addr) (c1_12 : Nat) (l1_12 : List Int) (r1 : Int) (r2 : Bool) (r3 : List Int) (r4 : Int) (w : World) (hr0_4 : Kd.C (Kd.int .i64) w A0_4 l0_4.length l0_4) (hc0_4 : l0_4.length ≤ c0_4) (hr1_12 : Kd.C (Kd.int .i64) w A1_12 l1_12.length l1_12) (hc1_12 : l1_12.length ≤ c1_12) (h : bourneref1_Value.f k a0_0 a0_1 a0_2 a0_3 l0_4 a0_5 a1_0 a1_1 a1_2 a1_3 a1_4 a1_5 a1_6 a1_7 a1_8 a1_9 a1_10 a1_11 l1_12 = some (r1, r2, r3, r4)) :
    Calls Try.prog 18 #[.agg #[.int .i64 a0_0, .int .i64 a0_1, .int .i64 a0_2, .int .i64 a0_3, .slice A0_4 l0_4.length c0_4, .int .i64 a0_5], .agg #[.int .i64 a1_0, .int .i64 a1_1, .int .i64 a1_2, .int .i64 a1_3, .int .i64 a1_4, .int .i64 a1_5, .int .i64 a1_6, .int .i64 a1_7, .int .i64 a1_8, .int .i64 a1_9, .int .i64 a1_10, .int .i64 a1_11, .slice A1_12 l1_12.length c1_12]] w fun e w' => ∃ v2_ : Value, e = .returned (.tuple #[.agg #[.int .i64 r1, .bool r2, v2_], .int .i64 r4]) ∧ Kd.R (Kd.int .i64) 3 w' w.heap.size (fun _ => True) v2_ r3 ∧ Below w.heap.size w w' := by
  have hu24 := Try.underlying24
  have hu28 := Try.underlying28
  have hu31 := Try.underlying31
  have HR0_4 := Aside0.mk hr0_4
  have HC0_4 := Aside0.mk hc0_4
  clear hr0_4 hc0_4
  have HR1_12 := Aside0.mk hr1_12
  have HC1_12 := Aside0.mk hc1_12
  clear hr1_12 hc1_12
  have HB := Aside0.mk (Below.refl w.heap.size w)
  have H : (if a0_1 < 0 then (bourneref1_Value.j0 k true a0_0 a0_1 a0_2 a0_3 l0_4 a0_5 a1_0 a1_1 a1_2 a1_3 a1_4 a1_5 a1_6 a1_7 a1_8 a1_9 a1_10 a1_11 l1_12) else (if a0_1 > 7 then (bourneref1_Value.j0 k true a0_0 a0_1 a0_2 a0_3 l0_4 a0_5 a1_0 a1_1 a1_2 a1_3 a1_4 a1_5 a1_6 a1_7 a1_8 a1_9 a1_10 a1_11 l1_12) else (if a0_5 < 0 then (bourneref1_Value.j0 k true a0_0 a0_1 a0_2 a0_3 l0_4 a0_5 a1_0 a1_1 a1_2 a1_3 a1_4 a1_5 a1_6 a1_7 a1_8 a1_9 a1_10 a1_11 l1_12) else (if a0_5 > 1000 then (bourneref1_Value.j0 k true a0_0 a0_1 a0_2 a0_3 l0_4 a0_5 a1_0 a1_1 a1_2 a1_3 a1_4 a1_5 a1_6 a1_7 a1_8 a1_9 a1_10 a1_11 l1_12) else ((bourneref1_AccMay.f a1_0 a1_1 a1_2 a1_3 a1_4 a1_5 a1_6 a1_7 a1_8 a1_9 a1_10 a1_11 l1_12 l0_4).bind fun t531 => (if t531 = true then (if a1_0 = 0 then (bourneref1_Value.j0 k true a0_0 a0_1 a0_2 a0_3 l0_4 a0_5 a1_0 a1_1 a1_2 a1_3 a1_4 a1_5 a1_6 a1_7 a1_8 a1_9 a1_10 a1_11 l1_12) else (if a0_1 = 7 then (bourneref1_Value.j0 k ((l0_4.length : Int) == 0) a0_0 a0_1 a0_2 a0_3 l0_4 a0_5 a1_0 a1_1 a1_2 a1_3 a1_4 a1_5 a1_6 a1_7 a1_8 a1_9 a1_10 a1_11 l1_12) else (bourneref1_Value.j0 k false a0_0 a0_1 a0_2 a0_3 l0_4 a0_5 a1_0 a1_1 a1_2 a1_3 a1_4 a1_5 a1_6 a1_7 a1_8 a1_9 a1_10 a1_11 l1_12))) else (bourneref1_Value.j0 k true a0_0 a0_1 a0_2 a0_3 l0_4 a0_5 a1_0 a1_1 a1_2 a1_3 a1_4 a1_5 a1_6 a1_7 a1_8 a1_9 a1_10 a1_11 l1_12))))))) = some (r1, r2, r3, r4) := h
  clear h
  have HC3 := Aside0.mk H
  clear H
  go_enter Try.func18, Try.ntmps18
  go_upto_region 1 with (first | ((with_reducible refine gate_dst (N := 2) rfl ?_); (try (refine gate_guard (by rfl) ?_; dsimp only)); refine box_event ?hg (N := 2) ?hd (cs := #[.int .i64 a0_0, .int .i64 a0_1, .int .i64 a0_2, .int .i64 a0_3, .slice A0_4 l0_4.length c0_4, .int .i64 a0_5]) (t := 24) ?hr ?_; (case hd => rfl); (case hg => rfl); (case hr => first | (go_simp; done) | (go_simp; rfl)); intro gb528 hg w4 hbox hb; have n0_ := Aside0.mk (below_step (by repeat (first | (with_reducible first | exact HB.out | apply below_alloc | apply pw_below_drewN | apply below_drew1) | exact HB.out)) hb); have n1_ := Aside0.mk (hbox); have n2_ := Aside0.mk ((by rw [hg]; exact (below_size (by repeat (first | (with_reducible first | exact HB.out | apply below_alloc | apply pw_below_drewN | apply below_drew1) | exact HB.out))) : w.heap.size ≤ gb528)); have n3_ := Aside0.mk ((by rw [hg]; exact (below_size (by repeat (first | (with_reducible first | exact HB.out | apply below_alloc | apply pw_below_drewN | apply below_drew1) | exact HB.out))) : w.heap.size ≤ gb528)); clear HB; have HB := n0_; have BK528 := n1_; have GW528 := n2_; have GE528 := n3_; clear n0_ n1_ n2_ n3_; clear hb hbox hg) | ((with_reducible refine gate_dst (N := 3) rfl ?_); (try (refine gate_guard (by rfl) ?_; dsimp only)); refine box_event ?hg (N := 3) ?hd (cs := #[.int .i64 a1_0, .int .i64 a1_1, .int .i64 a1_2, .int .i64 a1_3, .int .i64 a1_4, .int .i64 a1_5, .int .i64 a1_6, .int .i64 a1_7, .int .i64 a1_8, .int .i64 a1_9, .int .i64 a1_10, .int .i64 a1_11, .slice A1_12 l1_12.length c1_12]) (t := 28) ?hr ?_; (case hd => rfl); (case hg => rfl); (case hr => first | (go_simp; done) | (go_simp; rfl)); intro gb529 hg w5 hbox hb; have n0_ := Aside0.mk (blk_below (g := gb528) (o := .cells #[.int .i64 a0_0, .int .i64 a0_1, .int .i64 a0_2, .int .i64 a0_3, .slice A0_4 l0_4.length c0_4, .int .i64 a0_5] 24 (0, 0)) (by (with_reducible repeat (first | refine blk_drewN ?_ _ | refine blk_drew ?_ | refine blk_alloc ?_ _)); exact BK528.out) hb); have n1_ := Aside0.mk (below_step (by repeat (first | (with_reducible first | exact HB.out | apply below_alloc | apply pw_below_drewN | apply below_drew1 | refine below_set ?_ GE528.out) | exact HB.out)) hb); have n2_ := Aside0.mk (hbox); have n3_ := Aside0.mk ((by rw [hg]; exact (below_size (by repeat (first | (with_reducible first | exact HB.out | apply below_alloc | apply pw_below_drewN | apply below_drew1 | refine below_set ?_ GE528.out) | exact HB.out))) : w.heap.size ≤ gb529)); have n4_ := Aside0.mk ((by rw [hg]; exact (below_size (by repeat (first | (with_reducible first | exact HB.out | apply below_alloc | apply pw_below_drewN | apply below_drew1 | refine below_set ?_ GE528.out) | exact HB.out))) : w.heap.size ≤ gb529)); have n5_ := Aside0.mk ((by rw [hg]; exact Nat.ne_of_lt (blk_lt (g := gb528) (o := .cells #[.int .i64 a0_0, .int .i64 a0_1, .int .i64 a0_2, .int .i64 a0_3, .slice A0_4 l0_4.length c0_4, .int .i64 a0_5] 24 (0, 0)) (by (with_reducible repeat (first | refine blk_drewN ?_ _ | refine blk_drew ?_ | refine blk_alloc ?_ _)); exact BK528.out)) : gb528 ≠ gb529)); have n6_ := Aside0.mk ((by rw [hg]; exact Nat.ne_of_gt (blk_lt (g := gb528) (o := .cells #[.int .i64 a0_0, .int .i64 a0_1, .int .i64 a0_2, .int .i64 a0_3, .slice A0_4 l0_4.length c0_4, .int .i64 a0_5] 24 (0, 0)) (by (with_reducible repeat (first | refine blk_drewN ?_ _ | refine blk_drew ?_ | refine blk_alloc ?_ _)); exact BK528.out)) : gb529 ≠ gb528)); clear BK528; clear HB; have BK528 := n0_; have HB := n1_; have BK529 := n2_; have GW529 := n3_; have GE529 := n4_; have NB528_529 := n5_; have NB529_528 := n6_; clear n0_ n1_ n2_ n3_ n4_ n5_ n6_; clear hb hbox hg) | ((with_reducible refine gate_dst (N := 4) rfl ?_); (try (refine gate_guard (by rfl) ?_; dsimp only)); refine box_event ?hg (N := 4) ?hd (cs := #[.int .i64 0, .bool false, .slice none 0 0]) (t := 31) ?hr ?_; (case hd => rfl); (case hg => rfl); (case hr => first | (go_simp; done) | (go_simp; rfl)); intro gb530 hg w6 hbox hb; have n0_ := Aside0.mk (blk_below (g := gb528) (o := .cells #[.int .i64 a0_0, .int .i64 a0_1, .int .i64 a0_2, .int .i64 a0_3, .slice A0_4 l0_4.length c0_4, .int .i64 a0_5] 24 (0, 0)) (by (with_reducible repeat (first | refine blk_drewN ?_ _ | refine blk_drew ?_ | refine blk_alloc ?_ _)); exact BK528.out) hb); have n1_ := Aside0.mk (blk_below (g := gb529) (o := .cells #[.int .i64 a1_0, .int .i64 a1_1, .int .i64 a1_2, .int .i64 a1_3, .int .i64 a1_4, .int .i64 a1_5, .int .i64 a1_6, .int .i64 a1_7, .int .i64 a1_8, .int .i64 a1_9, .int .i64 a1_10, .int .i64 a1_11, .slice A1_12 l1_12.length c1_12] 28 (0, 0)) (by (with_reducible repeat (first | refine blk_drewN ?_ _ | refine blk_drew ?_ | refine blk_alloc ?_ _)); exact BK529.out) hb); have n2_ := Aside0.mk (below_step (by repeat (first | (with_reducible first | exact HB.out | apply below_alloc | apply pw_below_drewN | apply below_drew1 | refine below_set ?_ GE528.out | refine below_set ?_ GE529.out) | exact HB.out)) hb); have n3_ := Aside0.mk (hbox); have n4_ := Aside0.mk ((by rw [hg]; exact (below_size (by repeat (first | (with_reducible first | exact HB.out | apply below_alloc | apply pw_below_drewN | apply below_drew1 | refine below_set ?_ GE528.out | refine below_set ?_ GE529.out) | exact HB.out))) : w.heap.size ≤ gb530)); have n5_ := Aside0.mk ((by rw [hg]; exact (below_size (by repeat (first | (with_reducible first | exact HB.out | apply below_alloc | apply pw_below_drewN | apply below_drew1 | refine below_set ?_ GE528.out | refine below_set ?_ GE529.out) | exact HB.out))) : w.heap.size ≤ gb530)); have n6_ := Aside0.mk ((by rw [hg]; exact Nat.ne_of_lt (blk_lt (g := gb528) (o := .cells #[.int .i64 a0_0, .int .i64 a0_1, .int .i64 a0_2, .int .i64 a0_3, .slice A0_4 l0_4.length c0_4, .int .i64 a0_5] 24 (0, 0)) (by (with_reducible repeat (first | refine blk_drewN ?_ _ | refine blk_drew ?_ | refine blk_alloc ?_ _)); exact BK528.out)) : gb528 ≠ gb530)); have n7_ := Aside0.mk ((by rw [hg]; exact Nat.ne_of_gt (blk_lt (g := gb528) (o := .cells #[.int .i64 a0_0, .int .i64 a0_1, .int .i64 a0_2, .int .i64 a0_3, .slice A0_4 l0_4.length c0_4, .int .i64 a0_5] 24 (0, 0)) (by (with_reducible repeat (first | refine blk_drewN ?_ _ | refine blk_drew ?_ | refine blk_alloc ?_ _)); exact BK528.out)) : gb530 ≠ gb528)); have n8_ := Aside0.mk ((by rw [hg]; exact Nat.ne_of_lt (blk_lt (g := gb529) (o := .cells #[.int .i64 a1_0, .int .i64 a1_1, .int .i64 a1_2, .int .i64 a1_3, .int .i64 a1_4, .int .i64 a1_5, .int .i64 a1_6, .int .i64 a1_7, .int .i64 a1_8, .int .i64 a1_9, .int .i64 a1_10, .int .i64 a1_11, .slice A1_12 l1_12.length c1_12] 28 (0, 0)) (by (with_reducible repeat (first | refine blk_drewN ?_ _ | refine blk_drew ?_ | refine blk_alloc ?_ _)); exact BK529.out)) : gb529 ≠ gb530)); have n9_ := Aside0.mk ((by rw [hg]; exact Nat.ne_of_gt (blk_lt (g := gb529) (o := .cells #[.int .i64 a1_0, .int .i64 a1_1, .int .i64 a1_2, .int .i64 a1_3, .int .i64 a1_4, .int .i64 a1_5, .int .i64 a1_6, .int .i64 a1_7, .int .i64 a1_8, .int .i64 a1_9, .int .i64 a1_10, .int .i64 a1_11, .slice A1_12 l1_12.length c1_12] 28 (0, 0)) (by (with_reducible repeat (first | refine blk_drewN ?_ _ | refine blk_drew ?_ | refine blk_alloc ?_ _)); exact BK529.out)) : gb530 ≠ gb529)); clear BK528; clear BK529; clear HB; have BK528 := n0_; have BK529 := n1_; have HB := n2_; have BK530 := n3_; have GW530 := n4_; have GE530 := n5_; have NB528_530 := n6_; have NB530_528 := n7_; have NB529_530 := n8_; have NB530_529 := n9_; clear n0_ n1_ n2_ n3_ n4_ n5_ n6_ n7_ n8_ n9_; clear hb hbox hg))
  (try simp only [Act.put, List.setIfInBounds_toArray, List.set_cons_zero, List.set_cons_succ])
  go_cut [46] (fun v46 wc => ∃ (kq : Nat) (x46_2 : Bool), v46 = .bool x46_2 ∧ Aside0 (bourneref1_Value.j0 kq x46_2 a0_0 a0_1 a0_2 a0_3 l0_4 a0_5 a1_0 a1_1 a1_2 a1_3 a1_4 a1_5 a1_6 a1_7 a1_8 a1_9 a1_10 a1_11 l1_12 = some (r1, r2, r3, r4)) ∧ Aside0 (kq ≤ k) ∧ Aside0 (wc.heap[gb528]? = some (.cells #[.int .i64 a0_0, .int .i64 a0_1, .int .i64 a0_2, .int .i64 a0_3, (.slice A0_4 l0_4.length c0_4), .int .i64 a0_5] 24 (0, 0))) ∧ Aside0 (wc.heap[gb529]? = some (.cells #[.int .i64 a1_0, .int .i64 a1_1, .int .i64 a1_2, .int .i64 a1_3, .int .i64 a1_4, .int .i64 a1_5, .int .i64 a1_6, .int .i64 a1_7, .int .i64 a1_8, .int .i64 a1_9, .int .i64 a1_10, .int .i64 a1_11, (.slice A1_12 l1_12.length c1_12)] 28 (0, 0))) ∧ Aside0 (wc.heap[gb530]? = some (.cells #[.int .i64 0, .bool false, (.slice none 0 0)] 31 (0, 0))) ∧ Aside0 (Below w.heap.size w wc))
  case first =>
    have H := HC3.out
    clear HC3
    by_cases c7 : a0_1 < 0
    · rw [if_pos c7] at H
      have c7b0 : decide (a0_1 < 0) = true := decide_eq_true c7
      clear c7
      (first | rw [c7b0] | (simp only [i64_w, i32_w]; rw [c7b0]) | skip)
      have H' := Aside0.mk H
      clear H
      have hnb8 := NB528_529.out
      have hnc8 := NB529_528.out
      have hnb9 := NB528_530.out
      have hnc9 := NB530_528.out
      have hcz10_0 : w6.cell? ⟨gb528, 0, none⟩ = some (.int .i64 a0_0) := (blk_cell BK528.out 0).trans rfl
      have hcz10_1 : w6.cell? ⟨gb528, 1, none⟩ = some (.int .i64 a0_1) := (blk_cell BK528.out 1).trans rfl
      have hcz10_2 : w6.cell? ⟨gb528, 2, none⟩ = some (.int .i64 a0_2) := (blk_cell BK528.out 2).trans rfl
      have hcz10_3 : w6.cell? ⟨gb528, 3, none⟩ = some (.int .i64 a0_3) := (blk_cell BK528.out 3).trans rfl
      have hcz10_4 : w6.cell? ⟨gb528, 4, none⟩ = some (.slice A0_4 l0_4.length c0_4) := (blk_cell BK528.out 4).trans rfl
      have hcz10_5 : w6.cell? ⟨gb528, 5, none⟩ = some (.int .i64 a0_5) := (blk_cell BK528.out 5).trans rfl
      have hfz10_0 := blk_frozen BK528.out 0
      have hfz10_1 := blk_frozen BK528.out 1
      have hfz10_2 := blk_frozen BK528.out 2
      have hfz10_3 := blk_frozen BK528.out 3
      have hfz10_4 := blk_frozen BK528.out 4
      have hfz10_5 := blk_frozen BK528.out 5
      go_wp2
      go_meet
      case rel => exact ⟨_, (true), (by first | rfl | (simp; done) | (simp [*]; done)), H', ⟨by first | omega | exact Nat.le_refl _⟩, ⟨by (with_reducible repeat (first | refine blk_drewN ?_ _ | refine blk_drew ?_ | refine blk_alloc ?_ _)); exact BK528.out⟩, ⟨by (with_reducible repeat (first | refine blk_drewN ?_ _ | refine blk_drew ?_ | refine blk_alloc ?_ _)); exact BK529.out⟩, ⟨by (with_reducible repeat (first | refine blk_drewN ?_ _ | refine blk_drew ?_ | refine blk_alloc ?_ _)); exact BK530.out⟩, ⟨by repeat (first | (with_reducible first | exact HB.out | apply below_alloc | apply pw_below_drewN | apply below_drew1 | refine below_set ?_ GE528.out | refine below_set ?_ GE529.out | refine below_set ?_ GE530.out) | exact HB.out)⟩⟩
    · rw [if_neg c7] at H
      have c7b0 : decide (a0_1 < 0) = false := decide_eq_false c7
      clear c7
      (first | rw [c7b0] | (simp only [i64_w, i32_w]; rw [c7b0]) | skip)
      by_cases c11 : a0_1 > 7
      · rw [if_pos c11] at H
        have c11b0 : decide (7 < a0_1) = true := decide_eq_true c11
        clear c11
        have H' := Aside0.mk H
        clear H
        have hnb12 := NB528_529.out
        have hnc12 := NB529_528.out
        have hnb13 := NB528_530.out
        have hnc13 := NB530_528.out
        have hcz14_0 : w6.cell? ⟨gb528, 0, none⟩ = some (.int .i64 a0_0) := (blk_cell BK528.out 0).trans rfl
        have hcz14_1 : w6.cell? ⟨gb528, 1, none⟩ = some (.int .i64 a0_1) := (blk_cell BK528.out 1).trans rfl
        have hcz14_2 : w6.cell? ⟨gb528, 2, none⟩ = some (.int .i64 a0_2) := (blk_cell BK528.out 2).trans rfl
        have hcz14_3 : w6.cell? ⟨gb528, 3, none⟩ = some (.int .i64 a0_3) := (blk_cell BK528.out 3).trans rfl
        have hcz14_4 : w6.cell? ⟨gb528, 4, none⟩ = some (.slice A0_4 l0_4.length c0_4) := (blk_cell BK528.out 4).trans rfl
        have hcz14_5 : w6.cell? ⟨gb528, 5, none⟩ = some (.int .i64 a0_5) := (blk_cell BK528.out 5).trans rfl
        have hfz14_0 := blk_frozen BK528.out 0
        have hfz14_1 := blk_frozen BK528.out 1
        have hfz14_2 := blk_frozen BK528.out 2
        have hfz14_3 := blk_frozen BK528.out 3
        have hfz14_4 := blk_frozen BK528.out 4
        have hfz14_5 := blk_frozen BK528.out 5
        go_wp2
        go_meet
        case rel => exact ⟨_, (true), (by first | rfl | (simp; done) | (simp [*]; done)), H', ⟨by first | omega | exact Nat.le_refl _⟩, ⟨by (with_reducible repeat (first | refine blk_drewN ?_ _ | refine blk_drew ?_ | refine blk_alloc ?_ _)); exact BK528.out⟩, ⟨by (with_reducible repeat (first | refine blk_drewN ?_ _ | refine blk_drew ?_ | refine blk_alloc ?_ _)); exact BK529.out⟩, ⟨by (with_reducible repeat (first | refine blk_drewN ?_ _ | refine blk_drew ?_ | refine blk_alloc ?_ _)); exact BK530.out⟩, ⟨by repeat (first | (with_reducible first | exact HB.out | apply below_alloc | apply pw_below_drewN | apply below_drew1 | refine below_set ?_ GE528.out | refine below_set ?_ GE529.out | refine below_set ?_ GE530.out) | exact HB.out)⟩⟩
      · rw [if_neg c11] at H
        have c11b0 : decide (7 < a0_1) = false := decide_eq_false c11
        clear c11
        by_cases c15 : a0_5 < 0
        · rw [if_pos c15] at H
          have c15b0 : decide (a0_5 < 0) = true := decide_eq_true c15
          clear c15
          have H' := Aside0.mk H
          clear H
          have hnb16 := NB528_529.out
          have hnc16 := NB529_528.out
          have hnb17 := NB528_530.out
          have hnc17 := NB530_528.out
          have hcz18_0 : w6.cell? ⟨gb528, 0, none⟩ = some (.int .i64 a0_0) := (blk_cell BK528.out 0).trans rfl
          have hcz18_1 : w6.cell? ⟨gb528, 1, none⟩ = some (.int .i64 a0_1) := (blk_cell BK528.out 1).trans rfl
          have hcz18_2 : w6.cell? ⟨gb528, 2, none⟩ = some (.int .i64 a0_2) := (blk_cell BK528.out 2).trans rfl
          have hcz18_3 : w6.cell? ⟨gb528, 3, none⟩ = some (.int .i64 a0_3) := (blk_cell BK528.out 3).trans rfl
          have hcz18_4 : w6.cell? ⟨gb528, 4, none⟩ = some (.slice A0_4 l0_4.length c0_4) := (blk_cell BK528.out 4).trans rfl
          have hcz18_5 : w6.cell? ⟨gb528, 5, none⟩ = some (.int .i64 a0_5) := (blk_cell BK528.out 5).trans rfl
          have hfz18_0 := blk_frozen BK528.out 0
          have hfz18_1 := blk_frozen BK528.out 1
          have hfz18_2 := blk_frozen BK528.out 2
          have hfz18_3 := blk_frozen BK528.out 3
          have hfz18_4 := blk_frozen BK528.out 4
          have hfz18_5 := blk_frozen BK528.out 5
          go_wp2
          go_meet
          case rel => exact ⟨_, (true), (by first | rfl | (simp; done) | (simp [*]; done)), H', ⟨by first | omega | exact Nat.le_refl _⟩, ⟨by (with_reducible repeat (first | refine blk_drewN ?_ _ | refine blk_drew ?_ | refine blk_alloc ?_ _)); exact BK528.out⟩, ⟨by (with_reducible repeat (first | refine blk_drewN ?_ _ | refine blk_drew ?_ | refine blk_alloc ?_ _)); exact BK529.out⟩, ⟨by (with_reducible repeat (first | refine blk_drewN ?_ _ | refine blk_drew ?_ | refine blk_alloc ?_ _)); exact BK530.out⟩, ⟨by repeat (first | (with_reducible first | exact HB.out | apply below_alloc | apply pw_below_drewN | apply below_drew1 | refine below_set ?_ GE528.out | refine below_set ?_ GE529.out | refine below_set ?_ GE530.out) | exact HB.out)⟩⟩
        · rw [if_neg c15] at H
          have c15b0 : decide (a0_5 < 0) = false := decide_eq_false c15
          clear c15
          by_cases c19 : a0_5 > 1000
          · rw [if_pos c19] at H
            have c19b0 : decide (1000 < a0_5) = true := decide_eq_true c19
            clear c19
            have H' := Aside0.mk H
            clear H
            have hnb20 := NB528_529.out
            have hnc20 := NB529_528.out
            have hnb21 := NB528_530.out
            have hnc21 := NB530_528.out
            have hcz22_0 : w6.cell? ⟨gb528, 0, none⟩ = some (.int .i64 a0_0) := (blk_cell BK528.out 0).trans rfl
            have hcz22_1 : w6.cell? ⟨gb528, 1, none⟩ = some (.int .i64 a0_1) := (blk_cell BK528.out 1).trans rfl
            have hcz22_2 : w6.cell? ⟨gb528, 2, none⟩ = some (.int .i64 a0_2) := (blk_cell BK528.out 2).trans rfl
            have hcz22_3 : w6.cell? ⟨gb528, 3, none⟩ = some (.int .i64 a0_3) := (blk_cell BK528.out 3).trans rfl
            have hcz22_4 : w6.cell? ⟨gb528, 4, none⟩ = some (.slice A0_4 l0_4.length c0_4) := (blk_cell BK528.out 4).trans rfl
            have hcz22_5 : w6.cell? ⟨gb528, 5, none⟩ = some (.int .i64 a0_5) := (blk_cell BK528.out 5).trans rfl
            have hfz22_0 := blk_frozen BK528.out 0
            have hfz22_1 := blk_frozen BK528.out 1
            have hfz22_2 := blk_frozen BK528.out 2
            have hfz22_3 := blk_frozen BK528.out 3
            have hfz22_4 := blk_frozen BK528.out 4
            have hfz22_5 := blk_frozen BK528.out 5
            go_wp2
            go_meet
            case rel => exact ⟨_, (true), (by first | rfl | (simp; done) | (simp [*]; done)), H', ⟨by first | omega | exact Nat.le_refl _⟩, ⟨by (with_reducible repeat (first | refine blk_drewN ?_ _ | refine blk_drew ?_ | refine blk_alloc ?_ _)); exact BK528.out⟩, ⟨by (with_reducible repeat (first | refine blk_drewN ?_ _ | refine blk_drew ?_ | refine blk_alloc ?_ _)); exact BK529.out⟩, ⟨by (with_reducible repeat (first | refine blk_drewN ?_ _ | refine blk_drew ?_ | refine blk_alloc ?_ _)); exact BK530.out⟩, ⟨by repeat (first | (with_reducible first | exact HB.out | apply below_alloc | apply pw_below_drewN | apply below_drew1 | refine below_set ?_ GE528.out | refine below_set ?_ GE529.out | refine below_set ?_ GE530.out) | exact HB.out)⟩⟩
          · rw [if_neg c19] at H
            have c19b0 : decide (1000 < a0_5) = false := decide_eq_false c19
            clear c19
            replace H := Option.bind_eq_some_iff.mp H
            obtain ⟨t531, A230, H⟩ := H
            replace H : (if t531 = true then (if a1_0 = 0 then (bourneref1_Value.j0 k true a0_0 a0_1 a0_2 a0_3 l0_4 a0_5 a1_0 a1_1 a1_2 a1_3 a1_4 a1_5 a1_6 a1_7 a1_8 a1_9 a1_10 a1_11 l1_12) else (if a0_1 = 7 then (bourneref1_Value.j0 k ((l0_4.length : Int) == 0) a0_0 a0_1 a0_2 a0_3 l0_4 a0_5 a1_0 a1_1 a1_2 a1_3 a1_4 a1_5 a1_6 a1_7 a1_8 a1_9 a1_10 a1_11 l1_12) else (bourneref1_Value.j0 k false a0_0 a0_1 a0_2 a0_3 l0_4 a0_5 a1_0 a1_1 a1_2 a1_3 a1_4 a1_5 a1_6 a1_7 a1_8 a1_9 a1_10 a1_11 l1_12))) else (bourneref1_Value.j0 k true a0_0 a0_1 a0_2 a0_3 l0_4 a0_5 a1_0 a1_1 a1_2 a1_3 a1_4 a1_5 a1_6 a1_7 a1_8 a1_9 a1_10 a1_11 l1_12)) = some (r1, r2, r3, r4) := H
            have A23 := Aside0.mk A230
            clear A230
            by_cases c24 : t531 = true
            · subst c24
              have H1 : (if a1_0 = 0 then (bourneref1_Value.j0 k true a0_0 a0_1 a0_2 a0_3 l0_4 a0_5 a1_0 a1_1 a1_2 a1_3 a1_4 a1_5 a1_6 a1_7 a1_8 a1_9 a1_10 a1_11 l1_12) else (if a0_1 = 7 then (bourneref1_Value.j0 k ((l0_4.length : Int) == 0) a0_0 a0_1 a0_2 a0_3 l0_4 a0_5 a1_0 a1_1 a1_2 a1_3 a1_4 a1_5 a1_6 a1_7 a1_8 a1_9 a1_10 a1_11 l1_12) else (bourneref1_Value.j0 k false a0_0 a0_1 a0_2 a0_3 l0_4 a0_5 a1_0 a1_1 a1_2 a1_3 a1_4 a1_5 a1_6 a1_7 a1_8 a1_9 a1_10 a1_11 l1_12))) = some (r1, r2, r3, r4) := by rw [if_pos rfl] at H; exact H
              clear H
              have H := H1
              clear H1
              by_cases c25 : a1_0 = 0
              · rw [if_pos c25] at H
                have c25b0 : (a1_0 == 0) = true := beq_iff_eq.mpr c25
                have c25b1 : (a1_0 != 0) = false := bne_eq_false_iff_eq.mpr c25
                clear c25
                have H' := Aside0.mk H
                clear H
                have hnb26 := NB528_529.out
                have hnc26 := NB529_528.out
                have hnb27 := NB528_530.out
                have hnc27 := NB530_528.out
                have hcz28_0 : w6.cell? ⟨gb528, 0, none⟩ = some (.int .i64 a0_0) := (blk_cell BK528.out 0).trans rfl
                have hcz28_1 : w6.cell? ⟨gb528, 1, none⟩ = some (.int .i64 a0_1) := (blk_cell BK528.out 1).trans rfl
                have hcz28_2 : w6.cell? ⟨gb528, 2, none⟩ = some (.int .i64 a0_2) := (blk_cell BK528.out 2).trans rfl
                have hcz28_3 : w6.cell? ⟨gb528, 3, none⟩ = some (.int .i64 a0_3) := (blk_cell BK528.out 3).trans rfl
                have hcz28_4 : w6.cell? ⟨gb528, 4, none⟩ = some (.slice A0_4 l0_4.length c0_4) := (blk_cell BK528.out 4).trans rfl
                have hcz28_5 : w6.cell? ⟨gb528, 5, none⟩ = some (.int .i64 a0_5) := (blk_cell BK528.out 5).trans rfl
                have hfz28_0 := blk_frozen BK528.out 0
                have hfz28_1 := blk_frozen BK528.out 1
                have hfz28_2 := blk_frozen BK528.out 2
                have hfz28_3 := blk_frozen BK528.out 3
                have hfz28_4 := blk_frozen BK528.out 4
                have hfz28_5 := blk_frozen BK528.out 5
                have hnb29 := NB529_530.out
                have hnc29 := NB530_529.out
                have hcz30_0 : w6.cell? ⟨gb529, 0, none⟩ = some (.int .i64 a1_0) := (blk_cell BK529.out 0).trans rfl
                have hcz30_1 : w6.cell? ⟨gb529, 1, none⟩ = some (.int .i64 a1_1) := (blk_cell BK529.out 1).trans rfl
                have hcz30_2 : w6.cell? ⟨gb529, 2, none⟩ = some (.int .i64 a1_2) := (blk_cell BK529.out 2).trans rfl
                have hcz30_3 : w6.cell? ⟨gb529, 3, none⟩ = some (.int .i64 a1_3) := (blk_cell BK529.out 3).trans rfl
                have hcz30_4 : w6.cell? ⟨gb529, 4, none⟩ = some (.int .i64 a1_4) := (blk_cell BK529.out 4).trans rfl
                have hcz30_5 : w6.cell? ⟨gb529, 5, none⟩ = some (.int .i64 a1_5) := (blk_cell BK529.out 5).trans rfl
                have hcz30_6 : w6.cell? ⟨gb529, 6, none⟩ = some (.int .i64 a1_6) := (blk_cell BK529.out 6).trans rfl
                have hcz30_7 : w6.cell? ⟨gb529, 7, none⟩ = some (.int .i64 a1_7) := (blk_cell BK529.out 7).trans rfl
                have hcz30_8 : w6.cell? ⟨gb529, 8, none⟩ = some (.int .i64 a1_8) := (blk_cell BK529.out 8).trans rfl
                have hcz30_9 : w6.cell? ⟨gb529, 9, none⟩ = some (.int .i64 a1_9) := (blk_cell BK529.out 9).trans rfl
                have hcz30_10 : w6.cell? ⟨gb529, 10, none⟩ = some (.int .i64 a1_10) := (blk_cell BK529.out 10).trans rfl
                have hcz30_11 : w6.cell? ⟨gb529, 11, none⟩ = some (.int .i64 a1_11) := (blk_cell BK529.out 11).trans rfl
                have hcz30_12 : w6.cell? ⟨gb529, 12, none⟩ = some (.slice A1_12 l1_12.length c1_12) := (blk_cell BK529.out 12).trans rfl
                have hfz30_0 := blk_frozen BK529.out 0
                have hfz30_1 := blk_frozen BK529.out 1
                have hfz30_2 := blk_frozen BK529.out 2
                have hfz30_3 := blk_frozen BK529.out 3
                have hfz30_4 := blk_frozen BK529.out 4
                have hfz30_5 := blk_frozen BK529.out 5
                have hfz30_6 := blk_frozen BK529.out 6
                have hfz30_7 := blk_frozen BK529.out 7
                have hfz30_8 := blk_frozen BK529.out 8
                have hfz30_9 := blk_frozen BK529.out 9
                have hfz30_10 := blk_frozen BK529.out 10
                have hfz30_11 := blk_frozen BK529.out 11
                have hfz30_12 := blk_frozen BK529.out 12
                go_wp2_with (first | (go_at_call 33; (with_reducible refine (bourneref1_AccMay.calls a1_0 a1_1 a1_2 a1_3 a1_4 a1_5 a1_6 a1_7 a1_8 a1_9 a1_10 a1_11 _ _ l1_12 _ _ l0_4 true _ ?side1 ?side2 ?side3 ?side4 A23.out).mono ?_); (case side1 => repeat (first | exact (Kd.C_below HR1_12.out HB.out) | (with_reducible refine Kd.C_alloc ?_ _) | (with_reducible refine Kd.C_drewN ?_ _) | (with_reducible refine Kd.C_drew ?_))); (case side2 => exact HC1_12.out); (case side3 => repeat (first | exact (Kd.C_below HR0_4.out HB.out) | (with_reducible refine Kd.C_alloc ?_ _) | (with_reducible refine Kd.C_drewN ?_ _) | (with_reducible refine Kd.C_drew ?_))); (case side4 => exact HC0_4.out); rintro e w31 ⟨rfl, hb⟩; have n0_ := Aside0.mk (blk_below (g := gb528) (o := .cells #[.int .i64 a0_0, .int .i64 a0_1, .int .i64 a0_2, .int .i64 a0_3, .slice A0_4 l0_4.length c0_4, .int .i64 a0_5] 24 (0, 0)) (by (with_reducible repeat (first | refine blk_drewN ?_ _ | refine blk_drew ?_ | refine blk_alloc ?_ _)); exact BK528.out) hb); have n1_ := Aside0.mk (blk_below (g := gb529) (o := .cells #[.int .i64 a1_0, .int .i64 a1_1, .int .i64 a1_2, .int .i64 a1_3, .int .i64 a1_4, .int .i64 a1_5, .int .i64 a1_6, .int .i64 a1_7, .int .i64 a1_8, .int .i64 a1_9, .int .i64 a1_10, .int .i64 a1_11, .slice A1_12 l1_12.length c1_12] 28 (0, 0)) (by (with_reducible repeat (first | refine blk_drewN ?_ _ | refine blk_drew ?_ | refine blk_alloc ?_ _)); exact BK529.out) hb); have n2_ := Aside0.mk (blk_below (g := gb530) (o := .cells #[.int .i64 0, .bool false, .slice none 0 0] 31 (0, 0)) (by (with_reducible repeat (first | refine blk_drewN ?_ _ | refine blk_drew ?_ | refine blk_alloc ?_ _)); exact BK530.out) hb); have n3_ := Aside0.mk (below_step (by repeat (first | (with_reducible first | exact HB.out | apply below_alloc | apply pw_below_drewN | apply below_drew1 | refine below_set ?_ GE528.out | refine below_set ?_ GE529.out | refine below_set ?_ GE530.out) | exact HB.out)) hb); clear BK528; clear BK529; clear BK530; clear HB; have BK528 := n0_; have BK529 := n1_; have BK530 := n2_; have HB := n3_; clear n0_ n1_ n2_ n3_; (try clear hb); (try clear hb2); (try clear hk); (try clear hi); have hcz32_0 : w31.cell? ⟨gb529, 0, none⟩ = some (.int .i64 a1_0) := (blk_cell BK529.out 0).trans rfl; have hcz32_1 : w31.cell? ⟨gb529, 1, none⟩ = some (.int .i64 a1_1) := (blk_cell BK529.out 1).trans rfl; have hcz32_2 : w31.cell? ⟨gb529, 2, none⟩ = some (.int .i64 a1_2) := (blk_cell BK529.out 2).trans rfl; have hcz32_3 : w31.cell? ⟨gb529, 3, none⟩ = some (.int .i64 a1_3) := (blk_cell BK529.out 3).trans rfl; have hcz32_4 : w31.cell? ⟨gb529, 4, none⟩ = some (.int .i64 a1_4) := (blk_cell BK529.out 4).trans rfl; have hcz32_5 : w31.cell? ⟨gb529, 5, none⟩ = some (.int .i64 a1_5) := (blk_cell BK529.out 5).trans rfl; have hcz32_6 : w31.cell? ⟨gb529, 6, none⟩ = some (.int .i64 a1_6) := (blk_cell BK529.out 6).trans rfl; have hcz32_7 : w31.cell? ⟨gb529, 7, none⟩ = some (.int .i64 a1_7) := (blk_cell BK529.out 7).trans rfl; have hcz32_8 : w31.cell? ⟨gb529, 8, none⟩ = some (.int .i64 a1_8) := (blk_cell BK529.out 8).trans rfl; have hcz32_9 : w31.cell? ⟨gb529, 9, none⟩ = some (.int .i64 a1_9) := (blk_cell BK529.out 9).trans rfl; have hcz32_10 : w31.cell? ⟨gb529, 10, none⟩ = some (.int .i64 a1_10) := (blk_cell BK529.out 10).trans rfl; have hcz32_11 : w31.cell? ⟨gb529, 11, none⟩ = some (.int .i64 a1_11) := (blk_cell BK529.out 11).trans rfl; have hcz32_12 : w31.cell? ⟨gb529, 12, none⟩ = some (.slice A1_12 l1_12.length c1_12) := (blk_cell BK529.out 12).trans rfl; have hfz32_0 := blk_frozen BK529.out 0; have hfz32_1 := blk_frozen BK529.out 1; have hfz32_2 := blk_frozen BK529.out 2; have hfz32_3 := blk_frozen BK529.out 3; have hfz32_4 := blk_frozen BK529.out 4; have hfz32_5 := blk_frozen BK529.out 5; have hfz32_6 := blk_frozen BK529.out 6; have hfz32_7 := blk_frozen BK529.out 7; have hfz32_8 := blk_frozen BK529.out 8; have hfz32_9 := blk_frozen BK529.out 9; have hfz32_10 := blk_frozen BK529.out 10; have hfz32_11 := blk_frozen BK529.out 11; have hfz32_12 := blk_frozen BK529.out 12))
                go_meet
                case rel => exact ⟨_, (true), (by first | rfl | (simp; done) | (simp [*]; done)), H', ⟨by first | omega | exact Nat.le_refl _⟩, ⟨by (with_reducible repeat (first | refine blk_drewN ?_ _ | refine blk_drew ?_ | refine blk_alloc ?_ _)); exact BK528.out⟩, ⟨by (with_reducible repeat (first | refine blk_drewN ?_ _ | refine blk_drew ?_ | refine blk_alloc ?_ _)); exact BK529.out⟩, ⟨by (with_reducible repeat (first | refine blk_drewN ?_ _ | refine blk_drew ?_ | refine blk_alloc ?_ _)); exact BK530.out⟩, ⟨by repeat (first | (with_reducible first | exact HB.out | apply below_alloc | apply pw_below_drewN | apply below_drew1 | refine below_set ?_ GE528.out | refine below_set ?_ GE529.out | refine below_set ?_ GE530.out) | exact HB.out)⟩⟩
              · rw [if_neg c25] at H
                have c25b0 : (a1_0 == 0) = false := beq_eq_false_iff_ne.mpr c25
                have c25b1 : (a1_0 != 0) = true := bne_iff_ne.mpr c25
                by_cases c33 : a0_1 = 7
                · rw [if_pos c33] at H
                  have c33b0 : (a0_1 == 7) = true := beq_iff_eq.mpr c33
                  have c33b1 : (a0_1 != 7) = false := bne_eq_false_iff_eq.mpr c33
                  clear c33
                  have H' := Aside0.mk H
                  clear H
                  have hnb34 := NB528_529.out
                  have hnc34 := NB529_528.out
                  have hnb35 := NB528_530.out
                  have hnc35 := NB530_528.out
                  have hcz36_0 : w6.cell? ⟨gb528, 0, none⟩ = some (.int .i64 a0_0) := (blk_cell BK528.out 0).trans rfl
                  have hcz36_1 : w6.cell? ⟨gb528, 1, none⟩ = some (.int .i64 a0_1) := (blk_cell BK528.out 1).trans rfl
                  have hcz36_2 : w6.cell? ⟨gb528, 2, none⟩ = some (.int .i64 a0_2) := (blk_cell BK528.out 2).trans rfl
                  have hcz36_3 : w6.cell? ⟨gb528, 3, none⟩ = some (.int .i64 a0_3) := (blk_cell BK528.out 3).trans rfl
                  have hcz36_4 : w6.cell? ⟨gb528, 4, none⟩ = some (.slice A0_4 l0_4.length c0_4) := (blk_cell BK528.out 4).trans rfl
                  have hcz36_5 : w6.cell? ⟨gb528, 5, none⟩ = some (.int .i64 a0_5) := (blk_cell BK528.out 5).trans rfl
                  have hfz36_0 := blk_frozen BK528.out 0
                  have hfz36_1 := blk_frozen BK528.out 1
                  have hfz36_2 := blk_frozen BK528.out 2
                  have hfz36_3 := blk_frozen BK528.out 3
                  have hfz36_4 := blk_frozen BK528.out 4
                  have hfz36_5 := blk_frozen BK528.out 5
                  have hnb37 := NB529_530.out
                  have hnc37 := NB530_529.out
                  have hcz38_0 : w6.cell? ⟨gb529, 0, none⟩ = some (.int .i64 a1_0) := (blk_cell BK529.out 0).trans rfl
                  have hcz38_1 : w6.cell? ⟨gb529, 1, none⟩ = some (.int .i64 a1_1) := (blk_cell BK529.out 1).trans rfl
                  have hcz38_2 : w6.cell? ⟨gb529, 2, none⟩ = some (.int .i64 a1_2) := (blk_cell BK529.out 2).trans rfl
                  have hcz38_3 : w6.cell? ⟨gb529, 3, none⟩ = some (.int .i64 a1_3) := (blk_cell BK529.out 3).trans rfl
                  have hcz38_4 : w6.cell? ⟨gb529, 4, none⟩ = some (.int .i64 a1_4) := (blk_cell BK529.out 4).trans rfl
                  have hcz38_5 : w6.cell? ⟨gb529, 5, none⟩ = some (.int .i64 a1_5) := (blk_cell BK529.out 5).trans rfl
                  have hcz38_6 : w6.cell? ⟨gb529, 6, none⟩ = some (.int .i64 a1_6) := (blk_cell BK529.out 6).trans rfl
                  have hcz38_7 : w6.cell? ⟨gb529, 7, none⟩ = some (.int .i64 a1_7) := (blk_cell BK529.out 7).trans rfl
                  have hcz38_8 : w6.cell? ⟨gb529, 8, none⟩ = some (.int .i64 a1_8) := (blk_cell BK529.out 8).trans rfl
                  have hcz38_9 : w6.cell? ⟨gb529, 9, none⟩ = some (.int .i64 a1_9) := (blk_cell BK529.out 9).trans rfl
                  have hcz38_10 : w6.cell? ⟨gb529, 10, none⟩ = some (.int .i64 a1_10) := (blk_cell BK529.out 10).trans rfl
                  have hcz38_11 : w6.cell? ⟨gb529, 11, none⟩ = some (.int .i64 a1_11) := (blk_cell BK529.out 11).trans rfl
                  have hcz38_12 : w6.cell? ⟨gb529, 12, none⟩ = some (.slice A1_12 l1_12.length c1_12) := (blk_cell BK529.out 12).trans rfl
                  have hfz38_0 := blk_frozen BK529.out 0
                  have hfz38_1 := blk_frozen BK529.out 1
                  have hfz38_2 := blk_frozen BK529.out 2
                  have hfz38_3 := blk_frozen BK529.out 3
                  have hfz38_4 := blk_frozen BK529.out 4
                  have hfz38_5 := blk_frozen BK529.out 5
                  have hfz38_6 := blk_frozen BK529.out 6
                  have hfz38_7 := blk_frozen BK529.out 7
                  have hfz38_8 := blk_frozen BK529.out 8
                  have hfz38_9 := blk_frozen BK529.out 9
                  have hfz38_10 := blk_frozen BK529.out 10
                  have hfz38_11 := blk_frozen BK529.out 11
                  have hfz38_12 := blk_frozen BK529.out 12
                  go_wp2_with (first | (go_at_call 33; (with_reducible refine (bourneref1_AccMay.calls a1_0 a1_1 a1_2 a1_3 a1_4 a1_5 a1_6 a1_7 a1_8 a1_9 a1_10 a1_11 _ _ l1_12 _ _ l0_4 true _ ?side1 ?side2 ?side3 ?side4 A23.out).mono ?_); (case side1 => repeat (first | exact (Kd.C_below HR1_12.out HB.out) | (with_reducible refine Kd.C_alloc ?_ _) | (with_reducible refine Kd.C_drewN ?_ _) | (with_reducible refine Kd.C_drew ?_))); (case side2 => exact HC1_12.out); (case side3 => repeat (first | exact (Kd.C_below HR0_4.out HB.out) | (with_reducible refine Kd.C_alloc ?_ _) | (with_reducible refine Kd.C_drewN ?_ _) | (with_reducible refine Kd.C_drew ?_))); (case side4 => exact HC0_4.out); rintro e w39 ⟨rfl, hb⟩; have n0_ := Aside0.mk (blk_below (g := gb528) (o := .cells #[.int .i64 a0_0, .int .i64 a0_1, .int .i64 a0_2, .int .i64 a0_3, .slice A0_4 l0_4.length c0_4, .int .i64 a0_5] 24 (0, 0)) (by (with_reducible repeat (first | refine blk_drewN ?_ _ | refine blk_drew ?_ | refine blk_alloc ?_ _)); exact BK528.out) hb); have n1_ := Aside0.mk (blk_below (g := gb529) (o := .cells #[.int .i64 a1_0, .int .i64 a1_1, .int .i64 a1_2, .int .i64 a1_3, .int .i64 a1_4, .int .i64 a1_5, .int .i64 a1_6, .int .i64 a1_7, .int .i64 a1_8, .int .i64 a1_9, .int .i64 a1_10, .int .i64 a1_11, .slice A1_12 l1_12.length c1_12] 28 (0, 0)) (by (with_reducible repeat (first | refine blk_drewN ?_ _ | refine blk_drew ?_ | refine blk_alloc ?_ _)); exact BK529.out) hb); have n2_ := Aside0.mk (blk_below (g := gb530) (o := .cells #[.int .i64 0, .bool false, .slice none 0 0] 31 (0, 0)) (by (with_reducible repeat (first | refine blk_drewN ?_ _ | refine blk_drew ?_ | refine blk_alloc ?_ _)); exact BK530.out) hb); have n3_ := Aside0.mk (below_step (by repeat (first | (with_reducible first | exact HB.out | apply below_alloc | apply pw_below_drewN | apply below_drew1 | refine below_set ?_ GE528.out | refine below_set ?_ GE529.out | refine below_set ?_ GE530.out) | exact HB.out)) hb); clear BK528; clear BK529; clear BK530; clear HB; have BK528 := n0_; have BK529 := n1_; have BK530 := n2_; have HB := n3_; clear n0_ n1_ n2_ n3_; (try clear hb); (try clear hb2); (try clear hk); (try clear hi); have hcz40_0 : w39.cell? ⟨gb529, 0, none⟩ = some (.int .i64 a1_0) := (blk_cell BK529.out 0).trans rfl; have hcz40_1 : w39.cell? ⟨gb529, 1, none⟩ = some (.int .i64 a1_1) := (blk_cell BK529.out 1).trans rfl; have hcz40_2 : w39.cell? ⟨gb529, 2, none⟩ = some (.int .i64 a1_2) := (blk_cell BK529.out 2).trans rfl; have hcz40_3 : w39.cell? ⟨gb529, 3, none⟩ = some (.int .i64 a1_3) := (blk_cell BK529.out 3).trans rfl; have hcz40_4 : w39.cell? ⟨gb529, 4, none⟩ = some (.int .i64 a1_4) := (blk_cell BK529.out 4).trans rfl; have hcz40_5 : w39.cell? ⟨gb529, 5, none⟩ = some (.int .i64 a1_5) := (blk_cell BK529.out 5).trans rfl; have hcz40_6 : w39.cell? ⟨gb529, 6, none⟩ = some (.int .i64 a1_6) := (blk_cell BK529.out 6).trans rfl; have hcz40_7 : w39.cell? ⟨gb529, 7, none⟩ = some (.int .i64 a1_7) := (blk_cell BK529.out 7).trans rfl; have hcz40_8 : w39.cell? ⟨gb529, 8, none⟩ = some (.int .i64 a1_8) := (blk_cell BK529.out 8).trans rfl; have hcz40_9 : w39.cell? ⟨gb529, 9, none⟩ = some (.int .i64 a1_9) := (blk_cell BK529.out 9).trans rfl; have hcz40_10 : w39.cell? ⟨gb529, 10, none⟩ = some (.int .i64 a1_10) := (blk_cell BK529.out 10).trans rfl; have hcz40_11 : w39.cell? ⟨gb529, 11, none⟩ = some (.int .i64 a1_11) := (blk_cell BK529.out 11).trans rfl; have hcz40_12 : w39.cell? ⟨gb529, 12, none⟩ = some (.slice A1_12 l1_12.length c1_12) := (blk_cell BK529.out 12).trans rfl; have hfz40_0 := blk_frozen BK529.out 0; have hfz40_1 := blk_frozen BK529.out 1; have hfz40_2 := blk_frozen BK529.out 2; have hfz40_3 := blk_frozen BK529.out 3; have hfz40_4 := blk_frozen BK529.out 4; have hfz40_5 := blk_frozen BK529.out 5; have hfz40_6 := blk_frozen BK529.out 6; have hfz40_7 := blk_frozen BK529.out 7; have hfz40_8 := blk_frozen BK529.out 8; have hfz40_9 := blk_frozen BK529.out 9; have hfz40_10 := blk_frozen BK529.out 10; have hfz40_11 := blk_frozen BK529.out 11; have hfz40_12 := blk_frozen BK529.out 12; have hcz41_0 : w39.cell? ⟨gb528, 0, none⟩ = some (.int .i64 a0_0) := (blk_cell BK528.out 0).trans rfl; have hcz41_1 : w39.cell? ⟨gb528, 1, none⟩ = some (.int .i64 a0_1) := (blk_cell BK528.out 1).trans rfl; have hcz41_2 : w39.cell? ⟨gb528, 2, none⟩ = some (.int .i64 a0_2) := (blk_cell BK528.out 2).trans rfl; have hcz41_3 : w39.cell? ⟨gb528, 3, none⟩ = some (.int .i64 a0_3) := (blk_cell BK528.out 3).trans rfl; have hcz41_4 : w39.cell? ⟨gb528, 4, none⟩ = some (.slice A0_4 l0_4.length c0_4) := (blk_cell BK528.out 4).trans rfl; have hcz41_5 : w39.cell? ⟨gb528, 5, none⟩ = some (.int .i64 a0_5) := (blk_cell BK528.out 5).trans rfl; have hfz41_0 := blk_frozen BK528.out 0; have hfz41_1 := blk_frozen BK528.out 1; have hfz41_2 := blk_frozen BK528.out 2; have hfz41_3 := blk_frozen BK528.out 3; have hfz41_4 := blk_frozen BK528.out 4; have hfz41_5 := blk_frozen BK528.out 5))
                  go_meet
                  case rel => exact ⟨_, (((l0_4.length : Int) == 0)), (by first | rfl | (simp; done) | (simp [*]; done)), H', ⟨by first | omega | exact Nat.le_refl _⟩, ⟨by (with_reducible repeat (first | refine blk_drewN ?_ _ | refine blk_drew ?_ | refine blk_alloc ?_ _)); exact BK528.out⟩, ⟨by (with_reducible repeat (first | refine blk_drewN ?_ _ | refine blk_drew ?_ | refine blk_alloc ?_ _)); exact BK529.out⟩, ⟨by (with_reducible repeat (first | refine blk_drewN ?_ _ | refine blk_drew ?_ | refine blk_alloc ?_ _)); exact BK530.out⟩, ⟨by repeat (first | (with_reducible first | exact HB.out | apply below_alloc | apply pw_below_drewN | apply below_drew1 | refine below_set ?_ GE528.out | refine below_set ?_ GE529.out | refine below_set ?_ GE530.out) | exact HB.out)⟩⟩
                · rw [if_neg c33] at H
                  have c33b0 : (a0_1 == 7) = false := beq_eq_false_iff_ne.mpr c33
                  have c33b1 : (a0_1 != 7) = true := bne_iff_ne.mpr c33
                  have H' := Aside0.mk H
                  clear H
                  have hnb42 := NB528_529.out
                  have hnc42 := NB529_528.out
                  have hnb43 := NB528_530.out
                  have hnc43 := NB530_528.out
                  have hcz44_0 : w6.cell? ⟨gb528, 0, none⟩ = some (.int .i64 a0_0) := (blk_cell BK528.out 0).trans rfl
                  have hcz44_1 : w6.cell? ⟨gb528, 1, none⟩ = some (.int .i64 a0_1) := (blk_cell BK528.out 1).trans rfl
                  have hcz44_2 : w6.cell? ⟨gb528, 2, none⟩ = some (.int .i64 a0_2) := (blk_cell BK528.out 2).trans rfl
                  have hcz44_3 : w6.cell? ⟨gb528, 3, none⟩ = some (.int .i64 a0_3) := (blk_cell BK528.out 3).trans rfl
                  have hcz44_4 : w6.cell? ⟨gb528, 4, none⟩ = some (.slice A0_4 l0_4.length c0_4) := (blk_cell BK528.out 4).trans rfl
                  have hcz44_5 : w6.cell? ⟨gb528, 5, none⟩ = some (.int .i64 a0_5) := (blk_cell BK528.out 5).trans rfl
                  have hfz44_0 := blk_frozen BK528.out 0
                  have hfz44_1 := blk_frozen BK528.out 1
                  have hfz44_2 := blk_frozen BK528.out 2
                  have hfz44_3 := blk_frozen BK528.out 3
                  have hfz44_4 := blk_frozen BK528.out 4
                  have hfz44_5 := blk_frozen BK528.out 5
                  have hnb45 := NB529_530.out
                  have hnc45 := NB530_529.out
                  have hcz46_0 : w6.cell? ⟨gb529, 0, none⟩ = some (.int .i64 a1_0) := (blk_cell BK529.out 0).trans rfl
                  have hcz46_1 : w6.cell? ⟨gb529, 1, none⟩ = some (.int .i64 a1_1) := (blk_cell BK529.out 1).trans rfl
                  have hcz46_2 : w6.cell? ⟨gb529, 2, none⟩ = some (.int .i64 a1_2) := (blk_cell BK529.out 2).trans rfl
                  have hcz46_3 : w6.cell? ⟨gb529, 3, none⟩ = some (.int .i64 a1_3) := (blk_cell BK529.out 3).trans rfl
                  have hcz46_4 : w6.cell? ⟨gb529, 4, none⟩ = some (.int .i64 a1_4) := (blk_cell BK529.out 4).trans rfl
                  have hcz46_5 : w6.cell? ⟨gb529, 5, none⟩ = some (.int .i64 a1_5) := (blk_cell BK529.out 5).trans rfl
                  have hcz46_6 : w6.cell? ⟨gb529, 6, none⟩ = some (.int .i64 a1_6) := (blk_cell BK529.out 6).trans rfl
                  have hcz46_7 : w6.cell? ⟨gb529, 7, none⟩ = some (.int .i64 a1_7) := (blk_cell BK529.out 7).trans rfl
                  have hcz46_8 : w6.cell? ⟨gb529, 8, none⟩ = some (.int .i64 a1_8) := (blk_cell BK529.out 8).trans rfl
                  have hcz46_9 : w6.cell? ⟨gb529, 9, none⟩ = some (.int .i64 a1_9) := (blk_cell BK529.out 9).trans rfl
                  have hcz46_10 : w6.cell? ⟨gb529, 10, none⟩ = some (.int .i64 a1_10) := (blk_cell BK529.out 10).trans rfl
                  have hcz46_11 : w6.cell? ⟨gb529, 11, none⟩ = some (.int .i64 a1_11) := (blk_cell BK529.out 11).trans rfl
                  have hcz46_12 : w6.cell? ⟨gb529, 12, none⟩ = some (.slice A1_12 l1_12.length c1_12) := (blk_cell BK529.out 12).trans rfl
                  have hfz46_0 := blk_frozen BK529.out 0
                  have hfz46_1 := blk_frozen BK529.out 1
                  have hfz46_2 := blk_frozen BK529.out 2
                  have hfz46_3 := blk_frozen BK529.out 3
                  have hfz46_4 := blk_frozen BK529.out 4
                  have hfz46_5 := blk_frozen BK529.out 5
                  have hfz46_6 := blk_frozen BK529.out 6
                  have hfz46_7 := blk_frozen BK529.out 7
                  have hfz46_8 := blk_frozen BK529.out 8
                  have hfz46_9 := blk_frozen BK529.out 9
                  have hfz46_10 := blk_frozen BK529.out 10
                  have hfz46_11 := blk_frozen BK529.out 11
                  have hfz46_12 := blk_frozen BK529.out 12
                  go_wp2_with (first | (go_at_call 33; (with_reducible refine (bourneref1_AccMay.calls a1_0 a1_1 a1_2 a1_3 a1_4 a1_5 a1_6 a1_7 a1_8 a1_9 a1_10 a1_11 _ _ l1_12 _ _ l0_4 true _ ?side1 ?side2 ?side3 ?side4 A23.out).mono ?_); (case side1 => repeat (first | exact (Kd.C_below HR1_12.out HB.out) | (with_reducible refine Kd.C_alloc ?_ _) | (with_reducible refine Kd.C_drewN ?_ _) | (with_reducible refine Kd.C_drew ?_))); (case side2 => exact HC1_12.out); (case side3 => repeat (first | exact (Kd.C_below HR0_4.out HB.out) | (with_reducible refine Kd.C_alloc ?_ _) | (with_reducible refine Kd.C_drewN ?_ _) | (with_reducible refine Kd.C_drew ?_))); (case side4 => exact HC0_4.out); rintro e w47 ⟨rfl, hb⟩; have n0_ := Aside0.mk (blk_below (g := gb528) (o := .cells #[.int .i64 a0_0, .int .i64 a0_1, .int .i64 a0_2, .int .i64 a0_3, .slice A0_4 l0_4.length c0_4, .int .i64 a0_5] 24 (0, 0)) (by (with_reducible repeat (first | refine blk_drewN ?_ _ | refine blk_drew ?_ | refine blk_alloc ?_ _)); exact BK528.out) hb); have n1_ := Aside0.mk (blk_below (g := gb529) (o := .cells #[.int .i64 a1_0, .int .i64 a1_1, .int .i64 a1_2, .int .i64 a1_3, .int .i64 a1_4, .int .i64 a1_5, .int .i64 a1_6, .int .i64 a1_7, .int .i64 a1_8, .int .i64 a1_9, .int .i64 a1_10, .int .i64 a1_11, .slice A1_12 l1_12.length c1_12] 28 (0, 0)) (by (with_reducible repeat (first | refine blk_drewN ?_ _ | refine blk_drew ?_ | refine blk_alloc ?_ _)); exact BK529.out) hb); have n2_ := Aside0.mk (blk_below (g := gb530) (o := .cells #[.int .i64 0, .bool false, .slice none 0 0] 31 (0, 0)) (by (with_reducible repeat (first | refine blk_drewN ?_ _ | refine blk_drew ?_ | refine blk_alloc ?_ _)); exact BK530.out) hb); have n3_ := Aside0.mk (below_step (by repeat (first | (with_reducible first | exact HB.out | apply below_alloc | apply pw_below_drewN | apply below_drew1 | refine below_set ?_ GE528.out | refine below_set ?_ GE529.out | refine below_set ?_ GE530.out) | exact HB.out)) hb); clear BK528; clear BK529; clear BK530; clear HB; have BK528 := n0_; have BK529 := n1_; have BK530 := n2_; have HB := n3_; clear n0_ n1_ n2_ n3_; (try clear hb); (try clear hb2); (try clear hk); (try clear hi); have hcz48_0 : w47.cell? ⟨gb529, 0, none⟩ = some (.int .i64 a1_0) := (blk_cell BK529.out 0).trans rfl; have hcz48_1 : w47.cell? ⟨gb529, 1, none⟩ = some (.int .i64 a1_1) := (blk_cell BK529.out 1).trans rfl; have hcz48_2 : w47.cell? ⟨gb529, 2, none⟩ = some (.int .i64 a1_2) := (blk_cell BK529.out 2).trans rfl; have hcz48_3 : w47.cell? ⟨gb529, 3, none⟩ = some (.int .i64 a1_3) := (blk_cell BK529.out 3).trans rfl; have hcz48_4 : w47.cell? ⟨gb529, 4, none⟩ = some (.int .i64 a1_4) := (blk_cell BK529.out 4).trans rfl; have hcz48_5 : w47.cell? ⟨gb529, 5, none⟩ = some (.int .i64 a1_5) := (blk_cell BK529.out 5).trans rfl; have hcz48_6 : w47.cell? ⟨gb529, 6, none⟩ = some (.int .i64 a1_6) := (blk_cell BK529.out 6).trans rfl; have hcz48_7 : w47.cell? ⟨gb529, 7, none⟩ = some (.int .i64 a1_7) := (blk_cell BK529.out 7).trans rfl; have hcz48_8 : w47.cell? ⟨gb529, 8, none⟩ = some (.int .i64 a1_8) := (blk_cell BK529.out 8).trans rfl; have hcz48_9 : w47.cell? ⟨gb529, 9, none⟩ = some (.int .i64 a1_9) := (blk_cell BK529.out 9).trans rfl; have hcz48_10 : w47.cell? ⟨gb529, 10, none⟩ = some (.int .i64 a1_10) := (blk_cell BK529.out 10).trans rfl; have hcz48_11 : w47.cell? ⟨gb529, 11, none⟩ = some (.int .i64 a1_11) := (blk_cell BK529.out 11).trans rfl; have hcz48_12 : w47.cell? ⟨gb529, 12, none⟩ = some (.slice A1_12 l1_12.length c1_12) := (blk_cell BK529.out 12).trans rfl; have hfz48_0 := blk_frozen BK529.out 0; have hfz48_1 := blk_frozen BK529.out 1; have hfz48_2 := blk_frozen BK529.out 2; have hfz48_3 := blk_frozen BK529.out 3; have hfz48_4 := blk_frozen BK529.out 4; have hfz48_5 := blk_frozen BK529.out 5; have hfz48_6 := blk_frozen BK529.out 6; have hfz48_7 := blk_frozen BK529.out 7; have hfz48_8 := blk_frozen BK529.out 8; have hfz48_9 := blk_frozen BK529.out 9; have hfz48_10 := blk_frozen BK529.out 10; have hfz48_11 := blk_frozen BK529.out 11; have hfz48_12 := blk_frozen BK529.out 12; have hcz49_0 : w47.cell? ⟨gb528, 0, none⟩ = some (.int .i64 a0_0) := (blk_cell BK528.out 0).trans rfl; have hcz49_1 : w47.cell? ⟨gb528, 1, none⟩ = some (.int .i64 a0_1) := (blk_cell BK528.out 1).trans rfl; have hcz49_2 : w47.cell? ⟨gb528, 2, none⟩ = some (.int .i64 a0_2) := (blk_cell BK528.out 2).trans rfl; have hcz49_3 : w47.cell? ⟨gb528, 3, none⟩ = some (.int .i64 a0_3) := (blk_cell BK528.out 3).trans rfl; have hcz49_4 : w47.cell? ⟨gb528, 4, none⟩ = some (.slice A0_4 l0_4.length c0_4) := (blk_cell BK528.out 4).trans rfl; have hcz49_5 : w47.cell? ⟨gb528, 5, none⟩ = some (.int .i64 a0_5) := (blk_cell BK528.out 5).trans rfl; have hfz49_0 := blk_frozen BK528.out 0; have hfz49_1 := blk_frozen BK528.out 1; have hfz49_2 := blk_frozen BK528.out 2; have hfz49_3 := blk_frozen BK528.out 3; have hfz49_4 := blk_frozen BK528.out 4; have hfz49_5 := blk_frozen BK528.out 5))
                  go_meet
                  case rel => exact ⟨_, (false), (by first | rfl | (simp; done) | (simp [*]; done)), H', ⟨by first | omega | exact Nat.le_refl _⟩, ⟨by (with_reducible repeat (first | refine blk_drewN ?_ _ | refine blk_drew ?_ | refine blk_alloc ?_ _)); exact BK528.out⟩, ⟨by (with_reducible repeat (first | refine blk_drewN ?_ _ | refine blk_drew ?_ | refine blk_alloc ?_ _)); exact BK529.out⟩, ⟨by (with_reducible repeat (first | refine blk_drewN ?_ _ | refine blk_drew ?_ | refine blk_alloc ?_ _)); exact BK530.out⟩, ⟨by repeat (first | (with_reducible first | exact HB.out | apply below_alloc | apply pw_below_drewN | apply below_drew1 | refine below_set ?_ GE528.out | refine below_set ?_ GE529.out | refine below_set ?_ GE530.out) | exact HB.out)⟩⟩
            · replace c24 := Bool.eq_false_iff.mpr c24
              subst c24
              have H1 : (bourneref1_Value.j0 k true a0_0 a0_1 a0_2 a0_3 l0_4 a0_5 a1_0 a1_1 a1_2 a1_3 a1_4 a1_5 a1_6 a1_7 a1_8 a1_9 a1_10 a1_11 l1_12) = some (r1, r2, r3, r4) := by rw [if_neg (show ¬ (false = true) by decide)] at H; exact H
              clear H
              have H := H1
              clear H1
              have H' := Aside0.mk H
              clear H
              have hnb50 := NB528_529.out
              have hnc50 := NB529_528.out
              have hnb51 := NB528_530.out
              have hnc51 := NB530_528.out
              have hcz52_0 : w6.cell? ⟨gb528, 0, none⟩ = some (.int .i64 a0_0) := (blk_cell BK528.out 0).trans rfl
              have hcz52_1 : w6.cell? ⟨gb528, 1, none⟩ = some (.int .i64 a0_1) := (blk_cell BK528.out 1).trans rfl
              have hcz52_2 : w6.cell? ⟨gb528, 2, none⟩ = some (.int .i64 a0_2) := (blk_cell BK528.out 2).trans rfl
              have hcz52_3 : w6.cell? ⟨gb528, 3, none⟩ = some (.int .i64 a0_3) := (blk_cell BK528.out 3).trans rfl
              have hcz52_4 : w6.cell? ⟨gb528, 4, none⟩ = some (.slice A0_4 l0_4.length c0_4) := (blk_cell BK528.out 4).trans rfl
              have hcz52_5 : w6.cell? ⟨gb528, 5, none⟩ = some (.int .i64 a0_5) := (blk_cell BK528.out 5).trans rfl
              have hfz52_0 := blk_frozen BK528.out 0
              have hfz52_1 := blk_frozen BK528.out 1
              have hfz52_2 := blk_frozen BK528.out 2
              have hfz52_3 := blk_frozen BK528.out 3
              have hfz52_4 := blk_frozen BK528.out 4
              have hfz52_5 := blk_frozen BK528.out 5
              have hnb53 := NB529_530.out
              have hnc53 := NB530_529.out
              have hcz54_0 : w6.cell? ⟨gb529, 0, none⟩ = some (.int .i64 a1_0) := (blk_cell BK529.out 0).trans rfl
              have hcz54_1 : w6.cell? ⟨gb529, 1, none⟩ = some (.int .i64 a1_1) := (blk_cell BK529.out 1).trans rfl
              have hcz54_2 : w6.cell? ⟨gb529, 2, none⟩ = some (.int .i64 a1_2) := (blk_cell BK529.out 2).trans rfl
              have hcz54_3 : w6.cell? ⟨gb529, 3, none⟩ = some (.int .i64 a1_3) := (blk_cell BK529.out 3).trans rfl
              have hcz54_4 : w6.cell? ⟨gb529, 4, none⟩ = some (.int .i64 a1_4) := (blk_cell BK529.out 4).trans rfl
              have hcz54_5 : w6.cell? ⟨gb529, 5, none⟩ = some (.int .i64 a1_5) := (blk_cell BK529.out 5).trans rfl
              have hcz54_6 : w6.cell? ⟨gb529, 6, none⟩ = some (.int .i64 a1_6) := (blk_cell BK529.out 6).trans rfl
              have hcz54_7 : w6.cell? ⟨gb529, 7, none⟩ = some (.int .i64 a1_7) := (blk_cell BK529.out 7).trans rfl
              have hcz54_8 : w6.cell? ⟨gb529, 8, none⟩ = some (.int .i64 a1_8) := (blk_cell BK529.out 8).trans rfl
              have hcz54_9 : w6.cell? ⟨gb529, 9, none⟩ = some (.int .i64 a1_9) := (blk_cell BK529.out 9).trans rfl
              have hcz54_10 : w6.cell? ⟨gb529, 10, none⟩ = some (.int .i64 a1_10) := (blk_cell BK529.out 10).trans rfl
              have hcz54_11 : w6.cell? ⟨gb529, 11, none⟩ = some (.int .i64 a1_11) := (blk_cell BK529.out 11).trans rfl
              have hcz54_12 : w6.cell? ⟨gb529, 12, none⟩ = some (.slice A1_12 l1_12.length c1_12) := (blk_cell BK529.out 12).trans rfl
              have hfz54_0 := blk_frozen BK529.out 0
              have hfz54_1 := blk_frozen BK529.out 1
              have hfz54_2 := blk_frozen BK529.out 2
              have hfz54_3 := blk_frozen BK529.out 3
              have hfz54_4 := blk_frozen BK529.out 4
              have hfz54_5 := blk_frozen BK529.out 5
              have hfz54_6 := blk_frozen BK529.out 6
              have hfz54_7 := blk_frozen BK529.out 7
              have hfz54_8 := blk_frozen BK529.out 8
              have hfz54_9 := blk_frozen BK529.out 9
              have hfz54_10 := blk_frozen BK529.out 10
              have hfz54_11 := blk_frozen BK529.out 11
              have hfz54_12 := blk_frozen BK529.out 12
              go_wp2_with (first | (go_at_call 33; (with_reducible refine (bourneref1_AccMay.calls a1_0 a1_1 a1_2 a1_3 a1_4 a1_5 a1_6 a1_7 a1_8 a1_9 a1_10 a1_11 _ _ l1_12 _ _ l0_4 false _ ?side1 ?side2 ?side3 ?side4 A23.out).mono ?_); (case side1 => repeat (first | exact (Kd.C_below HR1_12.out HB.out) | (with_reducible refine Kd.C_alloc ?_ _) | (with_reducible refine Kd.C_drewN ?_ _) | (with_reducible refine Kd.C_drew ?_))); (case side2 => exact HC1_12.out); (case side3 => repeat (first | exact (Kd.C_below HR0_4.out HB.out) | (with_reducible refine Kd.C_alloc ?_ _) | (with_reducible refine Kd.C_drewN ?_ _) | (with_reducible refine Kd.C_drew ?_))); (case side4 => exact HC0_4.out); rintro e w55 ⟨rfl, hb⟩; have n0_ := Aside0.mk (blk_below (g := gb528) (o := .cells #[.int .i64 a0_0, .int .i64 a0_1, .int .i64 a0_2, .int .i64 a0_3, .slice A0_4 l0_4.length c0_4, .int .i64 a0_5] 24 (0, 0)) (by (with_reducible repeat (first | refine blk_drewN ?_ _ | refine blk_drew ?_ | refine blk_alloc ?_ _)); exact BK528.out) hb); have n1_ := Aside0.mk (blk_below (g := gb529) (o := .cells #[.int .i64 a1_0, .int .i64 a1_1, .int .i64 a1_2, .int .i64 a1_3, .int .i64 a1_4, .int .i64 a1_5, .int .i64 a1_6, .int .i64 a1_7, .int .i64 a1_8, .int .i64 a1_9, .int .i64 a1_10, .int .i64 a1_11, .slice A1_12 l1_12.length c1_12] 28 (0, 0)) (by (with_reducible repeat (first | refine blk_drewN ?_ _ | refine blk_drew ?_ | refine blk_alloc ?_ _)); exact BK529.out) hb); have n2_ := Aside0.mk (blk_below (g := gb530) (o := .cells #[.int .i64 0, .bool false, .slice none 0 0] 31 (0, 0)) (by (with_reducible repeat (first | refine blk_drewN ?_ _ | refine blk_drew ?_ | refine blk_alloc ?_ _)); exact BK530.out) hb); have n3_ := Aside0.mk (below_step (by repeat (first | (with_reducible first | exact HB.out | apply below_alloc | apply pw_below_drewN | apply below_drew1 | refine below_set ?_ GE528.out | refine below_set ?_ GE529.out | refine below_set ?_ GE530.out) | exact HB.out)) hb); clear BK528; clear BK529; clear BK530; clear HB; have BK528 := n0_; have BK529 := n1_; have BK530 := n2_; have HB := n3_; clear n0_ n1_ n2_ n3_; (try clear hb); (try clear hb2); (try clear hk); (try clear hi)))
              go_meet
              case rel => exact ⟨_, (true), (by first | rfl | (simp; done) | (simp [*]; done)), H', ⟨by first | omega | exact Nat.le_refl _⟩, ⟨by (with_reducible repeat (first | refine blk_drewN ?_ _ | refine blk_drew ?_ | refine blk_alloc ?_ _)); exact BK528.out⟩, ⟨by (with_reducible repeat (first | refine blk_drewN ?_ _ | refine blk_drew ?_ | refine blk_alloc ?_ _)); exact BK529.out⟩, ⟨by (with_reducible repeat (first | refine blk_drewN ?_ _ | refine blk_drew ?_ | refine blk_alloc ?_ _)); exact BK530.out⟩, ⟨by repeat (first | (with_reducible first | exact HB.out | apply below_alloc | apply pw_below_drewN | apply below_drew1 | refine below_set ?_ GE528.out | refine below_set ?_ GE529.out | refine below_set ?_ GE530.out) | exact HB.out)⟩⟩
  case rest =>
    clear HC3
    try clear c1
    try clear c2
    try clear p2
    try clear c3
    try clear c4
    try clear c5
    try clear c7
    try clear c7b0
    try clear c8
    try clear c9
    try clear c11
    try clear c11b0
    try clear c12
    try clear c13
    try clear c15
    try clear c15b0
    try clear c16
    try clear c17
    try clear c18
    try clear c19
    try clear c19b0
    try clear c20
    try clear c21
    try clear c24
    try clear c25
    try clear c25b0
    try clear c25b1
    try clear c26
    try clear c27
    try clear c29
    try clear c33
    try clear c33b0
    try clear c33b1
    try clear c34
    try clear c35
    try clear c37
    try clear c42
    try clear c43
    try clear c45
    try clear c50
    try clear c51
    try clear c53
    try clear hcz10_0
    try clear hcz10_1
    try clear hcz10_2
    try clear hcz10_3
    try clear hcz10_4
    try clear hcz10_5
    try clear hcz14_0
    try clear hcz14_1
    try clear hcz14_2
    try clear hcz14_3
    try clear hcz14_4
    try clear hcz14_5
    try clear hcz18_0
    try clear hcz18_1
    try clear hcz18_2
    try clear hcz18_3
    try clear hcz18_4
    try clear hcz18_5
    try clear hcz22_0
    try clear hcz22_1
    try clear hcz22_2
    try clear hcz22_3
    try clear hcz22_4
    try clear hcz22_5
    try clear hcz28_0
    try clear hcz28_1
    try clear hcz28_2
    try clear hcz28_3
    try clear hcz28_4
    try clear hcz28_5
    try clear hcz30_0
    try clear hcz30_1
    try clear hcz30_10
    try clear hcz30_11
    try clear hcz30_12
    try clear hcz30_2
    try clear hcz30_3
    try clear hcz30_4
    try clear hcz30_5
    try clear hcz30_6
    try clear hcz30_7
    try clear hcz30_8
    try clear hcz30_9
    try clear hcz32_0
    try clear hcz32_1
    try clear hcz32_10
    try clear hcz32_11
    try clear hcz32_12
    try clear hcz32_2
    try clear hcz32_3
    try clear hcz32_4
    try clear hcz32_5
    try clear hcz32_6
    try clear hcz32_7
    try clear hcz32_8
    try clear hcz32_9
    try clear hcz36_0
    try clear hcz36_1
    try clear hcz36_2
    try clear hcz36_3
    try clear hcz36_4
    try clear hcz36_5
    try clear hcz38_0
    try clear hcz38_1
    try clear hcz38_10
    try clear hcz38_11
    try clear hcz38_12
    try clear hcz38_2
    try clear hcz38_3
    try clear hcz38_4
    try clear hcz38_5
    try clear hcz38_6
    try clear hcz38_7
    try clear hcz38_8
    try clear hcz38_9
    try clear hcz40_0
    try clear hcz40_1
    try clear hcz40_10
    try clear hcz40_11
    try clear hcz40_12
    try clear hcz40_2
    try clear hcz40_3
    try clear hcz40_4
    try clear hcz40_5
    try clear hcz40_6
    try clear hcz40_7
    try clear hcz40_8
    try clear hcz40_9
    try clear hcz41_0
    try clear hcz41_1
    try clear hcz41_2
    try clear hcz41_3
    try clear hcz41_4
    try clear hcz41_5
    try clear hcz44_0
    try clear hcz44_1
    try clear hcz44_2
    try clear hcz44_3
    try clear hcz44_4
    try clear hcz44_5
    try clear hcz46_0
    try clear hcz46_1
    try clear hcz46_10
    try clear hcz46_11
    try clear hcz46_12
    try clear hcz46_2
    try clear hcz46_3
    try clear hcz46_4
    try clear hcz46_5
    try clear hcz46_6
    try clear hcz46_7
    try clear hcz46_8
    try clear hcz46_9
    try clear hcz48_0
    try clear hcz48_1
    try clear hcz48_10
    try clear hcz48_11
    try clear hcz48_12
    try clear hcz48_2
    try clear hcz48_3
    try clear hcz48_4
    try clear hcz48_5
    try clear hcz48_6
    try clear hcz48_7
    try clear hcz48_8
    try clear hcz48_9
    try clear hcz49_0
    try clear hcz49_1
    try clear hcz49_2
    try clear hcz49_3
    try clear hcz49_4
    try clear hcz49_5
    try clear hcz52_0
    try clear hcz52_1
    try clear hcz52_2
    try clear hcz52_3
    try clear hcz52_4
    try clear hcz52_5
    try clear hcz54_0
    try clear hcz54_1
    try clear hcz54_10
    try clear hcz54_11
    try clear hcz54_12
    try clear hcz54_2
    try clear hcz54_3
    try clear hcz54_4
    try clear hcz54_5
    try clear hcz54_6
    try clear hcz54_7
    try clear hcz54_8
    try clear hcz54_9
    try clear hfz10_0
    try clear hfz10_1
    try clear hfz10_2
    try clear hfz10_3
    try clear hfz10_4
    try clear hfz10_5
    try clear hfz14_0
    try clear hfz14_1
    try clear hfz14_2
    try clear hfz14_3
    try clear hfz14_4
    try clear hfz14_5
    try clear hfz18_0
    try clear hfz18_1
    try clear hfz18_2
    try clear hfz18_3
    try clear hfz18_4
    try clear hfz18_5
    try clear hfz22_0
    try clear hfz22_1
    try clear hfz22_2
    try clear hfz22_3
    try clear hfz22_4
    try clear hfz22_5
    try clear hfz28_0
    try clear hfz28_1
    try clear hfz28_2
    try clear hfz28_3
    try clear hfz28_4
    try clear hfz28_5
    try clear hfz30_0
    try clear hfz30_1
    try clear hfz30_10
    try clear hfz30_11
    try clear hfz30_12
    try clear hfz30_2
    try clear hfz30_3
    try clear hfz30_4
    try clear hfz30_5
    try clear hfz30_6
    try clear hfz30_7
    try clear hfz30_8
    try clear hfz30_9
    try clear hfz32_0
    try clear hfz32_1
    try clear hfz32_10
    try clear hfz32_11
    try clear hfz32_12
    try clear hfz32_2
    try clear hfz32_3
    try clear hfz32_4
    try clear hfz32_5
    try clear hfz32_6
    try clear hfz32_7
    try clear hfz32_8
    try clear hfz32_9
    try clear hfz36_0
    try clear hfz36_1
    try clear hfz36_2
    try clear hfz36_3
    try clear hfz36_4
    try clear hfz36_5
    try clear hfz38_0
    try clear hfz38_1
    try clear hfz38_10
    try clear hfz38_11
    try clear hfz38_12
    try clear hfz38_2
    try clear hfz38_3
    try clear hfz38_4
    try clear hfz38_5
    try clear hfz38_6
    try clear hfz38_7
    try clear hfz38_8
    try clear hfz38_9
    try clear hfz40_0
    try clear hfz40_1
    try clear hfz40_10
    try clear hfz40_11
    try clear hfz40_12
    try clear hfz40_2
    try clear hfz40_3
    try clear hfz40_4
    try clear hfz40_5
    try clear hfz40_6
    try clear hfz40_7
    try clear hfz40_8
    try clear hfz40_9
    try clear hfz41_0
    try clear hfz41_1
    try clear hfz41_2
    try clear hfz41_3
    try clear hfz41_4
    try clear hfz41_5
    try clear hfz44_0
    try clear hfz44_1
    try clear hfz44_2
    try clear hfz44_3
    try clear hfz44_4
    try clear hfz44_5
    try clear hfz46_0
    try clear hfz46_1
    try clear hfz46_10
    try clear hfz46_11
    try clear hfz46_12
    try clear hfz46_2
    try clear hfz46_3
    try clear hfz46_4
    try clear hfz46_5
    try clear hfz46_6
    try clear hfz46_7
    try clear hfz46_8
    try clear hfz46_9
    try clear hfz48_0
    try clear hfz48_1
    try clear hfz48_10
    try clear hfz48_11
    try clear hfz48_12
    try clear hfz48_2
    try clear hfz48_3
    try clear hfz48_4
    try clear hfz48_5
    try clear hfz48_6
    try clear hfz48_7
    try clear hfz48_8
    try clear hfz48_9
    try clear hfz49_0
    try clear hfz49_1
    try clear hfz49_2
    try clear hfz49_3
    try clear hfz49_4
    try clear hfz49_5
    try clear hfz52_0
    try clear hfz52_1
    try clear hfz52_2
    try clear hfz52_3
    try clear hfz52_4
    try clear hfz52_5
    try clear hfz54_0
    try clear hfz54_1
    try clear hfz54_10
    try clear hfz54_11
    try clear hfz54_12
    try clear hfz54_2
    try clear hfz54_3
    try clear hfz54_4
    try clear hfz54_5
    try clear hfz54_6
    try clear hfz54_7
    try clear hfz54_8
    try clear hfz54_9
    obtain ⟨kq, x46_2, rfl, HA, HJ2, BK528, BK529, BK530, HB⟩ := hcut
    cases kq with
    | zero => exact absurd HA.out (by simp [bourneref1_Value.j0])
    | succ kj2 =>
      have H := HA.out
      clear HA
      simp only [bourneref1_Value.j0] at H
      by_cases c56 : x46_2 = true
      · subst c56
        have H1 : (some (0, false, ([] : List Int), 200)) = some (r1, r2, r3, r4) := by rw [if_pos rfl] at H; exact H
        clear H
        have H := H1
        clear H1
        simp only [Option.some.injEq, Prod.mk.injEq] at H
        obtain ⟨rfl, rfl, rfl, rfl⟩ := H
        have hnb57 := NB530_528.out
        have hnc57 := NB528_530.out
        have hnb58 := NB530_529.out
        have hnc58 := NB529_530.out
        have hcz59_0 : wc.cell? ⟨gb530, 0, none⟩ = some (.int .i64 0) := (blk_cell BK530.out 0).trans rfl
        have hcz59_1 : wc.cell? ⟨gb530, 1, none⟩ = some (.bool false) := (blk_cell BK530.out 1).trans rfl
        have hcz59_2 : wc.cell? ⟨gb530, 2, none⟩ = some (.slice none 0 0) := (blk_cell BK530.out 2).trans rfl
        have hfz59_0 := blk_frozen BK530.out 0
        have hfz59_1 := blk_frozen BK530.out 1
        have hfz59_2 := blk_frozen BK530.out 2
        go_wp2
        refine bodyPost_ret (results_ct rfl _ _ gb530 31 #[.int .i64 0, .bool false, .slice none 0 0] (0, 0) _ rfl (by (with_reducible repeat (first | refine blk_drewN ?_ _ | refine blk_drew ?_ | refine blk_alloc ?_ _)); refine blk_put (cs := #[.int .i64 0, .bool false, .slice none 0 0]) ?_ 2 _ rfl; (with_reducible repeat (first | refine blk_drewN ?_ _ | refine blk_drew ?_ | refine blk_alloc ?_ _)); refine blk_put (cs := #[.int .i64 0, .bool false, .slice none 0 0]) ?_ 1 _ rfl; (with_reducible repeat (first | refine blk_drewN ?_ _ | refine blk_drew ?_ | refine blk_alloc ?_ _)); refine blk_put (cs := #[.int .i64 0, .bool false, .slice none 0 0]) ?_ 0 _ rfl; (with_reducible repeat (first | refine blk_drewN ?_ _ | refine blk_drew ?_ | refine blk_alloc ?_ _)); exact BK530.out) Try.underlying31 rfl (by kernel_rfl)) rfl ?_
        exact ⟨_, by first | rfl | (simp [errW_none, errW_some] <;> rfl) | (simp [*, errW_none, errW_some] <;> rfl), by first | exact Kd.R_nil _ _ _ _ _ | exact Kd.N_nil _ _ _ _ _ | exact Kd.V_nil _ _ _ _ _ | exact Kd.Q_nil _ _ _ _ _ | exact Kd.S_nil _ _ _ _ _, by repeat (first | (with_reducible first | exact HB.out | apply below_alloc | apply pw_below_drewN | apply below_drew1 | refine below_set ?_ GE528.out | refine below_set ?_ GE529.out | refine below_set ?_ GE530.out) | exact HB.out)⟩
      · replace c56 := Bool.eq_false_iff.mpr c56
        subst c56
        have H1 : (if a0_1 = 0 then (some (a1_0, false, ([] : List Int), 0)) else (if a0_1 = 1 then ((bourneref1_within.f a1_1 1125899906842624).bind fun t532 => (if t532 = true then (some (a1_1, false, ([] : List Int), 0)) else (some (0, true, ([] : List Int), 0)))) else (if a0_1 = 2 then (some (a1_2, false, ([] : List Int), 0)) else (if a0_1 = 3 then (some (a1_3, false, ([] : List Int), 0)) else (if a0_1 = 4 then (some (a1_7, false, ([] : List Int), 0)) else (if a0_1 = 5 then (some (a1_11, false, ([] : List Int), 0)) else (if a0_1 = 6 then ((some (([] : List Int) : List Int)).bind fun y533 => (if y533.length + l1_12.length < 17592186044416 then (some (0, false, (y533 ++ l1_12), 0)) else (none))) else ((bourneref1_rank.f kj2 a0_0 a0_1 a0_2 a0_3 l0_4 a0_5 a1_0 a1_1 a1_2 a1_3 a1_4 a1_5 a1_6 a1_7 a1_8 a1_9 a1_10 a1_11 l1_12).bind fun t539 => (some (t539, false, ([] : List Int), 0)))))))))) = some (r1, r2, r3, r4) := by rw [if_neg (show ¬ (false = true) by decide)] at H; exact H
        clear H
        have H := H1
        clear H1
        by_cases c60 : a0_1 = 0
        · rw [if_pos c60] at H
          have c60b0 : (a0_1 == 0) = true := beq_iff_eq.mpr c60
          have c60b1 : (a0_1 != 0) = false := bne_eq_false_iff_eq.mpr c60
          clear c60
          simp only [Option.some.injEq, Prod.mk.injEq] at H
          obtain ⟨rfl, rfl, rfl, rfl⟩ := H
          have hnb61 := NB528_529.out
          have hnc61 := NB529_528.out
          have hnb62 := NB528_530.out
          have hnc62 := NB530_528.out
          have hcz63_0 : wc.cell? ⟨gb528, 0, none⟩ = some (.int .i64 a0_0) := (blk_cell BK528.out 0).trans rfl
          have hcz63_1 : wc.cell? ⟨gb528, 1, none⟩ = some (.int .i64 a0_1) := (blk_cell BK528.out 1).trans rfl
          have hcz63_2 : wc.cell? ⟨gb528, 2, none⟩ = some (.int .i64 a0_2) := (blk_cell BK528.out 2).trans rfl
          have hcz63_3 : wc.cell? ⟨gb528, 3, none⟩ = some (.int .i64 a0_3) := (blk_cell BK528.out 3).trans rfl
          have hcz63_4 : wc.cell? ⟨gb528, 4, none⟩ = some (.slice A0_4 l0_4.length c0_4) := (blk_cell BK528.out 4).trans rfl
          have hcz63_5 : wc.cell? ⟨gb528, 5, none⟩ = some (.int .i64 a0_5) := (blk_cell BK528.out 5).trans rfl
          have hfz63_0 := blk_frozen BK528.out 0
          have hfz63_1 := blk_frozen BK528.out 1
          have hfz63_2 := blk_frozen BK528.out 2
          have hfz63_3 := blk_frozen BK528.out 3
          have hfz63_4 := blk_frozen BK528.out 4
          have hfz63_5 := blk_frozen BK528.out 5
          have hnb64 := NB529_530.out
          have hnc64 := NB530_529.out
          have hcz65_0 : wc.cell? ⟨gb529, 0, none⟩ = some (.int .i64 a1_0) := (blk_cell BK529.out 0).trans rfl
          have hcz65_1 : wc.cell? ⟨gb529, 1, none⟩ = some (.int .i64 a1_1) := (blk_cell BK529.out 1).trans rfl
          have hcz65_2 : wc.cell? ⟨gb529, 2, none⟩ = some (.int .i64 a1_2) := (blk_cell BK529.out 2).trans rfl
          have hcz65_3 : wc.cell? ⟨gb529, 3, none⟩ = some (.int .i64 a1_3) := (blk_cell BK529.out 3).trans rfl
          have hcz65_4 : wc.cell? ⟨gb529, 4, none⟩ = some (.int .i64 a1_4) := (blk_cell BK529.out 4).trans rfl
          have hcz65_5 : wc.cell? ⟨gb529, 5, none⟩ = some (.int .i64 a1_5) := (blk_cell BK529.out 5).trans rfl
          have hcz65_6 : wc.cell? ⟨gb529, 6, none⟩ = some (.int .i64 a1_6) := (blk_cell BK529.out 6).trans rfl
          have hcz65_7 : wc.cell? ⟨gb529, 7, none⟩ = some (.int .i64 a1_7) := (blk_cell BK529.out 7).trans rfl
          have hcz65_8 : wc.cell? ⟨gb529, 8, none⟩ = some (.int .i64 a1_8) := (blk_cell BK529.out 8).trans rfl
          have hcz65_9 : wc.cell? ⟨gb529, 9, none⟩ = some (.int .i64 a1_9) := (blk_cell BK529.out 9).trans rfl
          have hcz65_10 : wc.cell? ⟨gb529, 10, none⟩ = some (.int .i64 a1_10) := (blk_cell BK529.out 10).trans rfl
          have hcz65_11 : wc.cell? ⟨gb529, 11, none⟩ = some (.int .i64 a1_11) := (blk_cell BK529.out 11).trans rfl
          have hcz65_12 : wc.cell? ⟨gb529, 12, none⟩ = some (.slice A1_12 l1_12.length c1_12) := (blk_cell BK529.out 12).trans rfl
          have hfz65_0 := blk_frozen BK529.out 0
          have hfz65_1 := blk_frozen BK529.out 1
          have hfz65_2 := blk_frozen BK529.out 2
          have hfz65_3 := blk_frozen BK529.out 3
          have hfz65_4 := blk_frozen BK529.out 4
          have hfz65_5 := blk_frozen BK529.out 5
          have hfz65_6 := blk_frozen BK529.out 6
          have hfz65_7 := blk_frozen BK529.out 7
          have hfz65_8 := blk_frozen BK529.out 8
          have hfz65_9 := blk_frozen BK529.out 9
          have hfz65_10 := blk_frozen BK529.out 10
          have hfz65_11 := blk_frozen BK529.out 11
          have hfz65_12 := blk_frozen BK529.out 12
          have hcz66_0 : wc.cell? ⟨gb530, 0, none⟩ = some (.int .i64 0) := (blk_cell BK530.out 0).trans rfl
          have hcz66_1 : wc.cell? ⟨gb530, 1, none⟩ = some (.bool false) := (blk_cell BK530.out 1).trans rfl
          have hcz66_2 : wc.cell? ⟨gb530, 2, none⟩ = some (.slice none 0 0) := (blk_cell BK530.out 2).trans rfl
          have hfz66_0 := blk_frozen BK530.out 0
          have hfz66_1 := blk_frozen BK530.out 1
          have hfz66_2 := blk_frozen BK530.out 2
          go_wp2
          refine bodyPost_ret (results_ct rfl _ _ gb530 31 #[.int .i64 a1_0, .bool false, .slice none 0 0] (0, 0) _ rfl (by (with_reducible repeat (first | refine blk_drewN ?_ _ | refine blk_drew ?_ | refine blk_alloc ?_ _)); refine blk_put (cs := #[.int .i64 a1_0, .bool false, .slice none 0 0]) ?_ 2 _ rfl; (with_reducible repeat (first | refine blk_drewN ?_ _ | refine blk_drew ?_ | refine blk_alloc ?_ _)); refine blk_put (cs := #[.int .i64 a1_0, .bool false, .slice none 0 0]) ?_ 1 _ rfl; (with_reducible repeat (first | refine blk_drewN ?_ _ | refine blk_drew ?_ | refine blk_alloc ?_ _)); refine blk_put (cs := #[.int .i64 0, .bool false, .slice none 0 0]) ?_ 0 _ rfl; (with_reducible repeat (first | refine blk_drewN ?_ _ | refine blk_drew ?_ | refine blk_alloc ?_ _)); exact BK530.out) Try.underlying31 rfl (by kernel_rfl)) rfl ?_
          exact ⟨_, by first | rfl | (simp [errW_none, errW_some] <;> rfl) | (simp [*, errW_none, errW_some] <;> rfl), by first | exact Kd.R_nil _ _ _ _ _ | exact Kd.N_nil _ _ _ _ _ | exact Kd.V_nil _ _ _ _ _ | exact Kd.Q_nil _ _ _ _ _ | exact Kd.S_nil _ _ _ _ _, by repeat (first | (with_reducible first | exact HB.out | apply below_alloc | apply pw_below_drewN | apply below_drew1 | refine below_set ?_ GE528.out | refine below_set ?_ GE529.out | refine below_set ?_ GE530.out) | exact HB.out)⟩
        · rw [if_neg c60] at H
          have c60b0 : (a0_1 == 0) = false := beq_eq_false_iff_ne.mpr c60
          have c60b1 : (a0_1 != 0) = true := bne_iff_ne.mpr c60
          by_cases c67 : a0_1 = 1
          · rw [if_pos c67] at H
            have c67b0 : (a0_1 == 1) = true := beq_iff_eq.mpr c67
            have c67b1 : (a0_1 != 1) = false := bne_eq_false_iff_eq.mpr c67
            clear c67
            replace H := Option.bind_eq_some_iff.mp H
            obtain ⟨t532, A680, H⟩ := H
            replace H : (if t532 = true then (some (a1_1, false, ([] : List Int), 0)) else (some (0, true, ([] : List Int), 0))) = some (r1, r2, r3, r4) := H
            have A68 := Aside0.mk A680
            clear A680
            by_cases c69 : t532 = true
            · subst c69
              have H1 : (some (a1_1, false, ([] : List Int), 0)) = some (r1, r2, r3, r4) := by rw [if_pos rfl] at H; exact H
              clear H
              have H := H1
              clear H1
              simp only [Option.some.injEq, Prod.mk.injEq] at H
              obtain ⟨rfl, rfl, rfl, rfl⟩ := H
              have hnb70 := NB528_529.out
              have hnc70 := NB529_528.out
              have hnb71 := NB528_530.out
              have hnc71 := NB530_528.out
              have hcz72_0 : wc.cell? ⟨gb528, 0, none⟩ = some (.int .i64 a0_0) := (blk_cell BK528.out 0).trans rfl
              have hcz72_1 : wc.cell? ⟨gb528, 1, none⟩ = some (.int .i64 a0_1) := (blk_cell BK528.out 1).trans rfl
              have hcz72_2 : wc.cell? ⟨gb528, 2, none⟩ = some (.int .i64 a0_2) := (blk_cell BK528.out 2).trans rfl
              have hcz72_3 : wc.cell? ⟨gb528, 3, none⟩ = some (.int .i64 a0_3) := (blk_cell BK528.out 3).trans rfl
              have hcz72_4 : wc.cell? ⟨gb528, 4, none⟩ = some (.slice A0_4 l0_4.length c0_4) := (blk_cell BK528.out 4).trans rfl
              have hcz72_5 : wc.cell? ⟨gb528, 5, none⟩ = some (.int .i64 a0_5) := (blk_cell BK528.out 5).trans rfl
              have hfz72_0 := blk_frozen BK528.out 0
              have hfz72_1 := blk_frozen BK528.out 1
              have hfz72_2 := blk_frozen BK528.out 2
              have hfz72_3 := blk_frozen BK528.out 3
              have hfz72_4 := blk_frozen BK528.out 4
              have hfz72_5 := blk_frozen BK528.out 5
              have hnb73 := NB529_530.out
              have hnc73 := NB530_529.out
              have hcz74_0 : wc.cell? ⟨gb529, 0, none⟩ = some (.int .i64 a1_0) := (blk_cell BK529.out 0).trans rfl
              have hcz74_1 : wc.cell? ⟨gb529, 1, none⟩ = some (.int .i64 a1_1) := (blk_cell BK529.out 1).trans rfl
              have hcz74_2 : wc.cell? ⟨gb529, 2, none⟩ = some (.int .i64 a1_2) := (blk_cell BK529.out 2).trans rfl
              have hcz74_3 : wc.cell? ⟨gb529, 3, none⟩ = some (.int .i64 a1_3) := (blk_cell BK529.out 3).trans rfl
              have hcz74_4 : wc.cell? ⟨gb529, 4, none⟩ = some (.int .i64 a1_4) := (blk_cell BK529.out 4).trans rfl
              have hcz74_5 : wc.cell? ⟨gb529, 5, none⟩ = some (.int .i64 a1_5) := (blk_cell BK529.out 5).trans rfl
              have hcz74_6 : wc.cell? ⟨gb529, 6, none⟩ = some (.int .i64 a1_6) := (blk_cell BK529.out 6).trans rfl
              have hcz74_7 : wc.cell? ⟨gb529, 7, none⟩ = some (.int .i64 a1_7) := (blk_cell BK529.out 7).trans rfl
              have hcz74_8 : wc.cell? ⟨gb529, 8, none⟩ = some (.int .i64 a1_8) := (blk_cell BK529.out 8).trans rfl
              have hcz74_9 : wc.cell? ⟨gb529, 9, none⟩ = some (.int .i64 a1_9) := (blk_cell BK529.out 9).trans rfl
              have hcz74_10 : wc.cell? ⟨gb529, 10, none⟩ = some (.int .i64 a1_10) := (blk_cell BK529.out 10).trans rfl
              have hcz74_11 : wc.cell? ⟨gb529, 11, none⟩ = some (.int .i64 a1_11) := (blk_cell BK529.out 11).trans rfl
              have hcz74_12 : wc.cell? ⟨gb529, 12, none⟩ = some (.slice A1_12 l1_12.length c1_12) := (blk_cell BK529.out 12).trans rfl
              have hfz74_0 := blk_frozen BK529.out 0
              have hfz74_1 := blk_frozen BK529.out 1
              have hfz74_2 := blk_frozen BK529.out 2
              have hfz74_3 := blk_frozen BK529.out 3
              have hfz74_4 := blk_frozen BK529.out 4
              have hfz74_5 := blk_frozen BK529.out 5
              have hfz74_6 := blk_frozen BK529.out 6
              have hfz74_7 := blk_frozen BK529.out 7
              have hfz74_8 := blk_frozen BK529.out 8
              have hfz74_9 := blk_frozen BK529.out 9
              have hfz74_10 := blk_frozen BK529.out 10
              have hfz74_11 := blk_frozen BK529.out 11
              have hfz74_12 := blk_frozen BK529.out 12
              go_wp2_with (first | ((with_reducible refine gate_callee (f := 41) rfl ?_); refine goesL_ (some 59) rfl rfl Try.func41 (by kernel_rfl) rfl #[.int .i64 a1_1, .int .i64 1125899906842624] rfl (by (try simp only [List.map_toArray, List.map_cons, List.map_nil]); first | done | rfl | (simp only [List.length_drop, List.length_take]; rfl)) ?_; (with_reducible refine (bourneref1_within.calls a1_1 1125899906842624 true _ A68.out).mono ?_); rintro e w75 ⟨rfl, hb⟩; refine ⟨_, rfl, ?_⟩; have n0_ := Aside0.mk (blk_below (g := gb528) (o := .cells #[.int .i64 a0_0, .int .i64 a0_1, .int .i64 a0_2, .int .i64 a0_3, .slice A0_4 l0_4.length c0_4, .int .i64 a0_5] 24 (0, 0)) (by (with_reducible repeat (first | refine blk_drewN ?_ _ | refine blk_drew ?_ | refine blk_alloc ?_ _)); exact BK528.out) hb); have n1_ := Aside0.mk (blk_below (g := gb529) (o := .cells #[.int .i64 a1_0, .int .i64 a1_1, .int .i64 a1_2, .int .i64 a1_3, .int .i64 a1_4, .int .i64 a1_5, .int .i64 a1_6, .int .i64 a1_7, .int .i64 a1_8, .int .i64 a1_9, .int .i64 a1_10, .int .i64 a1_11, .slice A1_12 l1_12.length c1_12] 28 (0, 0)) (by (with_reducible repeat (first | refine blk_drewN ?_ _ | refine blk_drew ?_ | refine blk_alloc ?_ _)); exact BK529.out) hb); have n2_ := Aside0.mk (blk_below (g := gb530) (o := .cells #[.int .i64 0, .bool false, .slice none 0 0] 31 (0, 0)) (by (with_reducible repeat (first | refine blk_drewN ?_ _ | refine blk_drew ?_ | refine blk_alloc ?_ _)); exact BK530.out) hb); have n3_ := Aside0.mk (below_step (by repeat (first | (with_reducible first | exact HB.out | apply below_alloc | apply pw_below_drewN | apply below_drew1 | refine below_set ?_ GE528.out | refine below_set ?_ GE529.out | refine below_set ?_ GE530.out) | exact HB.out)) hb); clear BK528; clear BK529; clear BK530; clear HB; have BK528 := n0_; have BK529 := n1_; have BK530 := n2_; have HB := n3_; clear n0_ n1_ n2_ n3_; (try clear hb); (try clear hb2); (try clear hk); (try clear hi); have hcz76_0 : w75.cell? ⟨gb529, 0, none⟩ = some (.int .i64 a1_0) := (blk_cell BK529.out 0).trans rfl; have hcz76_1 : w75.cell? ⟨gb529, 1, none⟩ = some (.int .i64 a1_1) := (blk_cell BK529.out 1).trans rfl; have hcz76_2 : w75.cell? ⟨gb529, 2, none⟩ = some (.int .i64 a1_2) := (blk_cell BK529.out 2).trans rfl; have hcz76_3 : w75.cell? ⟨gb529, 3, none⟩ = some (.int .i64 a1_3) := (blk_cell BK529.out 3).trans rfl; have hcz76_4 : w75.cell? ⟨gb529, 4, none⟩ = some (.int .i64 a1_4) := (blk_cell BK529.out 4).trans rfl; have hcz76_5 : w75.cell? ⟨gb529, 5, none⟩ = some (.int .i64 a1_5) := (blk_cell BK529.out 5).trans rfl; have hcz76_6 : w75.cell? ⟨gb529, 6, none⟩ = some (.int .i64 a1_6) := (blk_cell BK529.out 6).trans rfl; have hcz76_7 : w75.cell? ⟨gb529, 7, none⟩ = some (.int .i64 a1_7) := (blk_cell BK529.out 7).trans rfl; have hcz76_8 : w75.cell? ⟨gb529, 8, none⟩ = some (.int .i64 a1_8) := (blk_cell BK529.out 8).trans rfl; have hcz76_9 : w75.cell? ⟨gb529, 9, none⟩ = some (.int .i64 a1_9) := (blk_cell BK529.out 9).trans rfl; have hcz76_10 : w75.cell? ⟨gb529, 10, none⟩ = some (.int .i64 a1_10) := (blk_cell BK529.out 10).trans rfl; have hcz76_11 : w75.cell? ⟨gb529, 11, none⟩ = some (.int .i64 a1_11) := (blk_cell BK529.out 11).trans rfl; have hcz76_12 : w75.cell? ⟨gb529, 12, none⟩ = some (.slice A1_12 l1_12.length c1_12) := (blk_cell BK529.out 12).trans rfl; have hfz76_0 := blk_frozen BK529.out 0; have hfz76_1 := blk_frozen BK529.out 1; have hfz76_2 := blk_frozen BK529.out 2; have hfz76_3 := blk_frozen BK529.out 3; have hfz76_4 := blk_frozen BK529.out 4; have hfz76_5 := blk_frozen BK529.out 5; have hfz76_6 := blk_frozen BK529.out 6; have hfz76_7 := blk_frozen BK529.out 7; have hfz76_8 := blk_frozen BK529.out 8; have hfz76_9 := blk_frozen BK529.out 9; have hfz76_10 := blk_frozen BK529.out 10; have hfz76_11 := blk_frozen BK529.out 11; have hfz76_12 := blk_frozen BK529.out 12; have hcz77_0 : w75.cell? ⟨gb530, 0, none⟩ = some (.int .i64 0) := (blk_cell BK530.out 0).trans rfl; have hcz77_1 : w75.cell? ⟨gb530, 1, none⟩ = some (.bool false) := (blk_cell BK530.out 1).trans rfl; have hcz77_2 : w75.cell? ⟨gb530, 2, none⟩ = some (.slice none 0 0) := (blk_cell BK530.out 2).trans rfl; have hfz77_0 := blk_frozen BK530.out 0; have hfz77_1 := blk_frozen BK530.out 1; have hfz77_2 := blk_frozen BK530.out 2))
              refine bodyPost_ret (results_ct rfl _ _ gb530 31 #[.int .i64 a1_1, .bool false, .slice none 0 0] (0, 0) _ rfl (by (with_reducible repeat (first | refine blk_drewN ?_ _ | refine blk_drew ?_ | refine blk_alloc ?_ _)); refine blk_put (cs := #[.int .i64 a1_1, .bool false, .slice none 0 0]) ?_ 2 _ rfl; (with_reducible repeat (first | refine blk_drewN ?_ _ | refine blk_drew ?_ | refine blk_alloc ?_ _)); refine blk_put (cs := #[.int .i64 a1_1, .bool false, .slice none 0 0]) ?_ 1 _ rfl; (with_reducible repeat (first | refine blk_drewN ?_ _ | refine blk_drew ?_ | refine blk_alloc ?_ _)); refine blk_put (cs := #[.int .i64 0, .bool false, .slice none 0 0]) ?_ 0 _ rfl; (with_reducible repeat (first | refine blk_drewN ?_ _ | refine blk_drew ?_ | refine blk_alloc ?_ _)); exact BK530.out) Try.underlying31 rfl (by kernel_rfl)) rfl ?_
              exact ⟨_, by first | rfl | (simp [errW_none, errW_some] <;> rfl) | (simp [*, errW_none, errW_some] <;> rfl), by first | exact Kd.R_nil _ _ _ _ _ | exact Kd.N_nil _ _ _ _ _ | exact Kd.V_nil _ _ _ _ _ | exact Kd.Q_nil _ _ _ _ _ | exact Kd.S_nil _ _ _ _ _, by repeat (first | (with_reducible first | exact HB.out | apply below_alloc | apply pw_below_drewN | apply below_drew1 | refine below_set ?_ GE528.out | refine below_set ?_ GE529.out | refine below_set ?_ GE530.out) | exact HB.out)⟩
            · replace c69 := Bool.eq_false_iff.mpr c69
              subst c69
              have H1 : (some (0, true, ([] : List Int), 0)) = some (r1, r2, r3, r4) := by rw [if_neg (show ¬ (false = true) by decide)] at H; exact H
              clear H
              have H := H1
              clear H1
              simp only [Option.some.injEq, Prod.mk.injEq] at H
              obtain ⟨rfl, rfl, rfl, rfl⟩ := H
              have hnb78 := NB528_529.out
              have hnc78 := NB529_528.out
              have hnb79 := NB528_530.out
              have hnc79 := NB530_528.out
              have hcz80_0 : wc.cell? ⟨gb528, 0, none⟩ = some (.int .i64 a0_0) := (blk_cell BK528.out 0).trans rfl
              have hcz80_1 : wc.cell? ⟨gb528, 1, none⟩ = some (.int .i64 a0_1) := (blk_cell BK528.out 1).trans rfl
              have hcz80_2 : wc.cell? ⟨gb528, 2, none⟩ = some (.int .i64 a0_2) := (blk_cell BK528.out 2).trans rfl
              have hcz80_3 : wc.cell? ⟨gb528, 3, none⟩ = some (.int .i64 a0_3) := (blk_cell BK528.out 3).trans rfl
              have hcz80_4 : wc.cell? ⟨gb528, 4, none⟩ = some (.slice A0_4 l0_4.length c0_4) := (blk_cell BK528.out 4).trans rfl
              have hcz80_5 : wc.cell? ⟨gb528, 5, none⟩ = some (.int .i64 a0_5) := (blk_cell BK528.out 5).trans rfl
              have hfz80_0 := blk_frozen BK528.out 0
              have hfz80_1 := blk_frozen BK528.out 1
              have hfz80_2 := blk_frozen BK528.out 2
              have hfz80_3 := blk_frozen BK528.out 3
              have hfz80_4 := blk_frozen BK528.out 4
              have hfz80_5 := blk_frozen BK528.out 5
              have hnb81 := NB529_530.out
              have hnc81 := NB530_529.out
              have hcz82_0 : wc.cell? ⟨gb529, 0, none⟩ = some (.int .i64 a1_0) := (blk_cell BK529.out 0).trans rfl
              have hcz82_1 : wc.cell? ⟨gb529, 1, none⟩ = some (.int .i64 a1_1) := (blk_cell BK529.out 1).trans rfl
              have hcz82_2 : wc.cell? ⟨gb529, 2, none⟩ = some (.int .i64 a1_2) := (blk_cell BK529.out 2).trans rfl
              have hcz82_3 : wc.cell? ⟨gb529, 3, none⟩ = some (.int .i64 a1_3) := (blk_cell BK529.out 3).trans rfl
              have hcz82_4 : wc.cell? ⟨gb529, 4, none⟩ = some (.int .i64 a1_4) := (blk_cell BK529.out 4).trans rfl
              have hcz82_5 : wc.cell? ⟨gb529, 5, none⟩ = some (.int .i64 a1_5) := (blk_cell BK529.out 5).trans rfl
              have hcz82_6 : wc.cell? ⟨gb529, 6, none⟩ = some (.int .i64 a1_6) := (blk_cell BK529.out 6).trans rfl
              have hcz82_7 : wc.cell? ⟨gb529, 7, none⟩ = some (.int .i64 a1_7) := (blk_cell BK529.out 7).trans rfl
              have hcz82_8 : wc.cell? ⟨gb529, 8, none⟩ = some (.int .i64 a1_8) := (blk_cell BK529.out 8).trans rfl
              have hcz82_9 : wc.cell? ⟨gb529, 9, none⟩ = some (.int .i64 a1_9) := (blk_cell BK529.out 9).trans rfl
              have hcz82_10 : wc.cell? ⟨gb529, 10, none⟩ = some (.int .i64 a1_10) := (blk_cell BK529.out 10).trans rfl
              have hcz82_11 : wc.cell? ⟨gb529, 11, none⟩ = some (.int .i64 a1_11) := (blk_cell BK529.out 11).trans rfl
              have hcz82_12 : wc.cell? ⟨gb529, 12, none⟩ = some (.slice A1_12 l1_12.length c1_12) := (blk_cell BK529.out 12).trans rfl
              have hfz82_0 := blk_frozen BK529.out 0
              have hfz82_1 := blk_frozen BK529.out 1
              have hfz82_2 := blk_frozen BK529.out 2
              have hfz82_3 := blk_frozen BK529.out 3
              have hfz82_4 := blk_frozen BK529.out 4
              have hfz82_5 := blk_frozen BK529.out 5
              have hfz82_6 := blk_frozen BK529.out 6
              have hfz82_7 := blk_frozen BK529.out 7
              have hfz82_8 := blk_frozen BK529.out 8
              have hfz82_9 := blk_frozen BK529.out 9
              have hfz82_10 := blk_frozen BK529.out 10
              have hfz82_11 := blk_frozen BK529.out 11
              have hfz82_12 := blk_frozen BK529.out 12
              go_wp2_with (first | ((with_reducible refine gate_callee (f := 41) rfl ?_); refine goesL_ (some 59) rfl rfl Try.func41 (by kernel_rfl) rfl #[.int .i64 a1_1, .int .i64 1125899906842624] rfl (by (try simp only [List.map_toArray, List.map_cons, List.map_nil]); first | done | rfl | (simp only [List.length_drop, List.length_take]; rfl)) ?_; (with_reducible refine (bourneref1_within.calls a1_1 1125899906842624 false _ A68.out).mono ?_); rintro e w83 ⟨rfl, hb⟩; refine ⟨_, rfl, ?_⟩; have n0_ := Aside0.mk (blk_below (g := gb528) (o := .cells #[.int .i64 a0_0, .int .i64 a0_1, .int .i64 a0_2, .int .i64 a0_3, .slice A0_4 l0_4.length c0_4, .int .i64 a0_5] 24 (0, 0)) (by (with_reducible repeat (first | refine blk_drewN ?_ _ | refine blk_drew ?_ | refine blk_alloc ?_ _)); exact BK528.out) hb); have n1_ := Aside0.mk (blk_below (g := gb529) (o := .cells #[.int .i64 a1_0, .int .i64 a1_1, .int .i64 a1_2, .int .i64 a1_3, .int .i64 a1_4, .int .i64 a1_5, .int .i64 a1_6, .int .i64 a1_7, .int .i64 a1_8, .int .i64 a1_9, .int .i64 a1_10, .int .i64 a1_11, .slice A1_12 l1_12.length c1_12] 28 (0, 0)) (by (with_reducible repeat (first | refine blk_drewN ?_ _ | refine blk_drew ?_ | refine blk_alloc ?_ _)); exact BK529.out) hb); have n2_ := Aside0.mk (blk_below (g := gb530) (o := .cells #[.int .i64 0, .bool false, .slice none 0 0] 31 (0, 0)) (by (with_reducible repeat (first | refine blk_drewN ?_ _ | refine blk_drew ?_ | refine blk_alloc ?_ _)); exact BK530.out) hb); have n3_ := Aside0.mk (below_step (by repeat (first | (with_reducible first | exact HB.out | apply below_alloc | apply pw_below_drewN | apply below_drew1 | refine below_set ?_ GE528.out | refine below_set ?_ GE529.out | refine below_set ?_ GE530.out) | exact HB.out)) hb); clear BK528; clear BK529; clear BK530; clear HB; have BK528 := n0_; have BK529 := n1_; have BK530 := n2_; have HB := n3_; clear n0_ n1_ n2_ n3_; (try clear hb); (try clear hb2); (try clear hk); (try clear hi); have hcz84_0 : w83.cell? ⟨gb530, 0, none⟩ = some (.int .i64 0) := (blk_cell BK530.out 0).trans rfl; have hcz84_1 : w83.cell? ⟨gb530, 1, none⟩ = some (.bool false) := (blk_cell BK530.out 1).trans rfl; have hcz84_2 : w83.cell? ⟨gb530, 2, none⟩ = some (.slice none 0 0) := (blk_cell BK530.out 2).trans rfl; have hfz84_0 := blk_frozen BK530.out 0; have hfz84_1 := blk_frozen BK530.out 1; have hfz84_2 := blk_frozen BK530.out 2))
              refine bodyPost_ret (results_ct rfl _ _ gb530 31 #[.int .i64 0, .bool true, .slice none 0 0] (0, 0) _ rfl (by (with_reducible repeat (first | refine blk_drewN ?_ _ | refine blk_drew ?_ | refine blk_alloc ?_ _)); refine blk_put (cs := #[.int .i64 0, .bool true, .slice none 0 0]) ?_ 2 _ rfl; (with_reducible repeat (first | refine blk_drewN ?_ _ | refine blk_drew ?_ | refine blk_alloc ?_ _)); refine blk_put (cs := #[.int .i64 0, .bool false, .slice none 0 0]) ?_ 1 _ rfl; (with_reducible repeat (first | refine blk_drewN ?_ _ | refine blk_drew ?_ | refine blk_alloc ?_ _)); refine blk_put (cs := #[.int .i64 0, .bool false, .slice none 0 0]) ?_ 0 _ rfl; (with_reducible repeat (first | refine blk_drewN ?_ _ | refine blk_drew ?_ | refine blk_alloc ?_ _)); exact BK530.out) Try.underlying31 rfl (by kernel_rfl)) rfl ?_
              exact ⟨_, by first | rfl | (simp [errW_none, errW_some] <;> rfl) | (simp [*, errW_none, errW_some] <;> rfl), by first | exact Kd.R_nil _ _ _ _ _ | exact Kd.N_nil _ _ _ _ _ | exact Kd.V_nil _ _ _ _ _ | exact Kd.Q_nil _ _ _ _ _ | exact Kd.S_nil _ _ _ _ _, by repeat (first | (with_reducible first | exact HB.out | apply below_alloc | apply pw_below_drewN | apply below_drew1 | refine below_set ?_ GE528.out | refine below_set ?_ GE529.out | refine below_set ?_ GE530.out) | exact HB.out)⟩
          · rw [if_neg c67] at H
            have c67b0 : (a0_1 == 1) = false := beq_eq_false_iff_ne.mpr c67
            have c67b1 : (a0_1 != 1) = true := bne_iff_ne.mpr c67
            by_cases c85 : a0_1 = 2
            · rw [if_pos c85] at H
              have c85b0 : (a0_1 == 2) = true := beq_iff_eq.mpr c85
              have c85b1 : (a0_1 != 2) = false := bne_eq_false_iff_eq.mpr c85
              clear c85
              simp only [Option.some.injEq, Prod.mk.injEq] at H
              obtain ⟨rfl, rfl, rfl, rfl⟩ := H
              have hnb86 := NB528_529.out
              have hnc86 := NB529_528.out
              have hnb87 := NB528_530.out
              have hnc87 := NB530_528.out
              have hcz88_0 : wc.cell? ⟨gb528, 0, none⟩ = some (.int .i64 a0_0) := (blk_cell BK528.out 0).trans rfl
              have hcz88_1 : wc.cell? ⟨gb528, 1, none⟩ = some (.int .i64 a0_1) := (blk_cell BK528.out 1).trans rfl
              have hcz88_2 : wc.cell? ⟨gb528, 2, none⟩ = some (.int .i64 a0_2) := (blk_cell BK528.out 2).trans rfl
              have hcz88_3 : wc.cell? ⟨gb528, 3, none⟩ = some (.int .i64 a0_3) := (blk_cell BK528.out 3).trans rfl
              have hcz88_4 : wc.cell? ⟨gb528, 4, none⟩ = some (.slice A0_4 l0_4.length c0_4) := (blk_cell BK528.out 4).trans rfl
              have hcz88_5 : wc.cell? ⟨gb528, 5, none⟩ = some (.int .i64 a0_5) := (blk_cell BK528.out 5).trans rfl
              have hfz88_0 := blk_frozen BK528.out 0
              have hfz88_1 := blk_frozen BK528.out 1
              have hfz88_2 := blk_frozen BK528.out 2
              have hfz88_3 := blk_frozen BK528.out 3
              have hfz88_4 := blk_frozen BK528.out 4
              have hfz88_5 := blk_frozen BK528.out 5
              have hnb89 := NB529_530.out
              have hnc89 := NB530_529.out
              have hcz90_0 : wc.cell? ⟨gb529, 0, none⟩ = some (.int .i64 a1_0) := (blk_cell BK529.out 0).trans rfl
              have hcz90_1 : wc.cell? ⟨gb529, 1, none⟩ = some (.int .i64 a1_1) := (blk_cell BK529.out 1).trans rfl
              have hcz90_2 : wc.cell? ⟨gb529, 2, none⟩ = some (.int .i64 a1_2) := (blk_cell BK529.out 2).trans rfl
              have hcz90_3 : wc.cell? ⟨gb529, 3, none⟩ = some (.int .i64 a1_3) := (blk_cell BK529.out 3).trans rfl
              have hcz90_4 : wc.cell? ⟨gb529, 4, none⟩ = some (.int .i64 a1_4) := (blk_cell BK529.out 4).trans rfl
              have hcz90_5 : wc.cell? ⟨gb529, 5, none⟩ = some (.int .i64 a1_5) := (blk_cell BK529.out 5).trans rfl
              have hcz90_6 : wc.cell? ⟨gb529, 6, none⟩ = some (.int .i64 a1_6) := (blk_cell BK529.out 6).trans rfl
              have hcz90_7 : wc.cell? ⟨gb529, 7, none⟩ = some (.int .i64 a1_7) := (blk_cell BK529.out 7).trans rfl
              have hcz90_8 : wc.cell? ⟨gb529, 8, none⟩ = some (.int .i64 a1_8) := (blk_cell BK529.out 8).trans rfl
              have hcz90_9 : wc.cell? ⟨gb529, 9, none⟩ = some (.int .i64 a1_9) := (blk_cell BK529.out 9).trans rfl
              have hcz90_10 : wc.cell? ⟨gb529, 10, none⟩ = some (.int .i64 a1_10) := (blk_cell BK529.out 10).trans rfl
              have hcz90_11 : wc.cell? ⟨gb529, 11, none⟩ = some (.int .i64 a1_11) := (blk_cell BK529.out 11).trans rfl
              have hcz90_12 : wc.cell? ⟨gb529, 12, none⟩ = some (.slice A1_12 l1_12.length c1_12) := (blk_cell BK529.out 12).trans rfl
              have hfz90_0 := blk_frozen BK529.out 0
              have hfz90_1 := blk_frozen BK529.out 1
              have hfz90_2 := blk_frozen BK529.out 2
              have hfz90_3 := blk_frozen BK529.out 3
              have hfz90_4 := blk_frozen BK529.out 4
              have hfz90_5 := blk_frozen BK529.out 5
              have hfz90_6 := blk_frozen BK529.out 6
              have hfz90_7 := blk_frozen BK529.out 7
              have hfz90_8 := blk_frozen BK529.out 8
              have hfz90_9 := blk_frozen BK529.out 9
              have hfz90_10 := blk_frozen BK529.out 10
              have hfz90_11 := blk_frozen BK529.out 11
              have hfz90_12 := blk_frozen BK529.out 12
              have hcz91_0 : wc.cell? ⟨gb530, 0, none⟩ = some (.int .i64 0) := (blk_cell BK530.out 0).trans rfl
              have hcz91_1 : wc.cell? ⟨gb530, 1, none⟩ = some (.bool false) := (blk_cell BK530.out 1).trans rfl
              have hcz91_2 : wc.cell? ⟨gb530, 2, none⟩ = some (.slice none 0 0) := (blk_cell BK530.out 2).trans rfl
              have hfz91_0 := blk_frozen BK530.out 0
              have hfz91_1 := blk_frozen BK530.out 1
              have hfz91_2 := blk_frozen BK530.out 2
              go_wp2
              refine bodyPost_ret (results_ct rfl _ _ gb530 31 #[.int .i64 a1_2, .bool false, .slice none 0 0] (0, 0) _ rfl (by (with_reducible repeat (first | refine blk_drewN ?_ _ | refine blk_drew ?_ | refine blk_alloc ?_ _)); refine blk_put (cs := #[.int .i64 a1_2, .bool false, .slice none 0 0]) ?_ 2 _ rfl; (with_reducible repeat (first | refine blk_drewN ?_ _ | refine blk_drew ?_ | refine blk_alloc ?_ _)); refine blk_put (cs := #[.int .i64 a1_2, .bool false, .slice none 0 0]) ?_ 1 _ rfl; (with_reducible repeat (first | refine blk_drewN ?_ _ | refine blk_drew ?_ | refine blk_alloc ?_ _)); refine blk_put (cs := #[.int .i64 0, .bool false, .slice none 0 0]) ?_ 0 _ rfl; (with_reducible repeat (first | refine blk_drewN ?_ _ | refine blk_drew ?_ | refine blk_alloc ?_ _)); exact BK530.out) Try.underlying31 rfl (by kernel_rfl)) rfl ?_
              exact ⟨_, by first | rfl | (simp [errW_none, errW_some] <;> rfl) | (simp [*, errW_none, errW_some] <;> rfl), by first | exact Kd.R_nil _ _ _ _ _ | exact Kd.N_nil _ _ _ _ _ | exact Kd.V_nil _ _ _ _ _ | exact Kd.Q_nil _ _ _ _ _ | exact Kd.S_nil _ _ _ _ _, by repeat (first | (with_reducible first | exact HB.out | apply below_alloc | apply pw_below_drewN | apply below_drew1 | refine below_set ?_ GE528.out | refine below_set ?_ GE529.out | refine below_set ?_ GE530.out) | exact HB.out)⟩
            · rw [if_neg c85] at H
              have c85b0 : (a0_1 == 2) = false := beq_eq_false_iff_ne.mpr c85
              have c85b1 : (a0_1 != 2) = true := bne_iff_ne.mpr c85
              by_cases c92 : a0_1 = 3
              · rw [if_pos c92] at H
                have c92b0 : (a0_1 == 3) = true := beq_iff_eq.mpr c92
                have c92b1 : (a0_1 != 3) = false := bne_eq_false_iff_eq.mpr c92
                clear c92
                simp only [Option.some.injEq, Prod.mk.injEq] at H
                obtain ⟨rfl, rfl, rfl, rfl⟩ := H
                have hnb93 := NB528_529.out
                have hnc93 := NB529_528.out
                have hnb94 := NB528_530.out
                have hnc94 := NB530_528.out
                have hcz95_0 : wc.cell? ⟨gb528, 0, none⟩ = some (.int .i64 a0_0) := (blk_cell BK528.out 0).trans rfl
                have hcz95_1 : wc.cell? ⟨gb528, 1, none⟩ = some (.int .i64 a0_1) := (blk_cell BK528.out 1).trans rfl
                have hcz95_2 : wc.cell? ⟨gb528, 2, none⟩ = some (.int .i64 a0_2) := (blk_cell BK528.out 2).trans rfl
                have hcz95_3 : wc.cell? ⟨gb528, 3, none⟩ = some (.int .i64 a0_3) := (blk_cell BK528.out 3).trans rfl
                have hcz95_4 : wc.cell? ⟨gb528, 4, none⟩ = some (.slice A0_4 l0_4.length c0_4) := (blk_cell BK528.out 4).trans rfl
                have hcz95_5 : wc.cell? ⟨gb528, 5, none⟩ = some (.int .i64 a0_5) := (blk_cell BK528.out 5).trans rfl
                have hfz95_0 := blk_frozen BK528.out 0
                have hfz95_1 := blk_frozen BK528.out 1
                have hfz95_2 := blk_frozen BK528.out 2
                have hfz95_3 := blk_frozen BK528.out 3
                have hfz95_4 := blk_frozen BK528.out 4
                have hfz95_5 := blk_frozen BK528.out 5
                have hnb96 := NB529_530.out
                have hnc96 := NB530_529.out
                have hcz97_0 : wc.cell? ⟨gb529, 0, none⟩ = some (.int .i64 a1_0) := (blk_cell BK529.out 0).trans rfl
                have hcz97_1 : wc.cell? ⟨gb529, 1, none⟩ = some (.int .i64 a1_1) := (blk_cell BK529.out 1).trans rfl
                have hcz97_2 : wc.cell? ⟨gb529, 2, none⟩ = some (.int .i64 a1_2) := (blk_cell BK529.out 2).trans rfl
                have hcz97_3 : wc.cell? ⟨gb529, 3, none⟩ = some (.int .i64 a1_3) := (blk_cell BK529.out 3).trans rfl
                have hcz97_4 : wc.cell? ⟨gb529, 4, none⟩ = some (.int .i64 a1_4) := (blk_cell BK529.out 4).trans rfl
                have hcz97_5 : wc.cell? ⟨gb529, 5, none⟩ = some (.int .i64 a1_5) := (blk_cell BK529.out 5).trans rfl
                have hcz97_6 : wc.cell? ⟨gb529, 6, none⟩ = some (.int .i64 a1_6) := (blk_cell BK529.out 6).trans rfl
                have hcz97_7 : wc.cell? ⟨gb529, 7, none⟩ = some (.int .i64 a1_7) := (blk_cell BK529.out 7).trans rfl
                have hcz97_8 : wc.cell? ⟨gb529, 8, none⟩ = some (.int .i64 a1_8) := (blk_cell BK529.out 8).trans rfl
                have hcz97_9 : wc.cell? ⟨gb529, 9, none⟩ = some (.int .i64 a1_9) := (blk_cell BK529.out 9).trans rfl
                have hcz97_10 : wc.cell? ⟨gb529, 10, none⟩ = some (.int .i64 a1_10) := (blk_cell BK529.out 10).trans rfl
                have hcz97_11 : wc.cell? ⟨gb529, 11, none⟩ = some (.int .i64 a1_11) := (blk_cell BK529.out 11).trans rfl
                have hcz97_12 : wc.cell? ⟨gb529, 12, none⟩ = some (.slice A1_12 l1_12.length c1_12) := (blk_cell BK529.out 12).trans rfl
                have hfz97_0 := blk_frozen BK529.out 0
                have hfz97_1 := blk_frozen BK529.out 1
                have hfz97_2 := blk_frozen BK529.out 2
                have hfz97_3 := blk_frozen BK529.out 3
                have hfz97_4 := blk_frozen BK529.out 4
                have hfz97_5 := blk_frozen BK529.out 5
                have hfz97_6 := blk_frozen BK529.out 6
                have hfz97_7 := blk_frozen BK529.out 7
                have hfz97_8 := blk_frozen BK529.out 8
                have hfz97_9 := blk_frozen BK529.out 9
                have hfz97_10 := blk_frozen BK529.out 10
                have hfz97_11 := blk_frozen BK529.out 11
                have hfz97_12 := blk_frozen BK529.out 12
                have hcz98_0 : wc.cell? ⟨gb530, 0, none⟩ = some (.int .i64 0) := (blk_cell BK530.out 0).trans rfl
                have hcz98_1 : wc.cell? ⟨gb530, 1, none⟩ = some (.bool false) := (blk_cell BK530.out 1).trans rfl
                have hcz98_2 : wc.cell? ⟨gb530, 2, none⟩ = some (.slice none 0 0) := (blk_cell BK530.out 2).trans rfl
                have hfz98_0 := blk_frozen BK530.out 0
                have hfz98_1 := blk_frozen BK530.out 1
                have hfz98_2 := blk_frozen BK530.out 2
                go_wp2
                refine bodyPost_ret (results_ct rfl _ _ gb530 31 #[.int .i64 a1_3, .bool false, .slice none 0 0] (0, 0) _ rfl (by (with_reducible repeat (first | refine blk_drewN ?_ _ | refine blk_drew ?_ | refine blk_alloc ?_ _)); refine blk_put (cs := #[.int .i64 a1_3, .bool false, .slice none 0 0]) ?_ 2 _ rfl; (with_reducible repeat (first | refine blk_drewN ?_ _ | refine blk_drew ?_ | refine blk_alloc ?_ _)); refine blk_put (cs := #[.int .i64 a1_3, .bool false, .slice none 0 0]) ?_ 1 _ rfl; (with_reducible repeat (first | refine blk_drewN ?_ _ | refine blk_drew ?_ | refine blk_alloc ?_ _)); refine blk_put (cs := #[.int .i64 0, .bool false, .slice none 0 0]) ?_ 0 _ rfl; (with_reducible repeat (first | refine blk_drewN ?_ _ | refine blk_drew ?_ | refine blk_alloc ?_ _)); exact BK530.out) Try.underlying31 rfl (by kernel_rfl)) rfl ?_
                exact ⟨_, by first | rfl | (simp [errW_none, errW_some] <;> rfl) | (simp [*, errW_none, errW_some] <;> rfl), by first | exact Kd.R_nil _ _ _ _ _ | exact Kd.N_nil _ _ _ _ _ | exact Kd.V_nil _ _ _ _ _ | exact Kd.Q_nil _ _ _ _ _ | exact Kd.S_nil _ _ _ _ _, by repeat (first | (with_reducible first | exact HB.out | apply below_alloc | apply pw_below_drewN | apply below_drew1 | refine below_set ?_ GE528.out | refine below_set ?_ GE529.out | refine below_set ?_ GE530.out) | exact HB.out)⟩
              · rw [if_neg c92] at H
                have c92b0 : (a0_1 == 3) = false := beq_eq_false_iff_ne.mpr c92
                have c92b1 : (a0_1 != 3) = true := bne_iff_ne.mpr c92
                by_cases c99 : a0_1 = 4
                · rw [if_pos c99] at H
                  have c99b0 : (a0_1 == 4) = true := beq_iff_eq.mpr c99
                  have c99b1 : (a0_1 != 4) = false := bne_eq_false_iff_eq.mpr c99
                  clear c99
                  simp only [Option.some.injEq, Prod.mk.injEq] at H
                  obtain ⟨rfl, rfl, rfl, rfl⟩ := H
                  have hnb100 := NB528_529.out
                  have hnc100 := NB529_528.out
                  have hnb101 := NB528_530.out
                  have hnc101 := NB530_528.out
                  have hcz102_0 : wc.cell? ⟨gb528, 0, none⟩ = some (.int .i64 a0_0) := (blk_cell BK528.out 0).trans rfl
                  have hcz102_1 : wc.cell? ⟨gb528, 1, none⟩ = some (.int .i64 a0_1) := (blk_cell BK528.out 1).trans rfl
                  have hcz102_2 : wc.cell? ⟨gb528, 2, none⟩ = some (.int .i64 a0_2) := (blk_cell BK528.out 2).trans rfl
                  have hcz102_3 : wc.cell? ⟨gb528, 3, none⟩ = some (.int .i64 a0_3) := (blk_cell BK528.out 3).trans rfl
                  have hcz102_4 : wc.cell? ⟨gb528, 4, none⟩ = some (.slice A0_4 l0_4.length c0_4) := (blk_cell BK528.out 4).trans rfl
                  have hcz102_5 : wc.cell? ⟨gb528, 5, none⟩ = some (.int .i64 a0_5) := (blk_cell BK528.out 5).trans rfl
                  have hfz102_0 := blk_frozen BK528.out 0
                  have hfz102_1 := blk_frozen BK528.out 1
                  have hfz102_2 := blk_frozen BK528.out 2
                  have hfz102_3 := blk_frozen BK528.out 3
                  have hfz102_4 := blk_frozen BK528.out 4
                  have hfz102_5 := blk_frozen BK528.out 5
                  have hnb103 := NB529_530.out
                  have hnc103 := NB530_529.out
                  have hcz104_0 : wc.cell? ⟨gb529, 0, none⟩ = some (.int .i64 a1_0) := (blk_cell BK529.out 0).trans rfl
                  have hcz104_1 : wc.cell? ⟨gb529, 1, none⟩ = some (.int .i64 a1_1) := (blk_cell BK529.out 1).trans rfl
                  have hcz104_2 : wc.cell? ⟨gb529, 2, none⟩ = some (.int .i64 a1_2) := (blk_cell BK529.out 2).trans rfl
                  have hcz104_3 : wc.cell? ⟨gb529, 3, none⟩ = some (.int .i64 a1_3) := (blk_cell BK529.out 3).trans rfl
                  have hcz104_4 : wc.cell? ⟨gb529, 4, none⟩ = some (.int .i64 a1_4) := (blk_cell BK529.out 4).trans rfl
                  have hcz104_5 : wc.cell? ⟨gb529, 5, none⟩ = some (.int .i64 a1_5) := (blk_cell BK529.out 5).trans rfl
                  have hcz104_6 : wc.cell? ⟨gb529, 6, none⟩ = some (.int .i64 a1_6) := (blk_cell BK529.out 6).trans rfl
                  have hcz104_7 : wc.cell? ⟨gb529, 7, none⟩ = some (.int .i64 a1_7) := (blk_cell BK529.out 7).trans rfl
                  have hcz104_8 : wc.cell? ⟨gb529, 8, none⟩ = some (.int .i64 a1_8) := (blk_cell BK529.out 8).trans rfl
                  have hcz104_9 : wc.cell? ⟨gb529, 9, none⟩ = some (.int .i64 a1_9) := (blk_cell BK529.out 9).trans rfl
                  have hcz104_10 : wc.cell? ⟨gb529, 10, none⟩ = some (.int .i64 a1_10) := (blk_cell BK529.out 10).trans rfl
                  have hcz104_11 : wc.cell? ⟨gb529, 11, none⟩ = some (.int .i64 a1_11) := (blk_cell BK529.out 11).trans rfl
                  have hcz104_12 : wc.cell? ⟨gb529, 12, none⟩ = some (.slice A1_12 l1_12.length c1_12) := (blk_cell BK529.out 12).trans rfl
                  have hfz104_0 := blk_frozen BK529.out 0
                  have hfz104_1 := blk_frozen BK529.out 1
                  have hfz104_2 := blk_frozen BK529.out 2
                  have hfz104_3 := blk_frozen BK529.out 3
                  have hfz104_4 := blk_frozen BK529.out 4
                  have hfz104_5 := blk_frozen BK529.out 5
                  have hfz104_6 := blk_frozen BK529.out 6
                  have hfz104_7 := blk_frozen BK529.out 7
                  have hfz104_8 := blk_frozen BK529.out 8
                  have hfz104_9 := blk_frozen BK529.out 9
                  have hfz104_10 := blk_frozen BK529.out 10
                  have hfz104_11 := blk_frozen BK529.out 11
                  have hfz104_12 := blk_frozen BK529.out 12
                  have hcz105_0 : wc.cell? ⟨gb530, 0, none⟩ = some (.int .i64 0) := (blk_cell BK530.out 0).trans rfl
                  have hcz105_1 : wc.cell? ⟨gb530, 1, none⟩ = some (.bool false) := (blk_cell BK530.out 1).trans rfl
                  have hcz105_2 : wc.cell? ⟨gb530, 2, none⟩ = some (.slice none 0 0) := (blk_cell BK530.out 2).trans rfl
                  have hfz105_0 := blk_frozen BK530.out 0
                  have hfz105_1 := blk_frozen BK530.out 1
                  have hfz105_2 := blk_frozen BK530.out 2
                  go_wp2
                  refine bodyPost_ret (results_ct rfl _ _ gb530 31 #[.int .i64 a1_7, .bool false, .slice none 0 0] (0, 0) _ rfl (by (with_reducible repeat (first | refine blk_drewN ?_ _ | refine blk_drew ?_ | refine blk_alloc ?_ _)); refine blk_put (cs := #[.int .i64 a1_7, .bool false, .slice none 0 0]) ?_ 2 _ rfl; (with_reducible repeat (first | refine blk_drewN ?_ _ | refine blk_drew ?_ | refine blk_alloc ?_ _)); refine blk_put (cs := #[.int .i64 a1_7, .bool false, .slice none 0 0]) ?_ 1 _ rfl; (with_reducible repeat (first | refine blk_drewN ?_ _ | refine blk_drew ?_ | refine blk_alloc ?_ _)); refine blk_put (cs := #[.int .i64 0, .bool false, .slice none 0 0]) ?_ 0 _ rfl; (with_reducible repeat (first | refine blk_drewN ?_ _ | refine blk_drew ?_ | refine blk_alloc ?_ _)); exact BK530.out) Try.underlying31 rfl (by kernel_rfl)) rfl ?_
                  exact ⟨_, by first | rfl | (simp [errW_none, errW_some] <;> rfl) | (simp [*, errW_none, errW_some] <;> rfl), by first | exact Kd.R_nil _ _ _ _ _ | exact Kd.N_nil _ _ _ _ _ | exact Kd.V_nil _ _ _ _ _ | exact Kd.Q_nil _ _ _ _ _ | exact Kd.S_nil _ _ _ _ _, by repeat (first | (with_reducible first | exact HB.out | apply below_alloc | apply pw_below_drewN | apply below_drew1 | refine below_set ?_ GE528.out | refine below_set ?_ GE529.out | refine below_set ?_ GE530.out) | exact HB.out)⟩
                · rw [if_neg c99] at H
                  have c99b0 : (a0_1 == 4) = false := beq_eq_false_iff_ne.mpr c99
                  have c99b1 : (a0_1 != 4) = true := bne_iff_ne.mpr c99
                  by_cases c106 : a0_1 = 5
                  · rw [if_pos c106] at H
                    have c106b0 : (a0_1 == 5) = true := beq_iff_eq.mpr c106
                    have c106b1 : (a0_1 != 5) = false := bne_eq_false_iff_eq.mpr c106
                    clear c106
                    simp only [Option.some.injEq, Prod.mk.injEq] at H
                    obtain ⟨rfl, rfl, rfl, rfl⟩ := H
                    have hnb107 := NB528_529.out
                    have hnc107 := NB529_528.out
                    have hnb108 := NB528_530.out
                    have hnc108 := NB530_528.out
                    have hcz109_0 : wc.cell? ⟨gb528, 0, none⟩ = some (.int .i64 a0_0) := (blk_cell BK528.out 0).trans rfl
                    have hcz109_1 : wc.cell? ⟨gb528, 1, none⟩ = some (.int .i64 a0_1) := (blk_cell BK528.out 1).trans rfl
                    have hcz109_2 : wc.cell? ⟨gb528, 2, none⟩ = some (.int .i64 a0_2) := (blk_cell BK528.out 2).trans rfl
                    have hcz109_3 : wc.cell? ⟨gb528, 3, none⟩ = some (.int .i64 a0_3) := (blk_cell BK528.out 3).trans rfl
                    have hcz109_4 : wc.cell? ⟨gb528, 4, none⟩ = some (.slice A0_4 l0_4.length c0_4) := (blk_cell BK528.out 4).trans rfl
                    have hcz109_5 : wc.cell? ⟨gb528, 5, none⟩ = some (.int .i64 a0_5) := (blk_cell BK528.out 5).trans rfl
                    have hfz109_0 := blk_frozen BK528.out 0
                    have hfz109_1 := blk_frozen BK528.out 1
                    have hfz109_2 := blk_frozen BK528.out 2
                    have hfz109_3 := blk_frozen BK528.out 3
                    have hfz109_4 := blk_frozen BK528.out 4
                    have hfz109_5 := blk_frozen BK528.out 5
                    have hnb110 := NB529_530.out
                    have hnc110 := NB530_529.out
                    have hcz111_0 : wc.cell? ⟨gb529, 0, none⟩ = some (.int .i64 a1_0) := (blk_cell BK529.out 0).trans rfl
                    have hcz111_1 : wc.cell? ⟨gb529, 1, none⟩ = some (.int .i64 a1_1) := (blk_cell BK529.out 1).trans rfl
                    have hcz111_2 : wc.cell? ⟨gb529, 2, none⟩ = some (.int .i64 a1_2) := (blk_cell BK529.out 2).trans rfl
                    have hcz111_3 : wc.cell? ⟨gb529, 3, none⟩ = some (.int .i64 a1_3) := (blk_cell BK529.out 3).trans rfl
                    have hcz111_4 : wc.cell? ⟨gb529, 4, none⟩ = some (.int .i64 a1_4) := (blk_cell BK529.out 4).trans rfl
                    have hcz111_5 : wc.cell? ⟨gb529, 5, none⟩ = some (.int .i64 a1_5) := (blk_cell BK529.out 5).trans rfl
                    have hcz111_6 : wc.cell? ⟨gb529, 6, none⟩ = some (.int .i64 a1_6) := (blk_cell BK529.out 6).trans rfl
                    have hcz111_7 : wc.cell? ⟨gb529, 7, none⟩ = some (.int .i64 a1_7) := (blk_cell BK529.out 7).trans rfl
                    have hcz111_8 : wc.cell? ⟨gb529, 8, none⟩ = some (.int .i64 a1_8) := (blk_cell BK529.out 8).trans rfl
                    have hcz111_9 : wc.cell? ⟨gb529, 9, none⟩ = some (.int .i64 a1_9) := (blk_cell BK529.out 9).trans rfl
                    have hcz111_10 : wc.cell? ⟨gb529, 10, none⟩ = some (.int .i64 a1_10) := (blk_cell BK529.out 10).trans rfl
                    have hcz111_11 : wc.cell? ⟨gb529, 11, none⟩ = some (.int .i64 a1_11) := (blk_cell BK529.out 11).trans rfl
                    have hcz111_12 : wc.cell? ⟨gb529, 12, none⟩ = some (.slice A1_12 l1_12.length c1_12) := (blk_cell BK529.out 12).trans rfl
                    have hfz111_0 := blk_frozen BK529.out 0
                    have hfz111_1 := blk_frozen BK529.out 1
                    have hfz111_2 := blk_frozen BK529.out 2
                    have hfz111_3 := blk_frozen BK529.out 3
                    have hfz111_4 := blk_frozen BK529.out 4
                    have hfz111_5 := blk_frozen BK529.out 5
                    have hfz111_6 := blk_frozen BK529.out 6
                    have hfz111_7 := blk_frozen BK529.out 7
                    have hfz111_8 := blk_frozen BK529.out 8
                    have hfz111_9 := blk_frozen BK529.out 9
                    have hfz111_10 := blk_frozen BK529.out 10
                    have hfz111_11 := blk_frozen BK529.out 11
                    have hfz111_12 := blk_frozen BK529.out 12
                    have hcz112_0 : wc.cell? ⟨gb530, 0, none⟩ = some (.int .i64 0) := (blk_cell BK530.out 0).trans rfl
                    have hcz112_1 : wc.cell? ⟨gb530, 1, none⟩ = some (.bool false) := (blk_cell BK530.out 1).trans rfl
                    have hcz112_2 : wc.cell? ⟨gb530, 2, none⟩ = some (.slice none 0 0) := (blk_cell BK530.out 2).trans rfl
                    have hfz112_0 := blk_frozen BK530.out 0
                    have hfz112_1 := blk_frozen BK530.out 1
                    have hfz112_2 := blk_frozen BK530.out 2
                    go_wp2
                    refine bodyPost_ret (results_ct rfl _ _ gb530 31 #[.int .i64 a1_11, .bool false, .slice none 0 0] (0, 0) _ rfl (by (with_reducible repeat (first | refine blk_drewN ?_ _ | refine blk_drew ?_ | refine blk_alloc ?_ _)); refine blk_put (cs := #[.int .i64 a1_11, .bool false, .slice none 0 0]) ?_ 2 _ rfl; (with_reducible repeat (first | refine blk_drewN ?_ _ | refine blk_drew ?_ | refine blk_alloc ?_ _)); refine blk_put (cs := #[.int .i64 a1_11, .bool false, .slice none 0 0]) ?_ 1 _ rfl; (with_reducible repeat (first | refine blk_drewN ?_ _ | refine blk_drew ?_ | refine blk_alloc ?_ _)); refine blk_put (cs := #[.int .i64 0, .bool false, .slice none 0 0]) ?_ 0 _ rfl; (with_reducible repeat (first | refine blk_drewN ?_ _ | refine blk_drew ?_ | refine blk_alloc ?_ _)); exact BK530.out) Try.underlying31 rfl (by kernel_rfl)) rfl ?_
                    exact ⟨_, by first | rfl | (simp [errW_none, errW_some] <;> rfl) | (simp [*, errW_none, errW_some] <;> rfl), by first | exact Kd.R_nil _ _ _ _ _ | exact Kd.N_nil _ _ _ _ _ | exact Kd.V_nil _ _ _ _ _ | exact Kd.Q_nil _ _ _ _ _ | exact Kd.S_nil _ _ _ _ _, by repeat (first | (with_reducible first | exact HB.out | apply below_alloc | apply pw_below_drewN | apply below_drew1 | refine below_set ?_ GE528.out | refine below_set ?_ GE529.out | refine below_set ?_ GE530.out) | exact HB.out)⟩
                  · rw [if_neg c106] at H
                    have c106b0 : (a0_1 == 5) = false := beq_eq_false_iff_ne.mpr c106
                    have c106b1 : (a0_1 != 5) = true := bne_iff_ne.mpr c106
                    by_cases c113 : a0_1 = 6
                    · rw [if_pos c113] at H
                      have c113b0 : (a0_1 == 6) = true := beq_iff_eq.mpr c113
                      have c113b1 : (a0_1 != 6) = false := bne_eq_false_iff_eq.mpr c113
                      clear c113
                      obtain ⟨y533, hy533⟩ : ∃ y_ : List Int, y_ = (([] : List Int)) := ⟨_, rfl⟩
                      replace H : (if y533.length + l1_12.length < 17592186044416 then (some (0, false, (y533 ++ l1_12), 0)) else (none)) = some (r1, r2, r3, r4) := by first | (rw [hy533]; with_reducible exact H) | (have H2_ := (Option.bind_some _ _).symm.trans H; rw [hy533]; with_reducible exact H2_) | (have H2_ := (Option.bind_some _ _).symm.trans H; with_reducible exact H2_) | with_reducible exact H | (rw [hy533]; exact H) | exact H
                      have Ny533 := Aside0.mk hy533
                      clear hy533
                      by_cases c114 : y533.length + l1_12.length < 17592186044416
                      · rw [if_pos c114] at H
                        have LMc114 := Aside0.mk c114
                        clear c114
                        obtain ⟨y536, hy536⟩ : ∃ y_ : List Int, y_ = (y533 ++ l1_12) := ⟨_, rfl⟩
                        replace H : (some (0, false, y536, 0)) = some (r1, r2, r3, r4) := by first | (rw [hy536]; with_reducible exact H) | (have H2_ := (Option.bind_some _ _).symm.trans H; rw [hy536]; with_reducible exact H2_) | (have H2_ := (Option.bind_some _ _).symm.trans H; with_reducible exact H2_) | with_reducible exact H | (rw [hy536]; exact H) | exact H
                        have Ny536 := Aside0.mk hy536
                        clear hy536
                        simp only [Option.some.injEq, Prod.mk.injEq] at H
                        obtain ⟨rfl, rfl, rfl, rfl⟩ := H
                        have hnb115 := NB528_529.out
                        have hnc115 := NB529_528.out
                        have hnb116 := NB528_530.out
                        have hnc116 := NB530_528.out
                        have hcz117_0 : wc.cell? ⟨gb528, 0, none⟩ = some (.int .i64 a0_0) := (blk_cell BK528.out 0).trans rfl
                        have hcz117_1 : wc.cell? ⟨gb528, 1, none⟩ = some (.int .i64 a0_1) := (blk_cell BK528.out 1).trans rfl
                        have hcz117_2 : wc.cell? ⟨gb528, 2, none⟩ = some (.int .i64 a0_2) := (blk_cell BK528.out 2).trans rfl
                        have hcz117_3 : wc.cell? ⟨gb528, 3, none⟩ = some (.int .i64 a0_3) := (blk_cell BK528.out 3).trans rfl
                        have hcz117_4 : wc.cell? ⟨gb528, 4, none⟩ = some (.slice A0_4 l0_4.length c0_4) := (blk_cell BK528.out 4).trans rfl
                        have hcz117_5 : wc.cell? ⟨gb528, 5, none⟩ = some (.int .i64 a0_5) := (blk_cell BK528.out 5).trans rfl
                        have hfz117_0 := blk_frozen BK528.out 0
                        have hfz117_1 := blk_frozen BK528.out 1
                        have hfz117_2 := blk_frozen BK528.out 2
                        have hfz117_3 := blk_frozen BK528.out 3
                        have hfz117_4 := blk_frozen BK528.out 4
                        have hfz117_5 := blk_frozen BK528.out 5
                        go_wp2_with (first | ((with_reducible refine gate_dst (N := 89) rfl ?_); (try (refine gate_guard (by rfl) ?_; dsimp only)); refine Kd.R_lit (Kd.int .i64) _ 3 ?hg (N := 89) ?hd (xs := ([] : List Int)) (inner := []) (ok := fun _ => True) (okp := fun _ => True) ?hr ?hp (fun _ hk => hk) trivial (Below.refl _ _) (Nat.le_refl _) (by simp) ?_; (case hd => rfl); (case hg => rfl); (case hr => first | (go_simp; done) | (go_simp; rfl)); (case hp => exact (Reps.none _ _)); intro v534 w118 ho119 hb hg_ hnew_; clear hg_ hnew_; (first | rw [← Ny533.out] at ho119 | (simp only [Int.reduceToNat] at ho119; rw [← Ny533.out] at ho119)); have n0_ := Aside0.mk (Kd.R_lower ho119 (below_size (by repeat (first | (with_reducible first | exact HB.out | apply below_alloc | apply pw_below_drewN | apply below_drew1 | refine below_set ?_ GE528.out | refine below_set ?_ GE529.out | refine below_set ?_ GE530.out) | exact HB.out)))); have n1_ := Aside0.mk (blk_below (g := gb528) (o := .cells #[.int .i64 a0_0, .int .i64 a0_1, .int .i64 a0_2, .int .i64 a0_3, .slice A0_4 l0_4.length c0_4, .int .i64 a0_5] 24 (0, 0)) (by (with_reducible repeat (first | refine blk_drewN ?_ _ | refine blk_drew ?_ | refine blk_alloc ?_ _)); exact BK528.out) hb); have n2_ := Aside0.mk (blk_below (g := gb529) (o := .cells #[.int .i64 a1_0, .int .i64 a1_1, .int .i64 a1_2, .int .i64 a1_3, .int .i64 a1_4, .int .i64 a1_5, .int .i64 a1_6, .int .i64 a1_7, .int .i64 a1_8, .int .i64 a1_9, .int .i64 a1_10, .int .i64 a1_11, .slice A1_12 l1_12.length c1_12] 28 (0, 0)) (by (with_reducible repeat (first | refine blk_drewN ?_ _ | refine blk_drew ?_ | refine blk_alloc ?_ _)); exact BK529.out) hb); have n3_ := Aside0.mk (blk_below (g := gb530) (o := .cells #[.int .i64 0, .bool false, .slice none 0 0] 31 (0, 0)) (by (with_reducible repeat (first | refine blk_drewN ?_ _ | refine blk_drew ?_ | refine blk_alloc ?_ _)); exact BK530.out) hb); have n4_ := Aside0.mk (below_step (by repeat (first | (with_reducible first | exact HB.out | apply below_alloc | apply pw_below_drewN | apply below_drew1 | refine below_set ?_ GE528.out | refine below_set ?_ GE529.out | refine below_set ?_ GE530.out) | exact HB.out)) hb); clear BK528; clear BK529; clear BK530; clear HB; have HO535 := n0_; have BK528 := n1_; have BK529 := n2_; have BK530 := n3_; have HB := n4_; clear n0_ n1_ n2_ n3_ n4_; clear hb ho119; have hnb120 := NB529_530.out; have hnc120 := NB530_529.out; have hcz121_0 : w118.cell? ⟨gb529, 0, none⟩ = some (.int .i64 a1_0) := (blk_cell BK529.out 0).trans rfl; have hcz121_1 : w118.cell? ⟨gb529, 1, none⟩ = some (.int .i64 a1_1) := (blk_cell BK529.out 1).trans rfl; have hcz121_2 : w118.cell? ⟨gb529, 2, none⟩ = some (.int .i64 a1_2) := (blk_cell BK529.out 2).trans rfl; have hcz121_3 : w118.cell? ⟨gb529, 3, none⟩ = some (.int .i64 a1_3) := (blk_cell BK529.out 3).trans rfl; have hcz121_4 : w118.cell? ⟨gb529, 4, none⟩ = some (.int .i64 a1_4) := (blk_cell BK529.out 4).trans rfl; have hcz121_5 : w118.cell? ⟨gb529, 5, none⟩ = some (.int .i64 a1_5) := (blk_cell BK529.out 5).trans rfl; have hcz121_6 : w118.cell? ⟨gb529, 6, none⟩ = some (.int .i64 a1_6) := (blk_cell BK529.out 6).trans rfl; have hcz121_7 : w118.cell? ⟨gb529, 7, none⟩ = some (.int .i64 a1_7) := (blk_cell BK529.out 7).trans rfl; have hcz121_8 : w118.cell? ⟨gb529, 8, none⟩ = some (.int .i64 a1_8) := (blk_cell BK529.out 8).trans rfl; have hcz121_9 : w118.cell? ⟨gb529, 9, none⟩ = some (.int .i64 a1_9) := (blk_cell BK529.out 9).trans rfl; have hcz121_10 : w118.cell? ⟨gb529, 10, none⟩ = some (.int .i64 a1_10) := (blk_cell BK529.out 10).trans rfl; have hcz121_11 : w118.cell? ⟨gb529, 11, none⟩ = some (.int .i64 a1_11) := (blk_cell BK529.out 11).trans rfl; have hcz121_12 : w118.cell? ⟨gb529, 12, none⟩ = some (.slice A1_12 l1_12.length c1_12) := (blk_cell BK529.out 12).trans rfl; have hfz121_0 := blk_frozen BK529.out 0; have hfz121_1 := blk_frozen BK529.out 1; have hfz121_2 := blk_frozen BK529.out 2; have hfz121_3 := blk_frozen BK529.out 3; have hfz121_4 := blk_frozen BK529.out 4; have hfz121_5 := blk_frozen BK529.out 5; have hfz121_6 := blk_frozen BK529.out 6; have hfz121_7 := blk_frozen BK529.out 7; have hfz121_8 := blk_frozen BK529.out 8; have hfz121_9 := blk_frozen BK529.out 9; have hfz121_10 := blk_frozen BK529.out 10; have hfz121_11 := blk_frozen BK529.out 11; have hfz121_12 := blk_frozen BK529.out 12) | ((with_reducible refine gate_builtin (b := .append) (xs := #[.tmp 89, .tmp 91]) rfl ?_); (try (refine gate_guard (by rfl) ?_; dsimp only)); at_builtin; refine Kd.R_append_rows (Kd.int .i64) (w0 := w) w.heap.size rfl (.tmp 89) (.tmp 91) 22 3 (.int .i64 0) 8 rfl Try.underlying22 info3 rfl (by decide) (by omega) v534 y533 l1_12 _ _ _ (fun _ => True) (fun _ => False) rfl rfl ?aO ?aR (fun _ _ h => h) (fun _ h => h.elim) ?aF ?aB ?aS ?aL ?_; (case aR => repeat (first | exact (Kd.C_below HR1_12.out HB.out) | (with_reducible refine Kd.C_alloc ?_ _) | (with_reducible refine Kd.C_drewN ?_ _) | (with_reducible refine Kd.C_drew ?_))); (case aB => exact (by repeat (first | (with_reducible first | exact HB.out | apply below_alloc | apply pw_below_drewN | apply below_drew1 | refine below_set ?_ GE528.out | refine below_set ?_ GE529.out | refine below_set ?_ GE530.out) | exact HB.out))); (case aF => exact (fun _ _ => trivial)); (case aO => exact (by (with_reducible repeat (first | apply Kd.R_alloc | apply Kd.R_drewN | apply Kd.R_drew)); exact HO535.out)); (case aS => exact (below_size (by repeat (first | (with_reducible first | exact HB.out | apply below_alloc | apply pw_below_drewN | apply below_drew1 | refine below_set ?_ GE528.out | refine below_set ?_ GE529.out | refine below_set ?_ GE530.out) | exact HB.out)))); (case aL => have := LMc114.out; omega); intro v537 w122 ho hb hg hat; rw [← Ny536.out] at ho; have n0_ := Aside0.mk (blk_grown (g := gb528) (o := .cells #[.int .i64 a0_0, .int .i64 a0_1, .int .i64 a0_2, .int .i64 a0_3, .slice A0_4 l0_4.length c0_4, .int .i64 a0_5] 24 (0, 0)) (by (with_reducible repeat (first | refine blk_drewN ?_ _ | refine blk_drew ?_ | refine blk_alloc ?_ _)); exact BK528.out) hg (Kd.R_ne HO535.out BK528.out (by decide))); have n1_ := Aside0.mk (blk_grown (g := gb529) (o := .cells #[.int .i64 a1_0, .int .i64 a1_1, .int .i64 a1_2, .int .i64 a1_3, .int .i64 a1_4, .int .i64 a1_5, .int .i64 a1_6, .int .i64 a1_7, .int .i64 a1_8, .int .i64 a1_9, .int .i64 a1_10, .int .i64 a1_11, .slice A1_12 l1_12.length c1_12] 28 (0, 0)) (by (with_reducible repeat (first | refine blk_drewN ?_ _ | refine blk_drew ?_ | refine blk_alloc ?_ _)); exact BK529.out) hg (Kd.R_ne HO535.out BK529.out (by decide))); have n2_ := Aside0.mk (blk_grown (g := gb530) (o := .cells #[.int .i64 0, .bool false, .slice none 0 0] 31 (0, 0)) (by (with_reducible repeat (first | refine blk_drewN ?_ _ | refine blk_drew ?_ | refine blk_alloc ?_ _)); exact BK530.out) hg (Kd.R_ne HO535.out BK530.out (by decide))); have n3_ := Aside0.mk (hb); have n4_ := Aside0.mk (ho); clear BK528; clear BK529; clear BK530; clear HB; clear HO535; have BK528 := n0_; have BK529 := n1_; have BK530 := n2_; have HB := n3_; have HO538 := n4_; clear n0_ n1_ n2_ n3_ n4_; clear ho hb hg hat; obtain ⟨Ao123, co123, eo123⟩ := Kd.R_slice HO538.out; subst eo123; have hcz124_0 : w122.cell? ⟨gb530, 0, none⟩ = some (.int .i64 0) := (blk_cell BK530.out 0).trans rfl; have hcz124_1 : w122.cell? ⟨gb530, 1, none⟩ = some (.bool false) := (blk_cell BK530.out 1).trans rfl; have hcz124_2 : w122.cell? ⟨gb530, 2, none⟩ = some (.slice none 0 0) := (blk_cell BK530.out 2).trans rfl; have hfz124_0 := blk_frozen BK530.out 0; have hfz124_1 := blk_frozen BK530.out 1; have hfz124_2 := blk_frozen BK530.out 2))
                        refine bodyPost_ret (results_ct rfl _ _ gb530 31 #[.int .i64 0, .bool false, .slice Ao123 y536.length co123] (0, 0) _ rfl (by (with_reducible repeat (first | refine blk_drewN ?_ _ | refine blk_drew ?_ | refine blk_alloc ?_ _)); refine blk_put (cs := #[.int .i64 0, .bool false, .slice none 0 0]) ?_ 2 _ rfl; (with_reducible repeat (first | refine blk_drewN ?_ _ | refine blk_drew ?_ | refine blk_alloc ?_ _)); refine blk_put (cs := #[.int .i64 0, .bool false, .slice none 0 0]) ?_ 1 _ rfl; (with_reducible repeat (first | refine blk_drewN ?_ _ | refine blk_drew ?_ | refine blk_alloc ?_ _)); refine blk_put (cs := #[.int .i64 0, .bool false, .slice none 0 0]) ?_ 0 _ rfl; (with_reducible repeat (first | refine blk_drewN ?_ _ | refine blk_drew ?_ | refine blk_alloc ?_ _)); exact BK530.out) Try.underlying31 rfl (by kernel_rfl)) rfl ?_
                        exact ⟨_, by first | rfl | (simp [errW_none, errW_some] <;> rfl) | (simp [*, errW_none, errW_some] <;> rfl), by (with_reducible repeat (first | apply Kd.R_alloc | apply Kd.R_drewN | apply Kd.R_drew)); exact Kd.R_mono (Kd.R_far (p := ⟨gb530, 2, none⟩) (Kd.R_far (p := ⟨gb530, 1, none⟩) (Kd.R_far (p := ⟨gb530, 0, none⟩) (Kd.R_types HO538.out BK530.out (by decide)) (fun _ hk => hk.2) (.int .i64 0)) (fun _ hk => hk.2) (.bool false)) (fun _ hk => hk.2) (.slice Ao123 y536.length co123)) (fun _ hk => trivial), by repeat (first | (with_reducible first | exact HB.out | apply below_alloc | apply pw_below_drewN | apply below_drew1 | refine below_set ?_ GE528.out | refine below_set ?_ GE529.out | refine below_set ?_ GE530.out) | exact HB.out)⟩
                      · rw [if_neg c114] at H
                        exact absurd H (by simp)
                    · rw [if_neg c113] at H
                      have c113b0 : (a0_1 == 6) = false := beq_eq_false_iff_ne.mpr c113
                      have c113b1 : (a0_1 != 6) = true := bne_iff_ne.mpr c113
                      replace H := Option.bind_eq_some_iff.mp H
                      obtain ⟨t539, A1250, H⟩ := H
                      replace H : (some (t539, false, ([] : List Int), 0)) = some (r1, r2, r3, r4) := H
                      have A125 := Aside0.mk A1250
                      clear A1250
                      simp only [Option.some.injEq, Prod.mk.injEq] at H
                      obtain ⟨rfl, rfl, rfl, rfl⟩ := H
                      have hnb126 := NB528_529.out
                      have hnc126 := NB529_528.out
                      have hnb127 := NB528_530.out
                      have hnc127 := NB530_528.out
                      have hcz128_0 : wc.cell? ⟨gb528, 0, none⟩ = some (.int .i64 a0_0) := (blk_cell BK528.out 0).trans rfl
                      have hcz128_1 : wc.cell? ⟨gb528, 1, none⟩ = some (.int .i64 a0_1) := (blk_cell BK528.out 1).trans rfl
                      have hcz128_2 : wc.cell? ⟨gb528, 2, none⟩ = some (.int .i64 a0_2) := (blk_cell BK528.out 2).trans rfl
                      have hcz128_3 : wc.cell? ⟨gb528, 3, none⟩ = some (.int .i64 a0_3) := (blk_cell BK528.out 3).trans rfl
                      have hcz128_4 : wc.cell? ⟨gb528, 4, none⟩ = some (.slice A0_4 l0_4.length c0_4) := (blk_cell BK528.out 4).trans rfl
                      have hcz128_5 : wc.cell? ⟨gb528, 5, none⟩ = some (.int .i64 a0_5) := (blk_cell BK528.out 5).trans rfl
                      have hfz128_0 := blk_frozen BK528.out 0
                      have hfz128_1 := blk_frozen BK528.out 1
                      have hfz128_2 := blk_frozen BK528.out 2
                      have hfz128_3 := blk_frozen BK528.out 3
                      have hfz128_4 := blk_frozen BK528.out 4
                      have hfz128_5 := blk_frozen BK528.out 5
                      have hnb129 := NB529_530.out
                      have hnc129 := NB530_529.out
                      have hcz130_0 : wc.cell? ⟨gb529, 0, none⟩ = some (.int .i64 a1_0) := (blk_cell BK529.out 0).trans rfl
                      have hcz130_1 : wc.cell? ⟨gb529, 1, none⟩ = some (.int .i64 a1_1) := (blk_cell BK529.out 1).trans rfl
                      have hcz130_2 : wc.cell? ⟨gb529, 2, none⟩ = some (.int .i64 a1_2) := (blk_cell BK529.out 2).trans rfl
                      have hcz130_3 : wc.cell? ⟨gb529, 3, none⟩ = some (.int .i64 a1_3) := (blk_cell BK529.out 3).trans rfl
                      have hcz130_4 : wc.cell? ⟨gb529, 4, none⟩ = some (.int .i64 a1_4) := (blk_cell BK529.out 4).trans rfl
                      have hcz130_5 : wc.cell? ⟨gb529, 5, none⟩ = some (.int .i64 a1_5) := (blk_cell BK529.out 5).trans rfl
                      have hcz130_6 : wc.cell? ⟨gb529, 6, none⟩ = some (.int .i64 a1_6) := (blk_cell BK529.out 6).trans rfl
                      have hcz130_7 : wc.cell? ⟨gb529, 7, none⟩ = some (.int .i64 a1_7) := (blk_cell BK529.out 7).trans rfl
                      have hcz130_8 : wc.cell? ⟨gb529, 8, none⟩ = some (.int .i64 a1_8) := (blk_cell BK529.out 8).trans rfl
                      have hcz130_9 : wc.cell? ⟨gb529, 9, none⟩ = some (.int .i64 a1_9) := (blk_cell BK529.out 9).trans rfl
                      have hcz130_10 : wc.cell? ⟨gb529, 10, none⟩ = some (.int .i64 a1_10) := (blk_cell BK529.out 10).trans rfl
                      have hcz130_11 : wc.cell? ⟨gb529, 11, none⟩ = some (.int .i64 a1_11) := (blk_cell BK529.out 11).trans rfl
                      have hcz130_12 : wc.cell? ⟨gb529, 12, none⟩ = some (.slice A1_12 l1_12.length c1_12) := (blk_cell BK529.out 12).trans rfl
                      have hfz130_0 := blk_frozen BK529.out 0
                      have hfz130_1 := blk_frozen BK529.out 1
                      have hfz130_2 := blk_frozen BK529.out 2
                      have hfz130_3 := blk_frozen BK529.out 3
                      have hfz130_4 := blk_frozen BK529.out 4
                      have hfz130_5 := blk_frozen BK529.out 5
                      have hfz130_6 := blk_frozen BK529.out 6
                      have hfz130_7 := blk_frozen BK529.out 7
                      have hfz130_8 := blk_frozen BK529.out 8
                      have hfz130_9 := blk_frozen BK529.out 9
                      have hfz130_10 := blk_frozen BK529.out 10
                      have hfz130_11 := blk_frozen BK529.out 11
                      have hfz130_12 := blk_frozen BK529.out 12
                      go_wp2_with (first | ((with_reducible refine gate_callee (f := 42) rfl ?_); refine goesL_ (some 96) rfl rfl Try.func42 (by kernel_rfl) rfl #[.agg #[.int .i64 a0_0, .int .i64 a0_1, .int .i64 a0_2, .int .i64 a0_3, .slice A0_4 l0_4.length c0_4, .int .i64 a0_5], .agg #[.int .i64 a1_0, .int .i64 a1_1, .int .i64 a1_2, .int .i64 a1_3, .int .i64 a1_4, .int .i64 a1_5, .int .i64 a1_6, .int .i64 a1_7, .int .i64 a1_8, .int .i64 a1_9, .int .i64 a1_10, .int .i64 a1_11, .slice A1_12 l1_12.length c1_12]] rfl (by (try simp only [List.map_toArray, List.map_cons, List.map_nil]); first | done | rfl | (simp only [List.length_drop, List.length_take]; rfl)) ?_; (with_reducible refine (bourneref1_rank.calls kj2 a0_0 a0_1 a0_2 a0_3 _ _ l0_4 a0_5 a1_0 a1_1 a1_2 a1_3 a1_4 a1_5 a1_6 a1_7 a1_8 a1_9 a1_10 a1_11 _ _ l1_12 t539 _ ?side1 ?side2 ?side3 ?side4 A125.out).mono ?_); (case side1 => repeat (first | exact (Kd.C_below HR0_4.out HB.out) | (with_reducible refine Kd.C_alloc ?_ _) | (with_reducible refine Kd.C_drewN ?_ _) | (with_reducible refine Kd.C_drew ?_))); (case side2 => exact HC0_4.out); (case side3 => repeat (first | exact (Kd.C_below HR1_12.out HB.out) | (with_reducible refine Kd.C_alloc ?_ _) | (with_reducible refine Kd.C_drewN ?_ _) | (with_reducible refine Kd.C_drew ?_))); (case side4 => exact HC1_12.out); rintro e w131 ⟨rfl, hb⟩; refine ⟨_, rfl, ?_⟩; have n0_ := Aside0.mk (blk_below (g := gb528) (o := .cells #[.int .i64 a0_0, .int .i64 a0_1, .int .i64 a0_2, .int .i64 a0_3, .slice A0_4 l0_4.length c0_4, .int .i64 a0_5] 24 (0, 0)) (by (with_reducible repeat (first | refine blk_drewN ?_ _ | refine blk_drew ?_ | refine blk_alloc ?_ _)); exact BK528.out) hb); have n1_ := Aside0.mk (blk_below (g := gb529) (o := .cells #[.int .i64 a1_0, .int .i64 a1_1, .int .i64 a1_2, .int .i64 a1_3, .int .i64 a1_4, .int .i64 a1_5, .int .i64 a1_6, .int .i64 a1_7, .int .i64 a1_8, .int .i64 a1_9, .int .i64 a1_10, .int .i64 a1_11, .slice A1_12 l1_12.length c1_12] 28 (0, 0)) (by (with_reducible repeat (first | refine blk_drewN ?_ _ | refine blk_drew ?_ | refine blk_alloc ?_ _)); exact BK529.out) hb); have n2_ := Aside0.mk (blk_below (g := gb530) (o := .cells #[.int .i64 0, .bool false, .slice none 0 0] 31 (0, 0)) (by (with_reducible repeat (first | refine blk_drewN ?_ _ | refine blk_drew ?_ | refine blk_alloc ?_ _)); exact BK530.out) hb); have n3_ := Aside0.mk (below_step (by repeat (first | (with_reducible first | exact HB.out | apply below_alloc | apply pw_below_drewN | apply below_drew1 | refine below_set ?_ GE528.out | refine below_set ?_ GE529.out | refine below_set ?_ GE530.out) | exact HB.out)) hb); clear BK528; clear BK529; clear BK530; clear HB; have BK528 := n0_; have BK529 := n1_; have BK530 := n2_; have HB := n3_; clear n0_ n1_ n2_ n3_; (try clear hb); (try clear hb2); (try clear hk); (try clear hi); have hcz132_0 : w131.cell? ⟨gb530, 0, none⟩ = some (.int .i64 0) := (blk_cell BK530.out 0).trans rfl; have hcz132_1 : w131.cell? ⟨gb530, 1, none⟩ = some (.bool false) := (blk_cell BK530.out 1).trans rfl; have hcz132_2 : w131.cell? ⟨gb530, 2, none⟩ = some (.slice none 0 0) := (blk_cell BK530.out 2).trans rfl; have hfz132_0 := blk_frozen BK530.out 0; have hfz132_1 := blk_frozen BK530.out 1; have hfz132_2 := blk_frozen BK530.out 2))
                      refine bodyPost_ret (results_ct rfl _ _ gb530 31 #[.int .i64 t539, .bool false, .slice none 0 0] (0, 0) _ rfl (by (with_reducible repeat (first | refine blk_drewN ?_ _ | refine blk_drew ?_ | refine blk_alloc ?_ _)); refine blk_put (cs := #[.int .i64 t539, .bool false, .slice none 0 0]) ?_ 2 _ rfl; (with_reducible repeat (first | refine blk_drewN ?_ _ | refine blk_drew ?_ | refine blk_alloc ?_ _)); refine blk_put (cs := #[.int .i64 t539, .bool false, .slice none 0 0]) ?_ 1 _ rfl; (with_reducible repeat (first | refine blk_drewN ?_ _ | refine blk_drew ?_ | refine blk_alloc ?_ _)); refine blk_put (cs := #[.int .i64 0, .bool false, .slice none 0 0]) ?_ 0 _ rfl; (with_reducible repeat (first | refine blk_drewN ?_ _ | refine blk_drew ?_ | refine blk_alloc ?_ _)); exact BK530.out) Try.underlying31 rfl (by kernel_rfl)) rfl ?_
                      exact ⟨_, by first | rfl | (simp [errW_none, errW_some] <;> rfl) | (simp [*, errW_none, errW_some] <;> rfl), by first | exact Kd.R_nil _ _ _ _ _ | exact Kd.N_nil _ _ _ _ _ | exact Kd.V_nil _ _ _ _ _ | exact Kd.Q_nil _ _ _ _ _ | exact Kd.S_nil _ _ _ _ _, by repeat (first | (with_reducible first | exact HB.out | apply below_alloc | apply pw_below_drewN | apply below_drew1 | refine below_set ?_ GE528.out | refine below_set ?_ GE529.out | refine below_set ?_ GE530.out) | exact HB.out)⟩

end Go.Proofs.Ytggaefklcpbfnaa.Pa

namespace Go.Proofs.Ytggaefklcpbfnaa.Pa
open Go.RowKit Go.Proofs.YtggaefklcpbfnaaW.PrintWords Go.Proofs.YtggaefklcpbfnaaW.PrintLast Go.Proofs.YtggaefklcpbfnaaW.PrintMore
attribute [local go_sem] max2_int min2_int max_two min_two max_three min_three max_four min_four   -- for this text's walks alone
set_option linter.unusedVariables false
set_option linter.unusedSimpArgs false

def low_Value.f (a0_0 : Int) (a0_1 : Int) (a0_2 : Int) (a0_3 : Int) (l0_4 : List Int) (a0_5 : Int) (a1_0 : Int) (a1_1 : Int) (a1_2 : Int) (a1_3 : Int) (a1_4 : Int) (a1_5 : Int) (a1_6 : Int) (a1_7 : Int) (a1_8 : Int) (a1_9 : Int) (a1_10 : Int) (a1_11 : Int) (l1_12 : List Int) : Option (Int × Bool × List Int × Int) := some ((My.valRes ⟨a0_0, a0_1, a0_2, a0_3, a0_5⟩ l0_4 ⟨a1_0, a1_1, a1_2, a1_3, ⟨a1_4, a1_5, a1_6, a1_7⟩, ⟨a1_8, a1_9, a1_10, a1_11⟩, l1_12⟩).1.1, (My.valRes ⟨a0_0, a0_1, a0_2, a0_3, a0_5⟩ l0_4 ⟨a1_0, a1_1, a1_2, a1_3, ⟨a1_4, a1_5, a1_6, a1_7⟩, ⟨a1_8, a1_9, a1_10, a1_11⟩, l1_12⟩).1.2.1, (My.valRes ⟨a0_0, a0_1, a0_2, a0_3, a0_5⟩ l0_4 ⟨a1_0, a1_1, a1_2, a1_3, ⟨a1_4, a1_5, a1_6, a1_7⟩, ⟨a1_8, a1_9, a1_10, a1_11⟩, l1_12⟩).1.2.2, (My.valRes ⟨a0_0, a0_1, a0_2, a0_3, a0_5⟩ l0_4 ⟨a1_0, a1_1, a1_2, a1_3, ⟨a1_4, a1_5, a1_6, a1_7⟩, ⟨a1_8, a1_9, a1_10, a1_11⟩, l1_12⟩).2)
theorem low_Value.calls (a0_0 : Int) (a0_1 : Int) (a0_2 : Int) (a0_3 : Int) (A0_4 : Option Addr) (c0_4 : Nat) (l0_4 : List Int) (a0_5 : Int) (a1_0 : Int) (a1_1 : Int) (a1_2 : Int) (a1_3 : Int) (a1_4 : Int) (a1_5 : Int) (a1_6 : Int) (a1_7 : Int) (a1_8 : Int) (a1_9 : Int) (a1_10 : Int) (a1_11 : Int) (A1_12 : Option Addr) (c1_12 : Nat) (l1_12 : List Int) (r1 : Int) (r2 : Bool) (r3 : List Int) (r4 : Int) (w : World) (hr0_4 : Kd.C (Kd.int .i64) w A0_4 l0_4.length l0_4) (hc0_4 : l0_4.length ≤ c0_4) (hr1_12 : Kd.C (Kd.int .i64) w A1_12 l1_12.length l1_12) (hc1_12 : l1_12.length ≤ c1_12) (h : low_Value.f a0_0 a0_1 a0_2 a0_3 l0_4 a0_5 a1_0 a1_1 a1_2 a1_3 a1_4 a1_5 a1_6 a1_7 a1_8 a1_9 a1_10 a1_11 l1_12 = some (r1, r2, r3, r4)) :
    Calls Try.prog 17 #[.agg #[.int .i64 a0_0, .int .i64 a0_1, .int .i64 a0_2, .int .i64 a0_3, .slice A0_4 l0_4.length c0_4, .int .i64 a0_5], .agg #[.int .i64 a1_0, .int .i64 a1_1, .int .i64 a1_2, .int .i64 a1_3, .int .i64 a1_4, .int .i64 a1_5, .int .i64 a1_6, .int .i64 a1_7, .int .i64 a1_8, .int .i64 a1_9, .int .i64 a1_10, .int .i64 a1_11, .slice A1_12 l1_12.length c1_12]] w fun e w' => ∃ v2_ : Value, e = .returned (.tuple #[.agg #[.int .i64 r1, .bool r2, v2_], .int .i64 r4]) ∧ Kd.R (Kd.int .i64) 3 w' w.heap.size (fun _ => True) v2_ r3 ∧ Below w.heap.size w w' := by
  unfold low_Value.f at h
  simp only [Option.some.injEq, Prod.mk.injEq] at h
  obtain ⟨rfl, rfl, rfl, rfl⟩ := h
  refine (My.value_any ⟨a0_0, a0_1, a0_2, a0_3, a0_5⟩ l0_4 ⟨a1_0, a1_1, a1_2, a1_3, ⟨a1_4, a1_5, a1_6, a1_7⟩, ⟨a1_8, a1_9, a1_10, a1_11⟩, l1_12⟩ A0_4 c0_4 A1_12 c1_12 w hr0_4 hc0_4 hr1_12 hc1_12).mono ?_
  rintro e w' ⟨v, he, ho, hb⟩
  exact ⟨v, he, Kd.R_of_own ho (fun _ _ => trivial), hb⟩
end Go.Proofs.Ytggaefklcpbfnaa.Pa

namespace Go.Proofs.Ytggaefklcpbfnaa.Pa
open Go.RowKit Go.Proofs.YtggaefklcpbfnaaW.PrintWords Go.Proofs.YtggaefklcpbfnaaW.PrintLast Go.Proofs.YtggaefklcpbfnaaW.PrintMore
attribute [local go_sem] max2_int min2_int max_two min_two max_three min_three max_four min_four   -- for this text's walks alone
set_option linter.unusedVariables false
set_option linter.unusedSimpArgs false

def bournelaw2_Lows.j0 : Nat → Bool → Int → Int → Int → Int → Int → Int → Int → Int → Int → Int → Int → Int → List Int → Int → Int → Int → Int → Int → Int → Int → Int → Int → Int → Int → Int → List Int → Int → Bool → List Int → Option (Bool)
  | 0, _, _, _, _, _, _, _, _, _, _, _, _, _, _, _, _, _, _, _, _, _, _, _, _, _, _, _, _, _, _ => none
  | k + 1, x33, x600000, x600001, x600002, x600003, x600004, x600005, x600006, x600007, x600008, x600009, x600010, x600011, x600012, x616000, x616001, x616002, x616003, x616004, x616005, x616006, x616007, x616008, x616009, x616010, x616011, x616012, x623000, x623001, x623002 => if x33 = true then (some false) else ((bournelaw0_SpoilInts.f k x623002).bind fun t632 => ((bournelaw0_SameAcc.f k x616000 x616001 x616002 x616003 x616004 x616005 x616006 x616007 x616008 x616009 x616010 x616011 x616012 x600000 x600001 x600002 x600003 x600004 x600005 x600006 x600007 x600008 x600009 x600010 x600011 x600012).bind fun t633 => (if t633 = true then ((bournelaw2_awake.f).bind fun t634 => (some t634)) else (some false))))
def bournelaw2_Lows.f (k : Nat) (a0_0 : Int) (a0_1 : Int) (a0_2 : Int) (a0_3 : Int) (l0_4 : List Int) (a0_5 : Int) (a1_0 : Int) (a1_1 : Int) (a1_2 : Int) (a1_3 : Int) (a1_4 : Int) (a1_5 : Int) (a1_6 : Int) (a1_7 : Int) (a1_8 : Int) (a1_9 : Int) (a1_10 : Int) (a1_11 : Int) (l1_12 : List Int) : Option (Bool) := (bournelaw0_CopyAcc.f a1_0 a1_1 a1_2 a1_3 a1_4 a1_5 a1_6 a1_7 a1_8 a1_9 a1_10 a1_11 l1_12).bind fun bt600 => ((low_Value.f a0_0 a0_1 a0_2 a0_3 l0_4 a0_5 bt600.1 bt600.2.1 bt600.2.2.1 bt600.2.2.2.1 bt600.2.2.2.2.1 bt600.2.2.2.2.2.1 bt600.2.2.2.2.2.2.1 bt600.2.2.2.2.2.2.2.1 bt600.2.2.2.2.2.2.2.2.1 bt600.2.2.2.2.2.2.2.2.2.1 bt600.2.2.2.2.2.2.2.2.2.2.1 bt600.2.2.2.2.2.2.2.2.2.2.2.1 bt600.2.2.2.2.2.2.2.2.2.2.2.2).bind fun bt616 => ((bourneref1_Value.f k a0_0 a0_1 a0_2 a0_3 l0_4 a0_5 a1_0 a1_1 a1_2 a1_3 a1_4 a1_5 a1_6 a1_7 a1_8 a1_9 a1_10 a1_11 l1_12).bind fun bt623 => ((bournelaw0_SameOut.f k bt616.1 bt616.2.1 bt616.2.2.1 bt623.1 bt623.2.1 bt623.2.2.1).bind fun t630 => (if t630 = true then ((bournelaw0_Num.f bt616.2.2.2).bind fun t631 => (bournelaw2_Lows.j0 k (t631 != bt623.2.2.2) a1_0 a1_1 a1_2 a1_3 a1_4 a1_5 a1_6 a1_7 a1_8 a1_9 a1_10 a1_11 l1_12 bt600.1 bt600.2.1 bt600.2.2.1 bt600.2.2.2.1 bt600.2.2.2.2.1 bt600.2.2.2.2.2.1 bt600.2.2.2.2.2.2.1 bt600.2.2.2.2.2.2.2.1 bt600.2.2.2.2.2.2.2.2.1 bt600.2.2.2.2.2.2.2.2.2.1 bt600.2.2.2.2.2.2.2.2.2.2.1 bt600.2.2.2.2.2.2.2.2.2.2.2.1 bt600.2.2.2.2.2.2.2.2.2.2.2.2 bt616.1 bt616.2.1 bt616.2.2.1)) else (bournelaw2_Lows.j0 k true a1_0 a1_1 a1_2 a1_3 a1_4 a1_5 a1_6 a1_7 a1_8 a1_9 a1_10 a1_11 l1_12 bt600.1 bt600.2.1 bt600.2.2.1 bt600.2.2.2.1 bt600.2.2.2.2.1 bt600.2.2.2.2.2.1 bt600.2.2.2.2.2.2.1 bt600.2.2.2.2.2.2.2.1 bt600.2.2.2.2.2.2.2.2.1 bt600.2.2.2.2.2.2.2.2.2.1 bt600.2.2.2.2.2.2.2.2.2.2.1 bt600.2.2.2.2.2.2.2.2.2.2.2.1 bt600.2.2.2.2.2.2.2.2.2.2.2.2 bt616.1 bt616.2.1 bt616.2.2.1)))))
set_option maxHeartbeats 8000000 in
set_option maxRecDepth 100000 in
theorem bournelaw2_Lows.calls (k : Nat) (a0_0 : Int) (a0_1 : Int) (a0_2 : Int) (a0_3 : Int) (A0_4 : Option Addr) (c0_4 : Nat) (l0_4 : List Int) (a0_5 : Int) (a1_0 : Int) (a1_1 : Int) (a1_2 : Int) (a1_3 : Int) (a1_4 : Int) (a1_5 : Int) (a1_6 : Int) (a1_7 : Int) (a1_8 : Int) (a1_9 : Int) (a1_10 : Int) (a1_11 : Int) (A1_12 : Option Addr) (c1_12 : Nat) (l1_12 : List Int) (r : Bool) (w : World) (hr0_4 : Kd.C (Kd.int .i64) w A0_4 l0_4.length l0_4) (hc0_4 : l0_4.length ≤ c0_4) (hr1_12 : Kd.C (Kd.int .i64) w A1_12 l1_12.length l1_12) (hc1_12 : l1_12.length ≤ c1_12) (h : bournelaw2_Lows.f k a0_0 a0_1 a0_2 a0_3 l0_4 a0_5 a1_0 a1_1 a1_2 a1_3 a1_4 a1_5 a1_6 a1_7 a1_8 a1_9 a1_10 a1_11 l1_12 = some r) :
    Calls Try.prog 3 #[.agg #[.int .i64 a0_0, .int .i64 a0_1, .int .i64 a0_2, .int .i64 a0_3, .slice A0_4 l0_4.length c0_4, .int .i64 a0_5], .agg #[.int .i64 a1_0, .int .i64 a1_1, .int .i64 a1_2, .int .i64 a1_3, .int .i64 a1_4, .int .i64 a1_5, .int .i64 a1_6, .int .i64 a1_7, .int .i64 a1_8, .int .i64 a1_9, .int .i64 a1_10, .int .i64 a1_11, .slice A1_12 l1_12.length c1_12]] w fun e w' => e = .returned (.bool r) ∧ Below w.heap.size w w' := by
  have hu24 := Try.underlying24
  have hu28 := Try.underlying28
  have hu31 := Try.underlying31
  have HR0_4 := Aside0.mk hr0_4
  have HC0_4 := Aside0.mk hc0_4
  clear hr0_4 hc0_4
  have HR1_12 := Aside0.mk hr1_12
  have HC1_12 := Aside0.mk hc1_12
  clear hr1_12 hc1_12
  have HB := Aside0.mk (Below.refl w.heap.size w)
  have H : ((bournelaw0_CopyAcc.f a1_0 a1_1 a1_2 a1_3 a1_4 a1_5 a1_6 a1_7 a1_8 a1_9 a1_10 a1_11 l1_12).bind fun bt600 => ((low_Value.f a0_0 a0_1 a0_2 a0_3 l0_4 a0_5 bt600.1 bt600.2.1 bt600.2.2.1 bt600.2.2.2.1 bt600.2.2.2.2.1 bt600.2.2.2.2.2.1 bt600.2.2.2.2.2.2.1 bt600.2.2.2.2.2.2.2.1 bt600.2.2.2.2.2.2.2.2.1 bt600.2.2.2.2.2.2.2.2.2.1 bt600.2.2.2.2.2.2.2.2.2.2.1 bt600.2.2.2.2.2.2.2.2.2.2.2.1 bt600.2.2.2.2.2.2.2.2.2.2.2.2).bind fun bt616 => ((bourneref1_Value.f k a0_0 a0_1 a0_2 a0_3 l0_4 a0_5 a1_0 a1_1 a1_2 a1_3 a1_4 a1_5 a1_6 a1_7 a1_8 a1_9 a1_10 a1_11 l1_12).bind fun bt623 => ((bournelaw0_SameOut.f k bt616.1 bt616.2.1 bt616.2.2.1 bt623.1 bt623.2.1 bt623.2.2.1).bind fun t630 => (if t630 = true then ((bournelaw0_Num.f bt616.2.2.2).bind fun t631 => (bournelaw2_Lows.j0 k (t631 != bt623.2.2.2) a1_0 a1_1 a1_2 a1_3 a1_4 a1_5 a1_6 a1_7 a1_8 a1_9 a1_10 a1_11 l1_12 bt600.1 bt600.2.1 bt600.2.2.1 bt600.2.2.2.1 bt600.2.2.2.2.1 bt600.2.2.2.2.2.1 bt600.2.2.2.2.2.2.1 bt600.2.2.2.2.2.2.2.1 bt600.2.2.2.2.2.2.2.2.1 bt600.2.2.2.2.2.2.2.2.2.1 bt600.2.2.2.2.2.2.2.2.2.2.1 bt600.2.2.2.2.2.2.2.2.2.2.2.1 bt600.2.2.2.2.2.2.2.2.2.2.2.2 bt616.1 bt616.2.1 bt616.2.2.1)) else (bournelaw2_Lows.j0 k true a1_0 a1_1 a1_2 a1_3 a1_4 a1_5 a1_6 a1_7 a1_8 a1_9 a1_10 a1_11 l1_12 bt600.1 bt600.2.1 bt600.2.2.1 bt600.2.2.2.1 bt600.2.2.2.2.1 bt600.2.2.2.2.2.1 bt600.2.2.2.2.2.2.1 bt600.2.2.2.2.2.2.2.1 bt600.2.2.2.2.2.2.2.2.1 bt600.2.2.2.2.2.2.2.2.2.1 bt600.2.2.2.2.2.2.2.2.2.2.1 bt600.2.2.2.2.2.2.2.2.2.2.2.1 bt600.2.2.2.2.2.2.2.2.2.2.2.2 bt616.1 bt616.2.1 bt616.2.2.1)))))) = some r := h
  clear h
  replace H := Option.bind_eq_some_iff.mp H
  obtain ⟨⟨t600, t601, t602, t603, t604, t605, t606, t607, t608, t609, t610, t611, t612⟩, A30, H⟩ := H
  replace H : ((low_Value.f a0_0 a0_1 a0_2 a0_3 l0_4 a0_5 t600 t601 t602 t603 t604 t605 t606 t607 t608 t609 t610 t611 t612).bind fun bt616 => ((bourneref1_Value.f k a0_0 a0_1 a0_2 a0_3 l0_4 a0_5 a1_0 a1_1 a1_2 a1_3 a1_4 a1_5 a1_6 a1_7 a1_8 a1_9 a1_10 a1_11 l1_12).bind fun bt623 => ((bournelaw0_SameOut.f k bt616.1 bt616.2.1 bt616.2.2.1 bt623.1 bt623.2.1 bt623.2.2.1).bind fun t630 => (if t630 = true then ((bournelaw0_Num.f bt616.2.2.2).bind fun t631 => (bournelaw2_Lows.j0 k (t631 != bt623.2.2.2) a1_0 a1_1 a1_2 a1_3 a1_4 a1_5 a1_6 a1_7 a1_8 a1_9 a1_10 a1_11 l1_12 t600 t601 t602 t603 t604 t605 t606 t607 t608 t609 t610 t611 t612 bt616.1 bt616.2.1 bt616.2.2.1)) else (bournelaw2_Lows.j0 k true a1_0 a1_1 a1_2 a1_3 a1_4 a1_5 a1_6 a1_7 a1_8 a1_9 a1_10 a1_11 l1_12 t600 t601 t602 t603 t604 t605 t606 t607 t608 t609 t610 t611 t612 bt616.1 bt616.2.1 bt616.2.2.1))))) = some r := H
  have A3 := Aside0.mk A30
  clear A30
  replace H := Option.bind_eq_some_iff.mp H
  obtain ⟨⟨t616, t617, t618, t621⟩, A40, H⟩ := H
  replace H : ((bourneref1_Value.f k a0_0 a0_1 a0_2 a0_3 l0_4 a0_5 a1_0 a1_1 a1_2 a1_3 a1_4 a1_5 a1_6 a1_7 a1_8 a1_9 a1_10 a1_11 l1_12).bind fun bt623 => ((bournelaw0_SameOut.f k t616 t617 t618 bt623.1 bt623.2.1 bt623.2.2.1).bind fun t630 => (if t630 = true then ((bournelaw0_Num.f t621).bind fun t631 => (bournelaw2_Lows.j0 k (t631 != bt623.2.2.2) a1_0 a1_1 a1_2 a1_3 a1_4 a1_5 a1_6 a1_7 a1_8 a1_9 a1_10 a1_11 l1_12 t600 t601 t602 t603 t604 t605 t606 t607 t608 t609 t610 t611 t612 t616 t617 t618)) else (bournelaw2_Lows.j0 k true a1_0 a1_1 a1_2 a1_3 a1_4 a1_5 a1_6 a1_7 a1_8 a1_9 a1_10 a1_11 l1_12 t600 t601 t602 t603 t604 t605 t606 t607 t608 t609 t610 t611 t612 t616 t617 t618)))) = some r := H
  have A4 := Aside0.mk A40
  clear A40
  replace H := Option.bind_eq_some_iff.mp H
  obtain ⟨⟨t623, t624, t625, t628⟩, A50, H⟩ := H
  replace H : ((bournelaw0_SameOut.f k t616 t617 t618 t623 t624 t625).bind fun t630 => (if t630 = true then ((bournelaw0_Num.f t621).bind fun t631 => (bournelaw2_Lows.j0 k (t631 != t628) a1_0 a1_1 a1_2 a1_3 a1_4 a1_5 a1_6 a1_7 a1_8 a1_9 a1_10 a1_11 l1_12 t600 t601 t602 t603 t604 t605 t606 t607 t608 t609 t610 t611 t612 t616 t617 t618)) else (bournelaw2_Lows.j0 k true a1_0 a1_1 a1_2 a1_3 a1_4 a1_5 a1_6 a1_7 a1_8 a1_9 a1_10 a1_11 l1_12 t600 t601 t602 t603 t604 t605 t606 t607 t608 t609 t610 t611 t612 t616 t617 t618))) = some r := H
  have A5 := Aside0.mk A50
  clear A50
  have HC6 := Aside0.mk H
  clear H
  go_enter Try.func3, Try.ntmps3
  go_upto_region 4 with (first | ((with_reducible refine gate_dst (N := 2) rfl ?_); refine box_event ?hg (N := 2) ?hd (cs := #[.int .i64 a0_0, .int .i64 a0_1, .int .i64 a0_2, .int .i64 a0_3, .slice A0_4 l0_4.length c0_4, .int .i64 a0_5]) (t := 24) ?hr ?_; (case hd => rfl); (case hg => rfl); (case hr => first | (go_simp; done) | (go_simp; rfl)); intro gb598 hg w7 hbox hb; have n0_ := Aside0.mk (below_step (by repeat (first | (with_reducible first | exact HB.out | apply below_alloc | apply pw_below_drewN | apply below_drew1) | exact HB.out)) hb); have n1_ := Aside0.mk (hbox); have n2_ := Aside0.mk ((by rw [hg]; exact (below_size (by repeat (first | (with_reducible first | exact HB.out | apply below_alloc | apply pw_below_drewN | apply below_drew1) | exact HB.out))) : w.heap.size ≤ gb598)); have n3_ := Aside0.mk ((by rw [hg]; exact (below_size (by repeat (first | (with_reducible first | exact HB.out | apply below_alloc | apply pw_below_drewN | apply below_drew1) | exact HB.out))) : w.heap.size ≤ gb598)); clear HB; have HB := n0_; have BK598 := n1_; have GW598 := n2_; have GE598 := n3_; clear n0_ n1_ n2_ n3_; clear hb hbox hg) | ((with_reducible refine gate_dst (N := 3) rfl ?_); refine box_event ?hg (N := 3) ?hd (cs := #[.int .i64 a1_0, .int .i64 a1_1, .int .i64 a1_2, .int .i64 a1_3, .int .i64 a1_4, .int .i64 a1_5, .int .i64 a1_6, .int .i64 a1_7, .int .i64 a1_8, .int .i64 a1_9, .int .i64 a1_10, .int .i64 a1_11, .slice A1_12 l1_12.length c1_12]) (t := 28) ?hr ?_; (case hd => rfl); (case hg => rfl); (case hr => first | (go_simp; done) | (go_simp; rfl)); intro gb599 hg w8 hbox hb; have n0_ := Aside0.mk (blk_below (g := gb598) (o := .cells #[.int .i64 a0_0, .int .i64 a0_1, .int .i64 a0_2, .int .i64 a0_3, .slice A0_4 l0_4.length c0_4, .int .i64 a0_5] 24 (0, 0)) (by (with_reducible repeat (first | refine blk_drewN ?_ _ | refine blk_drew ?_ | refine blk_alloc ?_ _)); exact BK598.out) hb); have n1_ := Aside0.mk (below_step (by repeat (first | (with_reducible first | exact HB.out | apply below_alloc | apply pw_below_drewN | apply below_drew1 | refine below_set ?_ GE598.out) | exact HB.out)) hb); have n2_ := Aside0.mk (hbox); have n3_ := Aside0.mk ((by rw [hg]; exact (below_size (by repeat (first | (with_reducible first | exact HB.out | apply below_alloc | apply pw_below_drewN | apply below_drew1 | refine below_set ?_ GE598.out) | exact HB.out))) : w.heap.size ≤ gb599)); have n4_ := Aside0.mk ((by rw [hg]; exact (below_size (by repeat (first | (with_reducible first | exact HB.out | apply below_alloc | apply pw_below_drewN | apply below_drew1 | refine below_set ?_ GE598.out) | exact HB.out))) : w.heap.size ≤ gb599)); have n5_ := Aside0.mk ((by rw [hg]; exact Nat.ne_of_lt (blk_lt (g := gb598) (o := .cells #[.int .i64 a0_0, .int .i64 a0_1, .int .i64 a0_2, .int .i64 a0_3, .slice A0_4 l0_4.length c0_4, .int .i64 a0_5] 24 (0, 0)) (by (with_reducible repeat (first | refine blk_drewN ?_ _ | refine blk_drew ?_ | refine blk_alloc ?_ _)); exact BK598.out)) : gb598 ≠ gb599)); have n6_ := Aside0.mk ((by rw [hg]; exact Nat.ne_of_gt (blk_lt (g := gb598) (o := .cells #[.int .i64 a0_0, .int .i64 a0_1, .int .i64 a0_2, .int .i64 a0_3, .slice A0_4 l0_4.length c0_4, .int .i64 a0_5] 24 (0, 0)) (by (with_reducible repeat (first | refine blk_drewN ?_ _ | refine blk_drew ?_ | refine blk_alloc ?_ _)); exact BK598.out)) : gb599 ≠ gb598)); clear BK598; clear HB; have BK598 := n0_; have HB := n1_; have BK599 := n2_; have GW599 := n3_; have GE599 := n4_; have NB598_599 := n5_; have NB599_598 := n6_; clear n0_ n1_ n2_ n3_ n4_ n5_ n6_; clear hb hbox hg; have hnb9 := NB599_598.out; have hnc9 := NB598_599.out; have hcz10_0 : w8.cell? ⟨gb599, 0, none⟩ = some (.int .i64 a1_0) := (blk_cell BK599.out 0).trans rfl; have hcz10_1 : w8.cell? ⟨gb599, 1, none⟩ = some (.int .i64 a1_1) := (blk_cell BK599.out 1).trans rfl; have hcz10_2 : w8.cell? ⟨gb599, 2, none⟩ = some (.int .i64 a1_2) := (blk_cell BK599.out 2).trans rfl; have hcz10_3 : w8.cell? ⟨gb599, 3, none⟩ = some (.int .i64 a1_3) := (blk_cell BK599.out 3).trans rfl; have hcz10_4 : w8.cell? ⟨gb599, 4, none⟩ = some (.int .i64 a1_4) := (blk_cell BK599.out 4).trans rfl; have hcz10_5 : w8.cell? ⟨gb599, 5, none⟩ = some (.int .i64 a1_5) := (blk_cell BK599.out 5).trans rfl; have hcz10_6 : w8.cell? ⟨gb599, 6, none⟩ = some (.int .i64 a1_6) := (blk_cell BK599.out 6).trans rfl; have hcz10_7 : w8.cell? ⟨gb599, 7, none⟩ = some (.int .i64 a1_7) := (blk_cell BK599.out 7).trans rfl; have hcz10_8 : w8.cell? ⟨gb599, 8, none⟩ = some (.int .i64 a1_8) := (blk_cell BK599.out 8).trans rfl; have hcz10_9 : w8.cell? ⟨gb599, 9, none⟩ = some (.int .i64 a1_9) := (blk_cell BK599.out 9).trans rfl; have hcz10_10 : w8.cell? ⟨gb599, 10, none⟩ = some (.int .i64 a1_10) := (blk_cell BK599.out 10).trans rfl; have hcz10_11 : w8.cell? ⟨gb599, 11, none⟩ = some (.int .i64 a1_11) := (blk_cell BK599.out 11).trans rfl; have hcz10_12 : w8.cell? ⟨gb599, 12, none⟩ = some (.slice A1_12 l1_12.length c1_12) := (blk_cell BK599.out 12).trans rfl; have hfz10_0 := blk_frozen BK599.out 0; have hfz10_1 := blk_frozen BK599.out 1; have hfz10_2 := blk_frozen BK599.out 2; have hfz10_3 := blk_frozen BK599.out 3; have hfz10_4 := blk_frozen BK599.out 4; have hfz10_5 := blk_frozen BK599.out 5; have hfz10_6 := blk_frozen BK599.out 6; have hfz10_7 := blk_frozen BK599.out 7; have hfz10_8 := blk_frozen BK599.out 8; have hfz10_9 := blk_frozen BK599.out 9; have hfz10_10 := blk_frozen BK599.out 10; have hfz10_11 := blk_frozen BK599.out 11; have hfz10_12 := blk_frozen BK599.out 12) | ((with_reducible refine gate_callee (f := 16) rfl ?_); refine goesL_ (some 11) rfl rfl Try.func16 (by kernel_rfl) rfl #[.agg #[.int .i64 a1_0, .int .i64 a1_1, .int .i64 a1_2, .int .i64 a1_3, .int .i64 a1_4, .int .i64 a1_5, .int .i64 a1_6, .int .i64 a1_7, .int .i64 a1_8, .int .i64 a1_9, .int .i64 a1_10, .int .i64 a1_11, .slice A1_12 l1_12.length c1_12]] rfl (by (try simp only [List.map_toArray, List.map_cons, List.map_nil]); first | done | rfl | (simp only [List.length_drop, List.length_take]; rfl)) ?_; (with_reducible refine (bournelaw0_CopyAcc.calls a1_0 a1_1 a1_2 a1_3 a1_4 a1_5 a1_6 a1_7 a1_8 a1_9 a1_10 a1_11 _ _ l1_12 t600 t601 t602 t603 t604 t605 t606 t607 t608 t609 t610 t611 t612 _ ?side1 ?side2 A3.out).mono ?_); (case side1 => repeat (first | exact (Kd.C_below HR1_12.out HB.out) | (with_reducible refine Kd.C_alloc ?_ _) | (with_reducible refine Kd.C_drewN ?_ _) | (with_reducible refine Kd.C_drew ?_))); (case side2 => exact HC1_12.out); rintro e w11 ⟨v613, rfl, ho0, hb⟩; refine ⟨_, rfl, ?_⟩; have n0_ := Aside0.mk (Kd.R_lower ho0 (below_size (by repeat (first | (with_reducible first | exact HB.out | apply below_alloc | apply pw_below_drewN | apply below_drew1 | refine below_set ?_ GE598.out | refine below_set ?_ GE599.out) | exact HB.out)))); have n1_ := Aside0.mk (blk_below (g := gb598) (o := .cells #[.int .i64 a0_0, .int .i64 a0_1, .int .i64 a0_2, .int .i64 a0_3, .slice A0_4 l0_4.length c0_4, .int .i64 a0_5] 24 (0, 0)) (by (with_reducible repeat (first | refine blk_drewN ?_ _ | refine blk_drew ?_ | refine blk_alloc ?_ _)); exact BK598.out) hb); have n2_ := Aside0.mk (blk_below (g := gb599) (o := .cells #[.int .i64 a1_0, .int .i64 a1_1, .int .i64 a1_2, .int .i64 a1_3, .int .i64 a1_4, .int .i64 a1_5, .int .i64 a1_6, .int .i64 a1_7, .int .i64 a1_8, .int .i64 a1_9, .int .i64 a1_10, .int .i64 a1_11, .slice A1_12 l1_12.length c1_12] 28 (0, 0)) (by (with_reducible repeat (first | refine blk_drewN ?_ _ | refine blk_drew ?_ | refine blk_alloc ?_ _)); exact BK599.out) hb); have n3_ := Aside0.mk (below_step (by repeat (first | (with_reducible first | exact HB.out | apply below_alloc | apply pw_below_drewN | apply below_drew1 | refine below_set ?_ GE598.out | refine below_set ?_ GE599.out) | exact HB.out)) hb); clear BK598; clear BK599; clear HB; have HO614 := n0_; have BK598 := n1_; have BK599 := n2_; have HB := n3_; clear n0_ n1_ n2_ n3_; (try clear hb); (try clear hb2); (try clear hk); (try clear hi); (try clear ho0)) | ((with_reducible refine gate_dst (N := 5) rfl ?_); refine box_event ?hg (N := 5) ?hd (cs := #[.int .i64 0, .int .i64 0, .int .i64 0, .int .i64 0, .int .i64 0, .int .i64 0, .int .i64 0, .int .i64 0, .int .i64 0, .int .i64 0, .int .i64 0, .int .i64 0, .slice none 0 0]) (t := 28) ?hr ?_; (case hd => rfl); (case hg => rfl); (case hr => first | (go_simp; done) | (go_simp; rfl)); intro gb615 hg w12 hbox hb; have n0_ := Aside0.mk (Kd.R_below (by (with_reducible repeat (first | apply Kd.R_alloc | apply Kd.R_drewN | apply Kd.R_drew)); exact HO614.out) hb); have n1_ := Aside0.mk (blk_below (g := gb598) (o := .cells #[.int .i64 a0_0, .int .i64 a0_1, .int .i64 a0_2, .int .i64 a0_3, .slice A0_4 l0_4.length c0_4, .int .i64 a0_5] 24 (0, 0)) (by (with_reducible repeat (first | refine blk_drewN ?_ _ | refine blk_drew ?_ | refine blk_alloc ?_ _)); exact BK598.out) hb); have n2_ := Aside0.mk (blk_below (g := gb599) (o := .cells #[.int .i64 a1_0, .int .i64 a1_1, .int .i64 a1_2, .int .i64 a1_3, .int .i64 a1_4, .int .i64 a1_5, .int .i64 a1_6, .int .i64 a1_7, .int .i64 a1_8, .int .i64 a1_9, .int .i64 a1_10, .int .i64 a1_11, .slice A1_12 l1_12.length c1_12] 28 (0, 0)) (by (with_reducible repeat (first | refine blk_drewN ?_ _ | refine blk_drew ?_ | refine blk_alloc ?_ _)); exact BK599.out) hb); have n3_ := Aside0.mk (below_step (by repeat (first | (with_reducible first | exact HB.out | apply below_alloc | apply pw_below_drewN | apply below_drew1 | refine below_set ?_ GE598.out | refine below_set ?_ GE599.out) | exact HB.out)) hb); have n4_ := Aside0.mk (hbox); have n5_ := Aside0.mk ((by rw [hg]; exact (below_size (by repeat (first | (with_reducible first | exact HB.out | apply below_alloc | apply pw_below_drewN | apply below_drew1 | refine below_set ?_ GE598.out | refine below_set ?_ GE599.out) | exact HB.out))) : w.heap.size ≤ gb615)); have n6_ := Aside0.mk ((by rw [hg]; exact (below_size (by repeat (first | (with_reducible first | exact HB.out | apply below_alloc | apply pw_below_drewN | apply below_drew1 | refine below_set ?_ GE598.out | refine below_set ?_ GE599.out) | exact HB.out))) : w.heap.size ≤ gb615)); have n7_ := Aside0.mk ((by rw [hg]; exact Nat.ne_of_lt (blk_lt (g := gb598) (o := .cells #[.int .i64 a0_0, .int .i64 a0_1, .int .i64 a0_2, .int .i64 a0_3, .slice A0_4 l0_4.length c0_4, .int .i64 a0_5] 24 (0, 0)) (by (with_reducible repeat (first | refine blk_drewN ?_ _ | refine blk_drew ?_ | refine blk_alloc ?_ _)); exact BK598.out)) : gb598 ≠ gb615)); have n8_ := Aside0.mk ((by rw [hg]; exact Nat.ne_of_gt (blk_lt (g := gb598) (o := .cells #[.int .i64 a0_0, .int .i64 a0_1, .int .i64 a0_2, .int .i64 a0_3, .slice A0_4 l0_4.length c0_4, .int .i64 a0_5] 24 (0, 0)) (by (with_reducible repeat (first | refine blk_drewN ?_ _ | refine blk_drew ?_ | refine blk_alloc ?_ _)); exact BK598.out)) : gb615 ≠ gb598)); have n9_ := Aside0.mk ((by rw [hg]; exact Nat.ne_of_lt (blk_lt (g := gb599) (o := .cells #[.int .i64 a1_0, .int .i64 a1_1, .int .i64 a1_2, .int .i64 a1_3, .int .i64 a1_4, .int .i64 a1_5, .int .i64 a1_6, .int .i64 a1_7, .int .i64 a1_8, .int .i64 a1_9, .int .i64 a1_10, .int .i64 a1_11, .slice A1_12 l1_12.length c1_12] 28 (0, 0)) (by (with_reducible repeat (first | refine blk_drewN ?_ _ | refine blk_drew ?_ | refine blk_alloc ?_ _)); exact BK599.out)) : gb599 ≠ gb615)); have n10_ := Aside0.mk ((by rw [hg]; exact Nat.ne_of_gt (blk_lt (g := gb599) (o := .cells #[.int .i64 a1_0, .int .i64 a1_1, .int .i64 a1_2, .int .i64 a1_3, .int .i64 a1_4, .int .i64 a1_5, .int .i64 a1_6, .int .i64 a1_7, .int .i64 a1_8, .int .i64 a1_9, .int .i64 a1_10, .int .i64 a1_11, .slice A1_12 l1_12.length c1_12] 28 (0, 0)) (by (with_reducible repeat (first | refine blk_drewN ?_ _ | refine blk_drew ?_ | refine blk_alloc ?_ _)); exact BK599.out)) : gb615 ≠ gb599)); clear HO614; clear BK598; clear BK599; clear HB; have HO614 := n0_; have BK598 := n1_; have BK599 := n2_; have HB := n3_; have BK615 := n4_; have GW615 := n5_; have GE615 := n6_; have NB598_615 := n7_; have NB615_598 := n8_; have NB599_615 := n9_; have NB615_599 := n10_; clear n0_ n1_ n2_ n3_ n4_ n5_ n6_ n7_ n8_ n9_ n10_; clear hb hbox hg; have hnb13 := NB615_598.out; have hnc13 := NB598_615.out; have hnb14 := NB615_599.out; have hnc14 := NB599_615.out; have hcz15_0 : w12.cell? ⟨gb615, 0, none⟩ = some (.int .i64 0) := (blk_cell BK615.out 0).trans rfl; have hcz15_1 : w12.cell? ⟨gb615, 1, none⟩ = some (.int .i64 0) := (blk_cell BK615.out 1).trans rfl; have hcz15_2 : w12.cell? ⟨gb615, 2, none⟩ = some (.int .i64 0) := (blk_cell BK615.out 2).trans rfl; have hcz15_3 : w12.cell? ⟨gb615, 3, none⟩ = some (.int .i64 0) := (blk_cell BK615.out 3).trans rfl; have hcz15_4 : w12.cell? ⟨gb615, 4, none⟩ = some (.int .i64 0) := (blk_cell BK615.out 4).trans rfl; have hcz15_5 : w12.cell? ⟨gb615, 5, none⟩ = some (.int .i64 0) := (blk_cell BK615.out 5).trans rfl; have hcz15_6 : w12.cell? ⟨gb615, 6, none⟩ = some (.int .i64 0) := (blk_cell BK615.out 6).trans rfl; have hcz15_7 : w12.cell? ⟨gb615, 7, none⟩ = some (.int .i64 0) := (blk_cell BK615.out 7).trans rfl; have hcz15_8 : w12.cell? ⟨gb615, 8, none⟩ = some (.int .i64 0) := (blk_cell BK615.out 8).trans rfl; have hcz15_9 : w12.cell? ⟨gb615, 9, none⟩ = some (.int .i64 0) := (blk_cell BK615.out 9).trans rfl; have hcz15_10 : w12.cell? ⟨gb615, 10, none⟩ = some (.int .i64 0) := (blk_cell BK615.out 10).trans rfl; have hcz15_11 : w12.cell? ⟨gb615, 11, none⟩ = some (.int .i64 0) := (blk_cell BK615.out 11).trans rfl; have hcz15_12 : w12.cell? ⟨gb615, 12, none⟩ = some (.slice none 0 0) := (blk_cell BK615.out 12).trans rfl; have hfz15_0 := blk_frozen BK615.out 0; have hfz15_1 := blk_frozen BK615.out 1; have hfz15_2 := blk_frozen BK615.out 2; have hfz15_3 := blk_frozen BK615.out 3; have hfz15_4 := blk_frozen BK615.out 4; have hfz15_5 := blk_frozen BK615.out 5; have hfz15_6 := blk_frozen BK615.out 6; have hfz15_7 := blk_frozen BK615.out 7; have hfz15_8 := blk_frozen BK615.out 8; have hfz15_9 := blk_frozen BK615.out 9; have hfz15_10 := blk_frozen BK615.out 10; have hfz15_11 := blk_frozen BK615.out 11; have hfz15_12 := blk_frozen BK615.out 12; obtain ⟨Ao16, co16, eo16⟩ := Kd.R_slice HO614.out; subst eo16; have hcz17_0 : w12.cell? ⟨gb598, 0, none⟩ = some (.int .i64 a0_0) := (blk_cell BK598.out 0).trans rfl; have hcz17_1 : w12.cell? ⟨gb598, 1, none⟩ = some (.int .i64 a0_1) := (blk_cell BK598.out 1).trans rfl; have hcz17_2 : w12.cell? ⟨gb598, 2, none⟩ = some (.int .i64 a0_2) := (blk_cell BK598.out 2).trans rfl; have hcz17_3 : w12.cell? ⟨gb598, 3, none⟩ = some (.int .i64 a0_3) := (blk_cell BK598.out 3).trans rfl; have hcz17_4 : w12.cell? ⟨gb598, 4, none⟩ = some (.slice A0_4 l0_4.length c0_4) := (blk_cell BK598.out 4).trans rfl; have hcz17_5 : w12.cell? ⟨gb598, 5, none⟩ = some (.int .i64 a0_5) := (blk_cell BK598.out 5).trans rfl; have hfz17_0 := blk_frozen BK598.out 0; have hfz17_1 := blk_frozen BK598.out 1; have hfz17_2 := blk_frozen BK598.out 2; have hfz17_3 := blk_frozen BK598.out 3; have hfz17_4 := blk_frozen BK598.out 4; have hfz17_5 := blk_frozen BK598.out 5) | ((with_reducible refine gate_callee (f := 17) rfl ?_); refine goesL_ (some 15) rfl rfl Try.func17 (by kernel_rfl) rfl #[.agg #[.int .i64 a0_0, .int .i64 a0_1, .int .i64 a0_2, .int .i64 a0_3, .slice A0_4 l0_4.length c0_4, .int .i64 a0_5], .agg #[.int .i64 t600, .int .i64 t601, .int .i64 t602, .int .i64 t603, .int .i64 t604, .int .i64 t605, .int .i64 t606, .int .i64 t607, .int .i64 t608, .int .i64 t609, .int .i64 t610, .int .i64 t611, .slice Ao16 t612.length co16]] rfl (by (try simp only [List.map_toArray, List.map_cons, List.map_nil]); first | done | rfl | (simp only [List.length_drop, List.length_take]; rfl)) ?_; (with_reducible refine (low_Value.calls a0_0 a0_1 a0_2 a0_3 _ _ l0_4 a0_5 t600 t601 t602 t603 t604 t605 t606 t607 t608 t609 t610 t611 _ _ t612 t616 t617 t618 t621 _ ?side1 ?side2 ?side3 ?side4 A4.out).mono ?_); (case side1 => exact Kd.C_below HR0_4.out (by repeat (first | (with_reducible first | exact HB.out | apply below_alloc | apply pw_below_drewN | apply below_drew1 | refine below_set ?_ GE598.out | refine below_set ?_ GE599.out | refine below_set ?_ GE615.out) | exact HB.out))); (case side2 => exact HC0_4.out); (case side3 => refine (Kd.R_reads' (e := 3) (base := w.heap.size) (ok := fun k_ => True) (n := t612.length) (c := co16) ?_).2.2; exact (by (with_reducible repeat (first | apply Kd.R_alloc | apply Kd.R_drewN | apply Kd.R_drew)); exact (Kd.R_mono (Kd.R_far (p := ⟨gb615, 12, none⟩) (Kd.R_far (p := ⟨gb615, 11, none⟩) (Kd.R_far (p := ⟨gb615, 10, none⟩) (Kd.R_far (p := ⟨gb615, 9, none⟩) (Kd.R_far (p := ⟨gb615, 8, none⟩) (Kd.R_far (p := ⟨gb615, 7, none⟩) (Kd.R_far (p := ⟨gb615, 6, none⟩) (Kd.R_far (p := ⟨gb615, 5, none⟩) (Kd.R_far (p := ⟨gb615, 4, none⟩) (Kd.R_far (p := ⟨gb615, 3, none⟩) (Kd.R_far (p := ⟨gb615, 2, none⟩) (Kd.R_far (p := ⟨gb615, 1, none⟩) (Kd.R_far (p := ⟨gb615, 0, none⟩) (Kd.R_types HO614.out BK615.out (by decide)) (fun _ hk => hk.2) (.int .i64 t600)) (fun _ hk => hk.2) (.int .i64 t601)) (fun _ hk => hk.2) (.int .i64 t602)) (fun _ hk => hk.2) (.int .i64 t603)) (fun _ hk => hk.2) (.int .i64 t604)) (fun _ hk => hk.2) (.int .i64 t605)) (fun _ hk => hk.2) (.int .i64 t606)) (fun _ hk => hk.2) (.int .i64 t607)) (fun _ hk => hk.2) (.int .i64 t608)) (fun _ hk => hk.2) (.int .i64 t609)) (fun _ hk => hk.2) (.int .i64 t610)) (fun _ hk => hk.2) (.int .i64 t611)) (fun _ hk => hk.2) (.slice Ao16 t612.length co16)) (fun _ h_ => h_.1)))); (case side4 => exact (Kd.R_reads' HO614.out).2.1); rintro e w18 ⟨v619, rfl, ho0, hb⟩; refine ⟨_, rfl, ?_⟩; have n0_ := Aside0.mk (Kd.R_elder' (by (with_reducible repeat (first | apply Kd.R_alloc | apply Kd.R_drewN | apply Kd.R_drew)); exact (Kd.R_mono (Kd.R_far (p := ⟨gb615, 12, none⟩) (Kd.R_far (p := ⟨gb615, 11, none⟩) (Kd.R_far (p := ⟨gb615, 10, none⟩) (Kd.R_far (p := ⟨gb615, 9, none⟩) (Kd.R_far (p := ⟨gb615, 8, none⟩) (Kd.R_far (p := ⟨gb615, 7, none⟩) (Kd.R_far (p := ⟨gb615, 6, none⟩) (Kd.R_far (p := ⟨gb615, 5, none⟩) (Kd.R_far (p := ⟨gb615, 4, none⟩) (Kd.R_far (p := ⟨gb615, 3, none⟩) (Kd.R_far (p := ⟨gb615, 2, none⟩) (Kd.R_far (p := ⟨gb615, 1, none⟩) (Kd.R_far (p := ⟨gb615, 0, none⟩) (Kd.R_types HO614.out BK615.out (by decide)) (fun _ hk => hk.2) (.int .i64 t600)) (fun _ hk => hk.2) (.int .i64 t601)) (fun _ hk => hk.2) (.int .i64 t602)) (fun _ hk => hk.2) (.int .i64 t603)) (fun _ hk => hk.2) (.int .i64 t604)) (fun _ hk => hk.2) (.int .i64 t605)) (fun _ hk => hk.2) (.int .i64 t606)) (fun _ hk => hk.2) (.int .i64 t607)) (fun _ hk => hk.2) (.int .i64 t608)) (fun _ hk => hk.2) (.int .i64 t609)) (fun _ hk => hk.2) (.int .i64 t610)) (fun _ hk => hk.2) (.int .i64 t611)) (fun _ hk => hk.2) (.slice Ao16 t612.length co16)) (fun _ h_ => h_.1))) (Kd.R_base ho0) hb); have n1_ := Aside0.mk (Kd.R_lower (Kd.R_new' ho0 (Kd.R_lt (by (with_reducible repeat (first | apply Kd.R_alloc | apply Kd.R_drewN | apply Kd.R_drew)); exact (Kd.R_mono (Kd.R_far (p := ⟨gb615, 12, none⟩) (Kd.R_far (p := ⟨gb615, 11, none⟩) (Kd.R_far (p := ⟨gb615, 10, none⟩) (Kd.R_far (p := ⟨gb615, 9, none⟩) (Kd.R_far (p := ⟨gb615, 8, none⟩) (Kd.R_far (p := ⟨gb615, 7, none⟩) (Kd.R_far (p := ⟨gb615, 6, none⟩) (Kd.R_far (p := ⟨gb615, 5, none⟩) (Kd.R_far (p := ⟨gb615, 4, none⟩) (Kd.R_far (p := ⟨gb615, 3, none⟩) (Kd.R_far (p := ⟨gb615, 2, none⟩) (Kd.R_far (p := ⟨gb615, 1, none⟩) (Kd.R_far (p := ⟨gb615, 0, none⟩) (Kd.R_types HO614.out BK615.out (by decide)) (fun _ hk => hk.2) (.int .i64 t600)) (fun _ hk => hk.2) (.int .i64 t601)) (fun _ hk => hk.2) (.int .i64 t602)) (fun _ hk => hk.2) (.int .i64 t603)) (fun _ hk => hk.2) (.int .i64 t604)) (fun _ hk => hk.2) (.int .i64 t605)) (fun _ hk => hk.2) (.int .i64 t606)) (fun _ hk => hk.2) (.int .i64 t607)) (fun _ hk => hk.2) (.int .i64 t608)) (fun _ hk => hk.2) (.int .i64 t609)) (fun _ hk => hk.2) (.int .i64 t610)) (fun _ hk => hk.2) (.int .i64 t611)) (fun _ hk => hk.2) (.slice Ao16 t612.length co16)) (fun _ h_ => h_.1))))) (below_size (by repeat (first | (with_reducible first | exact HB.out | apply below_alloc | apply pw_below_drewN | apply below_drew1 | refine below_set ?_ GE598.out | refine below_set ?_ GE599.out | refine below_set ?_ GE615.out) | exact HB.out)))); have n2_ := Aside0.mk (blk_below (g := gb598) (o := .cells #[.int .i64 a0_0, .int .i64 a0_1, .int .i64 a0_2, .int .i64 a0_3, .slice A0_4 l0_4.length c0_4, .int .i64 a0_5] 24 (0, 0)) (by (with_reducible repeat (first | refine blk_drewN ?_ _ | refine blk_drew ?_ | refine blk_alloc ?_ _)); refine blk_far ?_ NB598_615.out _; (with_reducible repeat (first | refine blk_drewN ?_ _ | refine blk_drew ?_ | refine blk_alloc ?_ _)); refine blk_far ?_ NB598_615.out _; (with_reducible repeat (first | refine blk_drewN ?_ _ | refine blk_drew ?_ | refine blk_alloc ?_ _)); refine blk_far ?_ NB598_615.out _; (with_reducible repeat (first | refine blk_drewN ?_ _ | refine blk_drew ?_ | refine blk_alloc ?_ _)); refine blk_far ?_ NB598_615.out _; (with_reducible repeat (first | refine blk_drewN ?_ _ | refine blk_drew ?_ | refine blk_alloc ?_ _)); refine blk_far ?_ NB598_615.out _; (with_reducible repeat (first | refine blk_drewN ?_ _ | refine blk_drew ?_ | refine blk_alloc ?_ _)); refine blk_far ?_ NB598_615.out _; (with_reducible repeat (first | refine blk_drewN ?_ _ | refine blk_drew ?_ | refine blk_alloc ?_ _)); refine blk_far ?_ NB598_615.out _; (with_reducible repeat (first | refine blk_drewN ?_ _ | refine blk_drew ?_ | refine blk_alloc ?_ _)); refine blk_far ?_ NB598_615.out _; (with_reducible repeat (first | refine blk_drewN ?_ _ | refine blk_drew ?_ | refine blk_alloc ?_ _)); refine blk_far ?_ NB598_615.out _; (with_reducible repeat (first | refine blk_drewN ?_ _ | refine blk_drew ?_ | refine blk_alloc ?_ _)); refine blk_far ?_ NB598_615.out _; (with_reducible repeat (first | refine blk_drewN ?_ _ | refine blk_drew ?_ | refine blk_alloc ?_ _)); refine blk_far ?_ NB598_615.out _; (with_reducible repeat (first | refine blk_drewN ?_ _ | refine blk_drew ?_ | refine blk_alloc ?_ _)); refine blk_far ?_ NB598_615.out _; (with_reducible repeat (first | refine blk_drewN ?_ _ | refine blk_drew ?_ | refine blk_alloc ?_ _)); refine blk_far ?_ NB598_615.out _; (with_reducible repeat (first | refine blk_drewN ?_ _ | refine blk_drew ?_ | refine blk_alloc ?_ _)); exact BK598.out) hb); have n3_ := Aside0.mk (blk_below (g := gb599) (o := .cells #[.int .i64 a1_0, .int .i64 a1_1, .int .i64 a1_2, .int .i64 a1_3, .int .i64 a1_4, .int .i64 a1_5, .int .i64 a1_6, .int .i64 a1_7, .int .i64 a1_8, .int .i64 a1_9, .int .i64 a1_10, .int .i64 a1_11, .slice A1_12 l1_12.length c1_12] 28 (0, 0)) (by (with_reducible repeat (first | refine blk_drewN ?_ _ | refine blk_drew ?_ | refine blk_alloc ?_ _)); refine blk_far ?_ NB599_615.out _; (with_reducible repeat (first | refine blk_drewN ?_ _ | refine blk_drew ?_ | refine blk_alloc ?_ _)); refine blk_far ?_ NB599_615.out _; (with_reducible repeat (first | refine blk_drewN ?_ _ | refine blk_drew ?_ | refine blk_alloc ?_ _)); refine blk_far ?_ NB599_615.out _; (with_reducible repeat (first | refine blk_drewN ?_ _ | refine blk_drew ?_ | refine blk_alloc ?_ _)); refine blk_far ?_ NB599_615.out _; (with_reducible repeat (first | refine blk_drewN ?_ _ | refine blk_drew ?_ | refine blk_alloc ?_ _)); refine blk_far ?_ NB599_615.out _; (with_reducible repeat (first | refine blk_drewN ?_ _ | refine blk_drew ?_ | refine blk_alloc ?_ _)); refine blk_far ?_ NB599_615.out _; (with_reducible repeat (first | refine blk_drewN ?_ _ | refine blk_drew ?_ | refine blk_alloc ?_ _)); refine blk_far ?_ NB599_615.out _; (with_reducible repeat (first | refine blk_drewN ?_ _ | refine blk_drew ?_ | refine blk_alloc ?_ _)); refine blk_far ?_ NB599_615.out _; (with_reducible repeat (first | refine blk_drewN ?_ _ | refine blk_drew ?_ | refine blk_alloc ?_ _)); refine blk_far ?_ NB599_615.out _; (with_reducible repeat (first | refine blk_drewN ?_ _ | refine blk_drew ?_ | refine blk_alloc ?_ _)); refine blk_far ?_ NB599_615.out _; (with_reducible repeat (first | refine blk_drewN ?_ _ | refine blk_drew ?_ | refine blk_alloc ?_ _)); refine blk_far ?_ NB599_615.out _; (with_reducible repeat (first | refine blk_drewN ?_ _ | refine blk_drew ?_ | refine blk_alloc ?_ _)); refine blk_far ?_ NB599_615.out _; (with_reducible repeat (first | refine blk_drewN ?_ _ | refine blk_drew ?_ | refine blk_alloc ?_ _)); refine blk_far ?_ NB599_615.out _; (with_reducible repeat (first | refine blk_drewN ?_ _ | refine blk_drew ?_ | refine blk_alloc ?_ _)); exact BK599.out) hb); have n4_ := Aside0.mk (blk_below (g := gb615) (o := .cells #[.int .i64 t600, .int .i64 t601, .int .i64 t602, .int .i64 t603, .int .i64 t604, .int .i64 t605, .int .i64 t606, .int .i64 t607, .int .i64 t608, .int .i64 t609, .int .i64 t610, .int .i64 t611, .slice Ao16 t612.length co16] 28 (0, 0)) (by (with_reducible repeat (first | refine blk_drewN ?_ _ | refine blk_drew ?_ | refine blk_alloc ?_ _)); refine blk_put (cs := #[.int .i64 t600, .int .i64 t601, .int .i64 t602, .int .i64 t603, .int .i64 t604, .int .i64 t605, .int .i64 t606, .int .i64 t607, .int .i64 t608, .int .i64 t609, .int .i64 t610, .int .i64 t611, .slice none 0 0]) ?_ 12 _ rfl; (with_reducible repeat (first | refine blk_drewN ?_ _ | refine blk_drew ?_ | refine blk_alloc ?_ _)); refine blk_put (cs := #[.int .i64 t600, .int .i64 t601, .int .i64 t602, .int .i64 t603, .int .i64 t604, .int .i64 t605, .int .i64 t606, .int .i64 t607, .int .i64 t608, .int .i64 t609, .int .i64 t610, .int .i64 0, .slice none 0 0]) ?_ 11 _ rfl; (with_reducible repeat (first | refine blk_drewN ?_ _ | refine blk_drew ?_ | refine blk_alloc ?_ _)); refine blk_put (cs := #[.int .i64 t600, .int .i64 t601, .int .i64 t602, .int .i64 t603, .int .i64 t604, .int .i64 t605, .int .i64 t606, .int .i64 t607, .int .i64 t608, .int .i64 t609, .int .i64 0, .int .i64 0, .slice none 0 0]) ?_ 10 _ rfl; (with_reducible repeat (first | refine blk_drewN ?_ _ | refine blk_drew ?_ | refine blk_alloc ?_ _)); refine blk_put (cs := #[.int .i64 t600, .int .i64 t601, .int .i64 t602, .int .i64 t603, .int .i64 t604, .int .i64 t605, .int .i64 t606, .int .i64 t607, .int .i64 t608, .int .i64 0, .int .i64 0, .int .i64 0, .slice none 0 0]) ?_ 9 _ rfl; (with_reducible repeat (first | refine blk_drewN ?_ _ | refine blk_drew ?_ | refine blk_alloc ?_ _)); refine blk_put (cs := #[.int .i64 t600, .int .i64 t601, .int .i64 t602, .int .i64 t603, .int .i64 t604, .int .i64 t605, .int .i64 t606, .int .i64 t607, .int .i64 0, .int .i64 0, .int .i64 0, .int .i64 0, .slice none 0 0]) ?_ 8 _ rfl; (with_reducible repeat (first | refine blk_drewN ?_ _ | refine blk_drew ?_ | refine blk_alloc ?_ _)); refine blk_put (cs := #[.int .i64 t600, .int .i64 t601, .int .i64 t602, .int .i64 t603, .int .i64 t604, .int .i64 t605, .int .i64 t606, .int .i64 0, .int .i64 0, .int .i64 0, .int .i64 0, .int .i64 0, .slice none 0 0]) ?_ 7 _ rfl; (with_reducible repeat (first | refine blk_drewN ?_ _ | refine blk_drew ?_ | refine blk_alloc ?_ _)); refine blk_put (cs := #[.int .i64 t600, .int .i64 t601, .int .i64 t602, .int .i64 t603, .int .i64 t604, .int .i64 t605, .int .i64 0, .int .i64 0, .int .i64 0, .int .i64 0, .int .i64 0, .int .i64 0, .slice none 0 0]) ?_ 6 _ rfl; (with_reducible repeat (first | refine blk_drewN ?_ _ | refine blk_drew ?_ | refine blk_alloc ?_ _)); refine blk_put (cs := #[.int .i64 t600, .int .i64 t601, .int .i64 t602, .int .i64 t603, .int .i64 t604, .int .i64 0, .int .i64 0, .int .i64 0, .int .i64 0, .int .i64 0, .int .i64 0, .int .i64 0, .slice none 0 0]) ?_ 5 _ rfl; (with_reducible repeat (first | refine blk_drewN ?_ _ | refine blk_drew ?_ | refine blk_alloc ?_ _)); refine blk_put (cs := #[.int .i64 t600, .int .i64 t601, .int .i64 t602, .int .i64 t603, .int .i64 0, .int .i64 0, .int .i64 0, .int .i64 0, .int .i64 0, .int .i64 0, .int .i64 0, .int .i64 0, .slice none 0 0]) ?_ 4 _ rfl; (with_reducible repeat (first | refine blk_drewN ?_ _ | refine blk_drew ?_ | refine blk_alloc ?_ _)); refine blk_put (cs := #[.int .i64 t600, .int .i64 t601, .int .i64 t602, .int .i64 0, .int .i64 0, .int .i64 0, .int .i64 0, .int .i64 0, .int .i64 0, .int .i64 0, .int .i64 0, .int .i64 0, .slice none 0 0]) ?_ 3 _ rfl; (with_reducible repeat (first | refine blk_drewN ?_ _ | refine blk_drew ?_ | refine blk_alloc ?_ _)); refine blk_put (cs := #[.int .i64 t600, .int .i64 t601, .int .i64 0, .int .i64 0, .int .i64 0, .int .i64 0, .int .i64 0, .int .i64 0, .int .i64 0, .int .i64 0, .int .i64 0, .int .i64 0, .slice none 0 0]) ?_ 2 _ rfl; (with_reducible repeat (first | refine blk_drewN ?_ _ | refine blk_drew ?_ | refine blk_alloc ?_ _)); refine blk_put (cs := #[.int .i64 t600, .int .i64 0, .int .i64 0, .int .i64 0, .int .i64 0, .int .i64 0, .int .i64 0, .int .i64 0, .int .i64 0, .int .i64 0, .int .i64 0, .int .i64 0, .slice none 0 0]) ?_ 1 _ rfl; (with_reducible repeat (first | refine blk_drewN ?_ _ | refine blk_drew ?_ | refine blk_alloc ?_ _)); refine blk_put (cs := #[.int .i64 0, .int .i64 0, .int .i64 0, .int .i64 0, .int .i64 0, .int .i64 0, .int .i64 0, .int .i64 0, .int .i64 0, .int .i64 0, .int .i64 0, .int .i64 0, .slice none 0 0]) ?_ 0 _ rfl; (with_reducible repeat (first | refine blk_drewN ?_ _ | refine blk_drew ?_ | refine blk_alloc ?_ _)); exact BK615.out) hb); have n5_ := Aside0.mk (below_step (by repeat (first | (with_reducible first | exact HB.out | apply below_alloc | apply pw_below_drewN | apply below_drew1 | refine below_set ?_ GE598.out | refine below_set ?_ GE599.out | refine below_set ?_ GE615.out) | exact HB.out)) hb); clear HO614; clear BK598; clear BK599; clear BK615; clear HB; have HO614 := n0_; have HO620 := n1_; have BK598 := n2_; have BK599 := n3_; have BK615 := n4_; have HB := n5_; clear n0_ n1_ n2_ n3_ n4_ n5_; (try clear hb); (try clear hb2); (try clear hk); (try clear hi); (try clear ho0)) | ((with_reducible refine gate_dst (N := 6) rfl ?_); refine box_event ?hg (N := 6) ?hd (cs := #[.int .i64 0, .bool false, .slice none 0 0]) (t := 31) ?hr ?_; (case hd => rfl); (case hg => rfl); (case hr => first | (go_simp; done) | (go_simp; rfl)); intro gb622 hg w19 hbox hb; have n0_ := Aside0.mk (Kd.R_below (by (with_reducible repeat (first | apply Kd.R_alloc | apply Kd.R_drewN | apply Kd.R_drew)); exact HO614.out) hb); have n1_ := Aside0.mk (Kd.R_below (by (with_reducible repeat (first | apply Kd.R_alloc | apply Kd.R_drewN | apply Kd.R_drew)); exact HO620.out) hb); have n2_ := Aside0.mk (blk_below (g := gb598) (o := .cells #[.int .i64 a0_0, .int .i64 a0_1, .int .i64 a0_2, .int .i64 a0_3, .slice A0_4 l0_4.length c0_4, .int .i64 a0_5] 24 (0, 0)) (by (with_reducible repeat (first | refine blk_drewN ?_ _ | refine blk_drew ?_ | refine blk_alloc ?_ _)); exact BK598.out) hb); have n3_ := Aside0.mk (blk_below (g := gb599) (o := .cells #[.int .i64 a1_0, .int .i64 a1_1, .int .i64 a1_2, .int .i64 a1_3, .int .i64 a1_4, .int .i64 a1_5, .int .i64 a1_6, .int .i64 a1_7, .int .i64 a1_8, .int .i64 a1_9, .int .i64 a1_10, .int .i64 a1_11, .slice A1_12 l1_12.length c1_12] 28 (0, 0)) (by (with_reducible repeat (first | refine blk_drewN ?_ _ | refine blk_drew ?_ | refine blk_alloc ?_ _)); exact BK599.out) hb); have n4_ := Aside0.mk (blk_below (g := gb615) (o := .cells #[.int .i64 t600, .int .i64 t601, .int .i64 t602, .int .i64 t603, .int .i64 t604, .int .i64 t605, .int .i64 t606, .int .i64 t607, .int .i64 t608, .int .i64 t609, .int .i64 t610, .int .i64 t611, .slice Ao16 t612.length co16] 28 (0, 0)) (by (with_reducible repeat (first | refine blk_drewN ?_ _ | refine blk_drew ?_ | refine blk_alloc ?_ _)); exact BK615.out) hb); have n5_ := Aside0.mk (below_step (by repeat (first | (with_reducible first | exact HB.out | apply below_alloc | apply pw_below_drewN | apply below_drew1 | refine below_set ?_ GE598.out | refine below_set ?_ GE599.out | refine below_set ?_ GE615.out) | exact HB.out)) hb); have n6_ := Aside0.mk (hbox); have n7_ := Aside0.mk ((by rw [hg]; exact (below_size (by repeat (first | (with_reducible first | exact HB.out | apply below_alloc | apply pw_below_drewN | apply below_drew1 | refine below_set ?_ GE598.out | refine below_set ?_ GE599.out | refine below_set ?_ GE615.out) | exact HB.out))) : w.heap.size ≤ gb622)); have n8_ := Aside0.mk ((by rw [hg]; exact (below_size (by repeat (first | (with_reducible first | exact HB.out | apply below_alloc | apply pw_below_drewN | apply below_drew1 | refine below_set ?_ GE598.out | refine below_set ?_ GE599.out | refine below_set ?_ GE615.out) | exact HB.out))) : w.heap.size ≤ gb622)); have n9_ := Aside0.mk ((by rw [hg]; exact Nat.ne_of_lt (blk_lt (g := gb598) (o := .cells #[.int .i64 a0_0, .int .i64 a0_1, .int .i64 a0_2, .int .i64 a0_3, .slice A0_4 l0_4.length c0_4, .int .i64 a0_5] 24 (0, 0)) (by (with_reducible repeat (first | refine blk_drewN ?_ _ | refine blk_drew ?_ | refine blk_alloc ?_ _)); exact BK598.out)) : gb598 ≠ gb622)); have n10_ := Aside0.mk ((by rw [hg]; exact Nat.ne_of_gt (blk_lt (g := gb598) (o := .cells #[.int .i64 a0_0, .int .i64 a0_1, .int .i64 a0_2, .int .i64 a0_3, .slice A0_4 l0_4.length c0_4, .int .i64 a0_5] 24 (0, 0)) (by (with_reducible repeat (first | refine blk_drewN ?_ _ | refine blk_drew ?_ | refine blk_alloc ?_ _)); exact BK598.out)) : gb622 ≠ gb598)); have n11_ := Aside0.mk ((by rw [hg]; exact Nat.ne_of_lt (blk_lt (g := gb599) (o := .cells #[.int .i64 a1_0, .int .i64 a1_1, .int .i64 a1_2, .int .i64 a1_3, .int .i64 a1_4, .int .i64 a1_5, .int .i64 a1_6, .int .i64 a1_7, .int .i64 a1_8, .int .i64 a1_9, .int .i64 a1_10, .int .i64 a1_11, .slice A1_12 l1_12.length c1_12] 28 (0, 0)) (by (with_reducible repeat (first | refine blk_drewN ?_ _ | refine blk_drew ?_ | refine blk_alloc ?_ _)); exact BK599.out)) : gb599 ≠ gb622)); have n12_ := Aside0.mk ((by rw [hg]; exact Nat.ne_of_gt (blk_lt (g := gb599) (o := .cells #[.int .i64 a1_0, .int .i64 a1_1, .int .i64 a1_2, .int .i64 a1_3, .int .i64 a1_4, .int .i64 a1_5, .int .i64 a1_6, .int .i64 a1_7, .int .i64 a1_8, .int .i64 a1_9, .int .i64 a1_10, .int .i64 a1_11, .slice A1_12 l1_12.length c1_12] 28 (0, 0)) (by (with_reducible repeat (first | refine blk_drewN ?_ _ | refine blk_drew ?_ | refine blk_alloc ?_ _)); exact BK599.out)) : gb622 ≠ gb599)); have n13_ := Aside0.mk ((by rw [hg]; exact Nat.ne_of_lt (blk_lt (g := gb615) (o := .cells #[.int .i64 t600, .int .i64 t601, .int .i64 t602, .int .i64 t603, .int .i64 t604, .int .i64 t605, .int .i64 t606, .int .i64 t607, .int .i64 t608, .int .i64 t609, .int .i64 t610, .int .i64 t611, .slice Ao16 t612.length co16] 28 (0, 0)) (by (with_reducible repeat (first | refine blk_drewN ?_ _ | refine blk_drew ?_ | refine blk_alloc ?_ _)); exact BK615.out)) : gb615 ≠ gb622)); have n14_ := Aside0.mk ((by rw [hg]; exact Nat.ne_of_gt (blk_lt (g := gb615) (o := .cells #[.int .i64 t600, .int .i64 t601, .int .i64 t602, .int .i64 t603, .int .i64 t604, .int .i64 t605, .int .i64 t606, .int .i64 t607, .int .i64 t608, .int .i64 t609, .int .i64 t610, .int .i64 t611, .slice Ao16 t612.length co16] 28 (0, 0)) (by (with_reducible repeat (first | refine blk_drewN ?_ _ | refine blk_drew ?_ | refine blk_alloc ?_ _)); exact BK615.out)) : gb622 ≠ gb615)); clear HO614; clear HO620; clear BK598; clear BK599; clear BK615; clear HB; have HO614 := n0_; have HO620 := n1_; have BK598 := n2_; have BK599 := n3_; have BK615 := n4_; have HB := n5_; have BK622 := n6_; have GW622 := n7_; have GE622 := n8_; have NB598_622 := n9_; have NB622_598 := n10_; have NB599_622 := n11_; have NB622_599 := n12_; have NB615_622 := n13_; have NB622_615 := n14_; clear n0_ n1_ n2_ n3_ n4_ n5_ n6_ n7_ n8_ n9_ n10_ n11_ n12_ n13_ n14_; clear hb hbox hg; have hnb20 := NB622_598.out; have hnc20 := NB598_622.out; have hnb21 := NB622_599.out; have hnc21 := NB599_622.out; have hnb22 := NB622_615.out; have hnc22 := NB615_622.out; have hcz23_0 : w19.cell? ⟨gb622, 0, none⟩ = some (.int .i64 0) := (blk_cell BK622.out 0).trans rfl; have hcz23_1 : w19.cell? ⟨gb622, 1, none⟩ = some (.bool false) := (blk_cell BK622.out 1).trans rfl; have hcz23_2 : w19.cell? ⟨gb622, 2, none⟩ = some (.slice none 0 0) := (blk_cell BK622.out 2).trans rfl; have hfz23_0 := blk_frozen BK622.out 0; have hfz23_1 := blk_frozen BK622.out 1; have hfz23_2 := blk_frozen BK622.out 2; obtain ⟨Ao24, co24, eo24⟩ := Kd.R_slice HO620.out; subst eo24; have hcz25_0 : w19.cell? ⟨gb598, 0, none⟩ = some (.int .i64 a0_0) := (blk_cell BK598.out 0).trans rfl; have hcz25_1 : w19.cell? ⟨gb598, 1, none⟩ = some (.int .i64 a0_1) := (blk_cell BK598.out 1).trans rfl; have hcz25_2 : w19.cell? ⟨gb598, 2, none⟩ = some (.int .i64 a0_2) := (blk_cell BK598.out 2).trans rfl; have hcz25_3 : w19.cell? ⟨gb598, 3, none⟩ = some (.int .i64 a0_3) := (blk_cell BK598.out 3).trans rfl; have hcz25_4 : w19.cell? ⟨gb598, 4, none⟩ = some (.slice A0_4 l0_4.length c0_4) := (blk_cell BK598.out 4).trans rfl; have hcz25_5 : w19.cell? ⟨gb598, 5, none⟩ = some (.int .i64 a0_5) := (blk_cell BK598.out 5).trans rfl; have hfz25_0 := blk_frozen BK598.out 0; have hfz25_1 := blk_frozen BK598.out 1; have hfz25_2 := blk_frozen BK598.out 2; have hfz25_3 := blk_frozen BK598.out 3; have hfz25_4 := blk_frozen BK598.out 4; have hfz25_5 := blk_frozen BK598.out 5; have hcz26_0 : w19.cell? ⟨gb599, 0, none⟩ = some (.int .i64 a1_0) := (blk_cell BK599.out 0).trans rfl; have hcz26_1 : w19.cell? ⟨gb599, 1, none⟩ = some (.int .i64 a1_1) := (blk_cell BK599.out 1).trans rfl; have hcz26_2 : w19.cell? ⟨gb599, 2, none⟩ = some (.int .i64 a1_2) := (blk_cell BK599.out 2).trans rfl; have hcz26_3 : w19.cell? ⟨gb599, 3, none⟩ = some (.int .i64 a1_3) := (blk_cell BK599.out 3).trans rfl; have hcz26_4 : w19.cell? ⟨gb599, 4, none⟩ = some (.int .i64 a1_4) := (blk_cell BK599.out 4).trans rfl; have hcz26_5 : w19.cell? ⟨gb599, 5, none⟩ = some (.int .i64 a1_5) := (blk_cell BK599.out 5).trans rfl; have hcz26_6 : w19.cell? ⟨gb599, 6, none⟩ = some (.int .i64 a1_6) := (blk_cell BK599.out 6).trans rfl; have hcz26_7 : w19.cell? ⟨gb599, 7, none⟩ = some (.int .i64 a1_7) := (blk_cell BK599.out 7).trans rfl; have hcz26_8 : w19.cell? ⟨gb599, 8, none⟩ = some (.int .i64 a1_8) := (blk_cell BK599.out 8).trans rfl; have hcz26_9 : w19.cell? ⟨gb599, 9, none⟩ = some (.int .i64 a1_9) := (blk_cell BK599.out 9).trans rfl; have hcz26_10 : w19.cell? ⟨gb599, 10, none⟩ = some (.int .i64 a1_10) := (blk_cell BK599.out 10).trans rfl; have hcz26_11 : w19.cell? ⟨gb599, 11, none⟩ = some (.int .i64 a1_11) := (blk_cell BK599.out 11).trans rfl; have hcz26_12 : w19.cell? ⟨gb599, 12, none⟩ = some (.slice A1_12 l1_12.length c1_12) := (blk_cell BK599.out 12).trans rfl; have hfz26_0 := blk_frozen BK599.out 0; have hfz26_1 := blk_frozen BK599.out 1; have hfz26_2 := blk_frozen BK599.out 2; have hfz26_3 := blk_frozen BK599.out 3; have hfz26_4 := blk_frozen BK599.out 4; have hfz26_5 := blk_frozen BK599.out 5; have hfz26_6 := blk_frozen BK599.out 6; have hfz26_7 := blk_frozen BK599.out 7; have hfz26_8 := blk_frozen BK599.out 8; have hfz26_9 := blk_frozen BK599.out 9; have hfz26_10 := blk_frozen BK599.out 10; have hfz26_11 := blk_frozen BK599.out 11; have hfz26_12 := blk_frozen BK599.out 12) | ((with_reducible refine gate_callee (f := 18) rfl ?_); refine goesL_ (some 21) rfl rfl Try.func18 (by kernel_rfl) rfl #[.agg #[.int .i64 a0_0, .int .i64 a0_1, .int .i64 a0_2, .int .i64 a0_3, .slice A0_4 l0_4.length c0_4, .int .i64 a0_5], .agg #[.int .i64 a1_0, .int .i64 a1_1, .int .i64 a1_2, .int .i64 a1_3, .int .i64 a1_4, .int .i64 a1_5, .int .i64 a1_6, .int .i64 a1_7, .int .i64 a1_8, .int .i64 a1_9, .int .i64 a1_10, .int .i64 a1_11, .slice A1_12 l1_12.length c1_12]] rfl (by (try simp only [List.map_toArray, List.map_cons, List.map_nil]); first | done | rfl | (simp only [List.length_drop, List.length_take]; rfl)) ?_; (with_reducible refine (bourneref1_Value.calls k a0_0 a0_1 a0_2 a0_3 _ _ l0_4 a0_5 a1_0 a1_1 a1_2 a1_3 a1_4 a1_5 a1_6 a1_7 a1_8 a1_9 a1_10 a1_11 _ _ l1_12 t623 t624 t625 t628 _ ?side1 ?side2 ?side3 ?side4 A5.out).mono ?_); (case side1 => exact Kd.C_below HR0_4.out (by repeat (first | (with_reducible first | exact HB.out | apply below_alloc | apply pw_below_drewN | apply below_drew1 | refine below_set ?_ GE598.out | refine below_set ?_ GE599.out | refine below_set ?_ GE615.out | refine below_set ?_ GE622.out) | exact HB.out))); (case side2 => exact HC0_4.out); (case side3 => exact Kd.C_below HR1_12.out (by repeat (first | (with_reducible first | exact HB.out | apply below_alloc | apply pw_below_drewN | apply below_drew1 | refine below_set ?_ GE598.out | refine below_set ?_ GE599.out | refine below_set ?_ GE615.out | refine below_set ?_ GE622.out) | exact HB.out))); (case side4 => exact HC1_12.out); rintro e w27 ⟨v626, rfl, ho0, hb⟩; refine ⟨_, rfl, ?_⟩; have n0_ := Aside0.mk (Kd.R_elder' (by (with_reducible repeat (first | apply Kd.R_alloc | apply Kd.R_drewN | apply Kd.R_drew)); exact (Kd.R_mono (Kd.R_far (p := ⟨gb622, 2, none⟩) (Kd.R_far (p := ⟨gb622, 1, none⟩) (Kd.R_far (p := ⟨gb622, 0, none⟩) (Kd.R_types HO614.out BK622.out (by decide)) (fun _ hk => hk.2) (.int .i64 t616)) (fun _ hk => hk.2) (.bool t617)) (fun _ hk => hk.2) (.slice Ao24 t618.length co24)) (fun _ h_ => h_.1))) (Kd.R_base ho0) hb); have n1_ := Aside0.mk (Kd.R_elder' (by (with_reducible repeat (first | apply Kd.R_alloc | apply Kd.R_drewN | apply Kd.R_drew)); exact (Kd.R_mono (Kd.R_far (p := ⟨gb622, 2, none⟩) (Kd.R_far (p := ⟨gb622, 1, none⟩) (Kd.R_far (p := ⟨gb622, 0, none⟩) (Kd.R_types HO620.out BK622.out (by decide)) (fun _ hk => hk.2) (.int .i64 t616)) (fun _ hk => hk.2) (.bool t617)) (fun _ hk => hk.2) (.slice Ao24 t618.length co24)) (fun _ h_ => h_.1))) (Kd.R_base ho0) hb); have n2_ := Aside0.mk (Kd.R_lower (Kd.R_new' (Kd.R_new' ho0 (Kd.R_lt (by (with_reducible repeat (first | apply Kd.R_alloc | apply Kd.R_drewN | apply Kd.R_drew)); exact (Kd.R_mono (Kd.R_far (p := ⟨gb622, 2, none⟩) (Kd.R_far (p := ⟨gb622, 1, none⟩) (Kd.R_far (p := ⟨gb622, 0, none⟩) (Kd.R_types HO614.out BK622.out (by decide)) (fun _ hk => hk.2) (.int .i64 t616)) (fun _ hk => hk.2) (.bool t617)) (fun _ hk => hk.2) (.slice Ao24 t618.length co24)) (fun _ h_ => h_.1))))) (Kd.R_lt (by (with_reducible repeat (first | apply Kd.R_alloc | apply Kd.R_drewN | apply Kd.R_drew)); exact (Kd.R_mono (Kd.R_far (p := ⟨gb622, 2, none⟩) (Kd.R_far (p := ⟨gb622, 1, none⟩) (Kd.R_far (p := ⟨gb622, 0, none⟩) (Kd.R_types HO620.out BK622.out (by decide)) (fun _ hk => hk.2) (.int .i64 t616)) (fun _ hk => hk.2) (.bool t617)) (fun _ hk => hk.2) (.slice Ao24 t618.length co24)) (fun _ h_ => h_.1))))) (below_size (by repeat (first | (with_reducible first | exact HB.out | apply below_alloc | apply pw_below_drewN | apply below_drew1 | refine below_set ?_ GE598.out | refine below_set ?_ GE599.out | refine below_set ?_ GE615.out | refine below_set ?_ GE622.out) | exact HB.out)))); have n3_ := Aside0.mk (blk_below (g := gb598) (o := .cells #[.int .i64 a0_0, .int .i64 a0_1, .int .i64 a0_2, .int .i64 a0_3, .slice A0_4 l0_4.length c0_4, .int .i64 a0_5] 24 (0, 0)) (by (with_reducible repeat (first | refine blk_drewN ?_ _ | refine blk_drew ?_ | refine blk_alloc ?_ _)); refine blk_far ?_ NB598_622.out _; (with_reducible repeat (first | refine blk_drewN ?_ _ | refine blk_drew ?_ | refine blk_alloc ?_ _)); refine blk_far ?_ NB598_622.out _; (with_reducible repeat (first | refine blk_drewN ?_ _ | refine blk_drew ?_ | refine blk_alloc ?_ _)); refine blk_far ?_ NB598_622.out _; (with_reducible repeat (first | refine blk_drewN ?_ _ | refine blk_drew ?_ | refine blk_alloc ?_ _)); exact BK598.out) hb); have n4_ := Aside0.mk (blk_below (g := gb599) (o := .cells #[.int .i64 a1_0, .int .i64 a1_1, .int .i64 a1_2, .int .i64 a1_3, .int .i64 a1_4, .int .i64 a1_5, .int .i64 a1_6, .int .i64 a1_7, .int .i64 a1_8, .int .i64 a1_9, .int .i64 a1_10, .int .i64 a1_11, .slice A1_12 l1_12.length c1_12] 28 (0, 0)) (by (with_reducible repeat (first | refine blk_drewN ?_ _ | refine blk_drew ?_ | refine blk_alloc ?_ _)); refine blk_far ?_ NB599_622.out _; (with_reducible repeat (first | refine blk_drewN ?_ _ | refine blk_drew ?_ | refine blk_alloc ?_ _)); refine blk_far ?_ NB599_622.out _; (with_reducible repeat (first | refine blk_drewN ?_ _ | refine blk_drew ?_ | refine blk_alloc ?_ _)); refine blk_far ?_ NB599_622.out _; (with_reducible repeat (first | refine blk_drewN ?_ _ | refine blk_drew ?_ | refine blk_alloc ?_ _)); exact BK599.out) hb); have n5_ := Aside0.mk (blk_below (g := gb615) (o := .cells #[.int .i64 t600, .int .i64 t601, .int .i64 t602, .int .i64 t603, .int .i64 t604, .int .i64 t605, .int .i64 t606, .int .i64 t607, .int .i64 t608, .int .i64 t609, .int .i64 t610, .int .i64 t611, .slice Ao16 t612.length co16] 28 (0, 0)) (by (with_reducible repeat (first | refine blk_drewN ?_ _ | refine blk_drew ?_ | refine blk_alloc ?_ _)); refine blk_far ?_ NB615_622.out _; (with_reducible repeat (first | refine blk_drewN ?_ _ | refine blk_drew ?_ | refine blk_alloc ?_ _)); refine blk_far ?_ NB615_622.out _; (with_reducible repeat (first | refine blk_drewN ?_ _ | refine blk_drew ?_ | refine blk_alloc ?_ _)); refine blk_far ?_ NB615_622.out _; (with_reducible repeat (first | refine blk_drewN ?_ _ | refine blk_drew ?_ | refine blk_alloc ?_ _)); exact BK615.out) hb); have n6_ := Aside0.mk (blk_below (g := gb622) (o := .cells #[.int .i64 t616, .bool t617, .slice Ao24 t618.length co24] 31 (0, 0)) (by (with_reducible repeat (first | refine blk_drewN ?_ _ | refine blk_drew ?_ | refine blk_alloc ?_ _)); refine blk_put (cs := #[.int .i64 t616, .bool t617, .slice none 0 0]) ?_ 2 _ rfl; (with_reducible repeat (first | refine blk_drewN ?_ _ | refine blk_drew ?_ | refine blk_alloc ?_ _)); refine blk_put (cs := #[.int .i64 t616, .bool false, .slice none 0 0]) ?_ 1 _ rfl; (with_reducible repeat (first | refine blk_drewN ?_ _ | refine blk_drew ?_ | refine blk_alloc ?_ _)); refine blk_put (cs := #[.int .i64 0, .bool false, .slice none 0 0]) ?_ 0 _ rfl; (with_reducible repeat (first | refine blk_drewN ?_ _ | refine blk_drew ?_ | refine blk_alloc ?_ _)); exact BK622.out) hb); have n7_ := Aside0.mk (below_step (by repeat (first | (with_reducible first | exact HB.out | apply below_alloc | apply pw_below_drewN | apply below_drew1 | refine below_set ?_ GE598.out | refine below_set ?_ GE599.out | refine below_set ?_ GE615.out | refine below_set ?_ GE622.out) | exact HB.out)) hb); clear HO614; clear HO620; clear BK598; clear BK599; clear BK615; clear BK622; clear HB; have HO614 := n0_; have HO620 := n1_; have HO627 := n2_; have BK598 := n3_; have BK599 := n4_; have BK615 := n5_; have BK622 := n6_; have HB := n7_; clear n0_ n1_ n2_ n3_ n4_ n5_ n6_ n7_; (try clear hb); (try clear hb2); (try clear hk); (try clear hi); (try clear ho0)) | ((with_reducible refine gate_dst (N := 8) rfl ?_); refine box_event ?hg (N := 8) ?hd (cs := #[.int .i64 0, .bool false, .slice none 0 0]) (t := 31) ?hr ?_; (case hd => rfl); (case hg => rfl); (case hr => first | (go_simp; done) | (go_simp; rfl)); intro gb629 hg w28 hbox hb; have n0_ := Aside0.mk (Kd.R_below (by (with_reducible repeat (first | apply Kd.R_alloc | apply Kd.R_drewN | apply Kd.R_drew)); exact HO614.out) hb); have n1_ := Aside0.mk (Kd.R_below (by (with_reducible repeat (first | apply Kd.R_alloc | apply Kd.R_drewN | apply Kd.R_drew)); exact HO620.out) hb); have n2_ := Aside0.mk (Kd.R_below (by (with_reducible repeat (first | apply Kd.R_alloc | apply Kd.R_drewN | apply Kd.R_drew)); exact HO627.out) hb); have n3_ := Aside0.mk (blk_below (g := gb598) (o := .cells #[.int .i64 a0_0, .int .i64 a0_1, .int .i64 a0_2, .int .i64 a0_3, .slice A0_4 l0_4.length c0_4, .int .i64 a0_5] 24 (0, 0)) (by (with_reducible repeat (first | refine blk_drewN ?_ _ | refine blk_drew ?_ | refine blk_alloc ?_ _)); exact BK598.out) hb); have n4_ := Aside0.mk (blk_below (g := gb599) (o := .cells #[.int .i64 a1_0, .int .i64 a1_1, .int .i64 a1_2, .int .i64 a1_3, .int .i64 a1_4, .int .i64 a1_5, .int .i64 a1_6, .int .i64 a1_7, .int .i64 a1_8, .int .i64 a1_9, .int .i64 a1_10, .int .i64 a1_11, .slice A1_12 l1_12.length c1_12] 28 (0, 0)) (by (with_reducible repeat (first | refine blk_drewN ?_ _ | refine blk_drew ?_ | refine blk_alloc ?_ _)); exact BK599.out) hb); have n5_ := Aside0.mk (blk_below (g := gb615) (o := .cells #[.int .i64 t600, .int .i64 t601, .int .i64 t602, .int .i64 t603, .int .i64 t604, .int .i64 t605, .int .i64 t606, .int .i64 t607, .int .i64 t608, .int .i64 t609, .int .i64 t610, .int .i64 t611, .slice Ao16 t612.length co16] 28 (0, 0)) (by (with_reducible repeat (first | refine blk_drewN ?_ _ | refine blk_drew ?_ | refine blk_alloc ?_ _)); exact BK615.out) hb); have n6_ := Aside0.mk (blk_below (g := gb622) (o := .cells #[.int .i64 t616, .bool t617, .slice Ao24 t618.length co24] 31 (0, 0)) (by (with_reducible repeat (first | refine blk_drewN ?_ _ | refine blk_drew ?_ | refine blk_alloc ?_ _)); exact BK622.out) hb); have n7_ := Aside0.mk (below_step (by repeat (first | (with_reducible first | exact HB.out | apply below_alloc | apply pw_below_drewN | apply below_drew1 | refine below_set ?_ GE598.out | refine below_set ?_ GE599.out | refine below_set ?_ GE615.out | refine below_set ?_ GE622.out) | exact HB.out)) hb); have n8_ := Aside0.mk (hbox); have n9_ := Aside0.mk ((by rw [hg]; exact (below_size (by repeat (first | (with_reducible first | exact HB.out | apply below_alloc | apply pw_below_drewN | apply below_drew1 | refine below_set ?_ GE598.out | refine below_set ?_ GE599.out | refine below_set ?_ GE615.out | refine below_set ?_ GE622.out) | exact HB.out))) : w.heap.size ≤ gb629)); have n10_ := Aside0.mk ((by rw [hg]; exact (below_size (by repeat (first | (with_reducible first | exact HB.out | apply below_alloc | apply pw_below_drewN | apply below_drew1 | refine below_set ?_ GE598.out | refine below_set ?_ GE599.out | refine below_set ?_ GE615.out | refine below_set ?_ GE622.out) | exact HB.out))) : w.heap.size ≤ gb629)); have n11_ := Aside0.mk ((by rw [hg]; exact Nat.ne_of_lt (blk_lt (g := gb598) (o := .cells #[.int .i64 a0_0, .int .i64 a0_1, .int .i64 a0_2, .int .i64 a0_3, .slice A0_4 l0_4.length c0_4, .int .i64 a0_5] 24 (0, 0)) (by (with_reducible repeat (first | refine blk_drewN ?_ _ | refine blk_drew ?_ | refine blk_alloc ?_ _)); exact BK598.out)) : gb598 ≠ gb629)); have n12_ := Aside0.mk ((by rw [hg]; exact Nat.ne_of_gt (blk_lt (g := gb598) (o := .cells #[.int .i64 a0_0, .int .i64 a0_1, .int .i64 a0_2, .int .i64 a0_3, .slice A0_4 l0_4.length c0_4, .int .i64 a0_5] 24 (0, 0)) (by (with_reducible repeat (first | refine blk_drewN ?_ _ | refine blk_drew ?_ | refine blk_alloc ?_ _)); exact BK598.out)) : gb629 ≠ gb598)); have n13_ := Aside0.mk ((by rw [hg]; exact Nat.ne_of_lt (blk_lt (g := gb599) (o := .cells #[.int .i64 a1_0, .int .i64 a1_1, .int .i64 a1_2, .int .i64 a1_3, .int .i64 a1_4, .int .i64 a1_5, .int .i64 a1_6, .int .i64 a1_7, .int .i64 a1_8, .int .i64 a1_9, .int .i64 a1_10, .int .i64 a1_11, .slice A1_12 l1_12.length c1_12] 28 (0, 0)) (by (with_reducible repeat (first | refine blk_drewN ?_ _ | refine blk_drew ?_ | refine blk_alloc ?_ _)); exact BK599.out)) : gb599 ≠ gb629)); have n14_ := Aside0.mk ((by rw [hg]; exact Nat.ne_of_gt (blk_lt (g := gb599) (o := .cells #[.int .i64 a1_0, .int .i64 a1_1, .int .i64 a1_2, .int .i64 a1_3, .int .i64 a1_4, .int .i64 a1_5, .int .i64 a1_6, .int .i64 a1_7, .int .i64 a1_8, .int .i64 a1_9, .int .i64 a1_10, .int .i64 a1_11, .slice A1_12 l1_12.length c1_12] 28 (0, 0)) (by (with_reducible repeat (first | refine blk_drewN ?_ _ | refine blk_drew ?_ | refine blk_alloc ?_ _)); exact BK599.out)) : gb629 ≠ gb599)); have n15_ := Aside0.mk ((by rw [hg]; exact Nat.ne_of_lt (blk_lt (g := gb615) (o := .cells #[.int .i64 t600, .int .i64 t601, .int .i64 t602, .int .i64 t603, .int .i64 t604, .int .i64 t605, .int .i64 t606, .int .i64 t607, .int .i64 t608, .int .i64 t609, .int .i64 t610, .int .i64 t611, .slice Ao16 t612.length co16] 28 (0, 0)) (by (with_reducible repeat (first | refine blk_drewN ?_ _ | refine blk_drew ?_ | refine blk_alloc ?_ _)); exact BK615.out)) : gb615 ≠ gb629)); have n16_ := Aside0.mk ((by rw [hg]; exact Nat.ne_of_gt (blk_lt (g := gb615) (o := .cells #[.int .i64 t600, .int .i64 t601, .int .i64 t602, .int .i64 t603, .int .i64 t604, .int .i64 t605, .int .i64 t606, .int .i64 t607, .int .i64 t608, .int .i64 t609, .int .i64 t610, .int .i64 t611, .slice Ao16 t612.length co16] 28 (0, 0)) (by (with_reducible repeat (first | refine blk_drewN ?_ _ | refine blk_drew ?_ | refine blk_alloc ?_ _)); exact BK615.out)) : gb629 ≠ gb615)); have n17_ := Aside0.mk ((by rw [hg]; exact Nat.ne_of_lt (blk_lt (g := gb622) (o := .cells #[.int .i64 t616, .bool t617, .slice Ao24 t618.length co24] 31 (0, 0)) (by (with_reducible repeat (first | refine blk_drewN ?_ _ | refine blk_drew ?_ | refine blk_alloc ?_ _)); exact BK622.out)) : gb622 ≠ gb629)); have n18_ := Aside0.mk ((by rw [hg]; exact Nat.ne_of_gt (blk_lt (g := gb622) (o := .cells #[.int .i64 t616, .bool t617, .slice Ao24 t618.length co24] 31 (0, 0)) (by (with_reducible repeat (first | refine blk_drewN ?_ _ | refine blk_drew ?_ | refine blk_alloc ?_ _)); exact BK622.out)) : gb629 ≠ gb622)); clear HO614; clear HO620; clear HO627; clear BK598; clear BK599; clear BK615; clear BK622; clear HB; have HO614 := n0_; have HO620 := n1_; have HO627 := n2_; have BK598 := n3_; have BK599 := n4_; have BK615 := n5_; have BK622 := n6_; have HB := n7_; have BK629 := n8_; have GW629 := n9_; have GE629 := n10_; have NB598_629 := n11_; have NB629_598 := n12_; have NB599_629 := n13_; have NB629_599 := n14_; have NB615_629 := n15_; have NB629_615 := n16_; have NB622_629 := n17_; have NB629_622 := n18_; clear n0_ n1_ n2_ n3_ n4_ n5_ n6_ n7_ n8_ n9_ n10_ n11_ n12_ n13_ n14_ n15_ n16_ n17_ n18_; clear hb hbox hg; have hnb29 := NB629_598.out; have hnc29 := NB598_629.out; have hnb30 := NB629_599.out; have hnc30 := NB599_629.out; have hnb31 := NB629_615.out; have hnc31 := NB615_629.out; have hnb32 := NB629_622.out; have hnc32 := NB622_629.out; have hcz33_0 : w28.cell? ⟨gb629, 0, none⟩ = some (.int .i64 0) := (blk_cell BK629.out 0).trans rfl; have hcz33_1 : w28.cell? ⟨gb629, 1, none⟩ = some (.bool false) := (blk_cell BK629.out 1).trans rfl; have hcz33_2 : w28.cell? ⟨gb629, 2, none⟩ = some (.slice none 0 0) := (blk_cell BK629.out 2).trans rfl; have hfz33_0 := blk_frozen BK629.out 0; have hfz33_1 := blk_frozen BK629.out 1; have hfz33_2 := blk_frozen BK629.out 2; obtain ⟨Ao34, co34, eo34⟩ := Kd.R_slice HO627.out; subst eo34))
  (try simp only [Act.put, List.setIfInBounds_toArray, List.set_cons_zero, List.set_cons_succ])
  go_cut [33] (fun v33 wc => ∃ (kq : Nat) (x33_5 : Bool), v33 = .bool x33_5 ∧ Aside0 (bournelaw2_Lows.j0 kq x33_5 a1_0 a1_1 a1_2 a1_3 a1_4 a1_5 a1_6 a1_7 a1_8 a1_9 a1_10 a1_11 l1_12 t600 t601 t602 t603 t604 t605 t606 t607 t608 t609 t610 t611 t612 t616 t617 t618 = some r) ∧ Aside0 (kq ≤ k) ∧ Aside0 (Kd.R (Kd.int .i64) 3 wc w.heap.size (fun k_ => some k_ ≠ ((.slice Ao24 t618.length co24) : Value).ownBlock ∧ some k_ ≠ ((.slice Ao34 t625.length co34) : Value).ownBlock) (.slice Ao16 t612.length co16) t612) ∧ Aside0 (Kd.R (Kd.int .i64) 3 wc w.heap.size (fun k_ => some k_ ≠ ((.slice Ao16 t612.length co16) : Value).ownBlock ∧ some k_ ≠ ((.slice Ao34 t625.length co34) : Value).ownBlock) (.slice Ao24 t618.length co24) t618) ∧ Aside0 (Kd.R (Kd.int .i64) 3 wc w.heap.size (fun k_ => some k_ ≠ ((.slice Ao16 t612.length co16) : Value).ownBlock ∧ some k_ ≠ ((.slice Ao24 t618.length co24) : Value).ownBlock) (.slice Ao34 t625.length co34) t625) ∧ Aside0 (wc.heap[gb598]? = some (.cells #[.int .i64 a0_0, .int .i64 a0_1, .int .i64 a0_2, .int .i64 a0_3, (.slice A0_4 l0_4.length c0_4), .int .i64 a0_5] 24 (0, 0))) ∧ Aside0 (wc.heap[gb599]? = some (.cells #[.int .i64 a1_0, .int .i64 a1_1, .int .i64 a1_2, .int .i64 a1_3, .int .i64 a1_4, .int .i64 a1_5, .int .i64 a1_6, .int .i64 a1_7, .int .i64 a1_8, .int .i64 a1_9, .int .i64 a1_10, .int .i64 a1_11, (.slice A1_12 l1_12.length c1_12)] 28 (0, 0))) ∧ Aside0 (wc.heap[gb615]? = some (.cells #[.int .i64 t600, .int .i64 t601, .int .i64 t602, .int .i64 t603, .int .i64 t604, .int .i64 t605, .int .i64 t606, .int .i64 t607, .int .i64 t608, .int .i64 t609, .int .i64 t610, .int .i64 t611, (.slice Ao16 t612.length co16)] 28 (0, 0))) ∧ Aside0 (wc.heap[gb622]? = some (.cells #[.int .i64 t616, .bool t617, (.slice Ao24 t618.length co24)] 31 (0, 0))) ∧ Aside0 (wc.heap[gb629]? = some (.cells #[.int .i64 t623, .bool t624, (.slice Ao34 t625.length co34)] 31 (0, 0))) ∧ Aside0 (Below w.heap.size w wc))
  case first =>
    have H := HC6.out
    clear HC6
    replace H := Option.bind_eq_some_iff.mp H
    obtain ⟨t630, A350, H⟩ := H
    replace H : (if t630 = true then ((bournelaw0_Num.f t621).bind fun t631 => (bournelaw2_Lows.j0 k (t631 != t628) a1_0 a1_1 a1_2 a1_3 a1_4 a1_5 a1_6 a1_7 a1_8 a1_9 a1_10 a1_11 l1_12 t600 t601 t602 t603 t604 t605 t606 t607 t608 t609 t610 t611 t612 t616 t617 t618)) else (bournelaw2_Lows.j0 k true a1_0 a1_1 a1_2 a1_3 a1_4 a1_5 a1_6 a1_7 a1_8 a1_9 a1_10 a1_11 l1_12 t600 t601 t602 t603 t604 t605 t606 t607 t608 t609 t610 t611 t612 t616 t617 t618)) = some r := H
    have A35 := Aside0.mk A350
    clear A350
    by_cases c36 : t630 = true
    · subst c36
      have H1 : ((bournelaw0_Num.f t621).bind fun t631 => (bournelaw2_Lows.j0 k (t631 != t628) a1_0 a1_1 a1_2 a1_3 a1_4 a1_5 a1_6 a1_7 a1_8 a1_9 a1_10 a1_11 l1_12 t600 t601 t602 t603 t604 t605 t606 t607 t608 t609 t610 t611 t612 t616 t617 t618)) = some r := by rw [if_pos rfl] at H; exact H
      clear H
      have H := H1
      clear H1
      replace H := Option.bind_eq_some_iff.mp H
      obtain ⟨t631, A370, H⟩ := H
      replace H : (bournelaw2_Lows.j0 k (t631 != t628) a1_0 a1_1 a1_2 a1_3 a1_4 a1_5 a1_6 a1_7 a1_8 a1_9 a1_10 a1_11 l1_12 t600 t601 t602 t603 t604 t605 t606 t607 t608 t609 t610 t611 t612 t616 t617 t618) = some r := H
      have A37 := Aside0.mk A370
      clear A370
      have H' := Aside0.mk H
      clear H
      have hnb38 := NB622_598.out
      have hnc38 := NB598_622.out
      have hnb39 := NB622_599.out
      have hnc39 := NB599_622.out
      have hnb40 := NB622_615.out
      have hnc40 := NB615_622.out
      have hnb41 := NB622_629.out
      have hnc41 := NB629_622.out
      have hcz42_0 : w28.cell? ⟨gb622, 0, none⟩ = some (.int .i64 t616) := (blk_cell BK622.out 0).trans rfl
      have hcz42_1 : w28.cell? ⟨gb622, 1, none⟩ = some (.bool t617) := (blk_cell BK622.out 1).trans rfl
      have hcz42_2 : w28.cell? ⟨gb622, 2, none⟩ = some (.slice Ao24 t618.length co24) := (blk_cell BK622.out 2).trans rfl
      have hfz42_0 := blk_frozen BK622.out 0
      have hfz42_1 := blk_frozen BK622.out 1
      have hfz42_2 := blk_frozen BK622.out 2
      have hnb43 := NB629_598.out
      have hnc43 := NB598_629.out
      have hnb44 := NB629_599.out
      have hnc44 := NB599_629.out
      have hnb45 := NB629_615.out
      have hnc45 := NB615_629.out
      have hcz46_0 : w28.cell? ⟨gb629, 0, none⟩ = some (.int .i64 0) := (blk_cell BK629.out 0).trans rfl
      have hcz46_1 : w28.cell? ⟨gb629, 1, none⟩ = some (.bool false) := (blk_cell BK629.out 1).trans rfl
      have hcz46_2 : w28.cell? ⟨gb629, 2, none⟩ = some (.slice none 0 0) := (blk_cell BK629.out 2).trans rfl
      have hfz46_0 := blk_frozen BK629.out 0
      have hfz46_1 := blk_frozen BK629.out 1
      have hfz46_2 := blk_frozen BK629.out 2
      go_wp2_with (first | ((with_reducible refine gate_callee (f := 19) rfl ?_); refine goesL_ (some 26) rfl rfl Try.func19 (by kernel_rfl) rfl #[.agg #[.int .i64 t616, .bool t617, .slice Ao24 t618.length co24], .agg #[.int .i64 t623, .bool t624, .slice Ao34 t625.length co34]] rfl (by (try simp only [List.map_toArray, List.map_cons, List.map_nil]); first | done | rfl | (simp only [List.length_drop, List.length_take]; rfl)) ?_; (with_reducible refine (bournelaw0_SameOut.calls k t616 t617 _ _ t618 t623 t624 _ _ t625 true _ ?side1 ?side2 ?side3 ?side4 A35.out).mono ?_); (case side1 => refine (Kd.R_reads' (e := 3) (base := w.heap.size) (ok := fun k_ => ((True ∧ some k_ ≠ (.slice Ao16 t612.length co16 : Value).ownBlock) ∧ some k_ ≠ (.slice Ao34 t625.length co34 : Value).ownBlock)) (n := t618.length) (c := co24) ?_).2.2; exact (by (with_reducible repeat (first | apply Kd.R_alloc | apply Kd.R_drewN | apply Kd.R_drew)); exact (Kd.R_mono (Kd.R_far (p := ⟨gb629, 2, none⟩) (Kd.R_far (p := ⟨gb629, 1, none⟩) (Kd.R_far (p := ⟨gb629, 0, none⟩) (Kd.R_types HO620.out BK629.out (by decide)) (fun _ hk => hk.2) (.int .i64 t623)) (fun _ hk => hk.2) (.bool t624)) (fun _ hk => hk.2) (.slice Ao34 t625.length co34)) (fun _ h_ => h_.1)))); (case side2 => exact (Kd.R_reads' HO620.out).2.1); (case side3 => refine (Kd.R_reads' (e := 3) (base := w.heap.size) (ok := fun k_ => ((True ∧ some k_ ≠ (.slice Ao16 t612.length co16 : Value).ownBlock) ∧ some k_ ≠ (.slice Ao24 t618.length co24 : Value).ownBlock)) (n := t625.length) (c := co34) ?_).2.2; exact (by (with_reducible repeat (first | apply Kd.R_alloc | apply Kd.R_drewN | apply Kd.R_drew)); exact (Kd.R_mono (Kd.R_far (p := ⟨gb629, 2, none⟩) (Kd.R_far (p := ⟨gb629, 1, none⟩) (Kd.R_far (p := ⟨gb629, 0, none⟩) (Kd.R_types HO627.out BK629.out (by decide)) (fun _ hk => hk.2) (.int .i64 t623)) (fun _ hk => hk.2) (.bool t624)) (fun _ hk => hk.2) (.slice Ao34 t625.length co34)) (fun _ h_ => h_.1)))); (case side4 => exact (Kd.R_reads' HO627.out).2.1); rintro e w47 ⟨rfl, hb⟩; refine ⟨_, rfl, ?_⟩; have n0_ := Aside0.mk (Kd.R_below (by (with_reducible repeat (first | apply Kd.R_alloc | apply Kd.R_drewN | apply Kd.R_drew)); exact (Kd.R_mono (Kd.R_far (p := ⟨gb629, 2, none⟩) (Kd.R_far (p := ⟨gb629, 1, none⟩) (Kd.R_far (p := ⟨gb629, 0, none⟩) (Kd.R_types HO614.out BK629.out (by decide)) (fun _ hk => hk.2) (.int .i64 t623)) (fun _ hk => hk.2) (.bool t624)) (fun _ hk => hk.2) (.slice Ao34 t625.length co34)) (fun _ h_ => h_.1))) hb); have n1_ := Aside0.mk (Kd.R_below (by (with_reducible repeat (first | apply Kd.R_alloc | apply Kd.R_drewN | apply Kd.R_drew)); exact (Kd.R_mono (Kd.R_far (p := ⟨gb629, 2, none⟩) (Kd.R_far (p := ⟨gb629, 1, none⟩) (Kd.R_far (p := ⟨gb629, 0, none⟩) (Kd.R_types HO620.out BK629.out (by decide)) (fun _ hk => hk.2) (.int .i64 t623)) (fun _ hk => hk.2) (.bool t624)) (fun _ hk => hk.2) (.slice Ao34 t625.length co34)) (fun _ h_ => h_.1))) hb); have n2_ := Aside0.mk (Kd.R_below (by (with_reducible repeat (first | apply Kd.R_alloc | apply Kd.R_drewN | apply Kd.R_drew)); exact (Kd.R_mono (Kd.R_far (p := ⟨gb629, 2, none⟩) (Kd.R_far (p := ⟨gb629, 1, none⟩) (Kd.R_far (p := ⟨gb629, 0, none⟩) (Kd.R_types HO627.out BK629.out (by decide)) (fun _ hk => hk.2) (.int .i64 t623)) (fun _ hk => hk.2) (.bool t624)) (fun _ hk => hk.2) (.slice Ao34 t625.length co34)) (fun _ h_ => h_.1))) hb); have n3_ := Aside0.mk (blk_below (g := gb598) (o := .cells #[.int .i64 a0_0, .int .i64 a0_1, .int .i64 a0_2, .int .i64 a0_3, .slice A0_4 l0_4.length c0_4, .int .i64 a0_5] 24 (0, 0)) (by (with_reducible repeat (first | refine blk_drewN ?_ _ | refine blk_drew ?_ | refine blk_alloc ?_ _)); refine blk_far ?_ NB598_629.out _; (with_reducible repeat (first | refine blk_drewN ?_ _ | refine blk_drew ?_ | refine blk_alloc ?_ _)); refine blk_far ?_ NB598_629.out _; (with_reducible repeat (first | refine blk_drewN ?_ _ | refine blk_drew ?_ | refine blk_alloc ?_ _)); refine blk_far ?_ NB598_629.out _; (with_reducible repeat (first | refine blk_drewN ?_ _ | refine blk_drew ?_ | refine blk_alloc ?_ _)); exact BK598.out) hb); have n4_ := Aside0.mk (blk_below (g := gb599) (o := .cells #[.int .i64 a1_0, .int .i64 a1_1, .int .i64 a1_2, .int .i64 a1_3, .int .i64 a1_4, .int .i64 a1_5, .int .i64 a1_6, .int .i64 a1_7, .int .i64 a1_8, .int .i64 a1_9, .int .i64 a1_10, .int .i64 a1_11, .slice A1_12 l1_12.length c1_12] 28 (0, 0)) (by (with_reducible repeat (first | refine blk_drewN ?_ _ | refine blk_drew ?_ | refine blk_alloc ?_ _)); refine blk_far ?_ NB599_629.out _; (with_reducible repeat (first | refine blk_drewN ?_ _ | refine blk_drew ?_ | refine blk_alloc ?_ _)); refine blk_far ?_ NB599_629.out _; (with_reducible repeat (first | refine blk_drewN ?_ _ | refine blk_drew ?_ | refine blk_alloc ?_ _)); refine blk_far ?_ NB599_629.out _; (with_reducible repeat (first | refine blk_drewN ?_ _ | refine blk_drew ?_ | refine blk_alloc ?_ _)); exact BK599.out) hb); have n5_ := Aside0.mk (blk_below (g := gb615) (o := .cells #[.int .i64 t600, .int .i64 t601, .int .i64 t602, .int .i64 t603, .int .i64 t604, .int .i64 t605, .int .i64 t606, .int .i64 t607, .int .i64 t608, .int .i64 t609, .int .i64 t610, .int .i64 t611, .slice Ao16 t612.length co16] 28 (0, 0)) (by (with_reducible repeat (first | refine blk_drewN ?_ _ | refine blk_drew ?_ | refine blk_alloc ?_ _)); refine blk_far ?_ NB615_629.out _; (with_reducible repeat (first | refine blk_drewN ?_ _ | refine blk_drew ?_ | refine blk_alloc ?_ _)); refine blk_far ?_ NB615_629.out _; (with_reducible repeat (first | refine blk_drewN ?_ _ | refine blk_drew ?_ | refine blk_alloc ?_ _)); refine blk_far ?_ NB615_629.out _; (with_reducible repeat (first | refine blk_drewN ?_ _ | refine blk_drew ?_ | refine blk_alloc ?_ _)); exact BK615.out) hb); have n6_ := Aside0.mk (blk_below (g := gb622) (o := .cells #[.int .i64 t616, .bool t617, .slice Ao24 t618.length co24] 31 (0, 0)) (by (with_reducible repeat (first | refine blk_drewN ?_ _ | refine blk_drew ?_ | refine blk_alloc ?_ _)); refine blk_far ?_ NB622_629.out _; (with_reducible repeat (first | refine blk_drewN ?_ _ | refine blk_drew ?_ | refine blk_alloc ?_ _)); refine blk_far ?_ NB622_629.out _; (with_reducible repeat (first | refine blk_drewN ?_ _ | refine blk_drew ?_ | refine blk_alloc ?_ _)); refine blk_far ?_ NB622_629.out _; (with_reducible repeat (first | refine blk_drewN ?_ _ | refine blk_drew ?_ | refine blk_alloc ?_ _)); exact BK622.out) hb); have n7_ := Aside0.mk (blk_below (g := gb629) (o := .cells #[.int .i64 t623, .bool t624, .slice Ao34 t625.length co34] 31 (0, 0)) (by (with_reducible repeat (first | refine blk_drewN ?_ _ | refine blk_drew ?_ | refine blk_alloc ?_ _)); refine blk_put (cs := #[.int .i64 t623, .bool t624, .slice none 0 0]) ?_ 2 _ rfl; (with_reducible repeat (first | refine blk_drewN ?_ _ | refine blk_drew ?_ | refine blk_alloc ?_ _)); refine blk_put (cs := #[.int .i64 t623, .bool false, .slice none 0 0]) ?_ 1 _ rfl; (with_reducible repeat (first | refine blk_drewN ?_ _ | refine blk_drew ?_ | refine blk_alloc ?_ _)); refine blk_put (cs := #[.int .i64 0, .bool false, .slice none 0 0]) ?_ 0 _ rfl; (with_reducible repeat (first | refine blk_drewN ?_ _ | refine blk_drew ?_ | refine blk_alloc ?_ _)); exact BK629.out) hb); have n8_ := Aside0.mk (below_step (by repeat (first | (with_reducible first | exact HB.out | apply below_alloc | apply pw_below_drewN | apply below_drew1 | refine below_set ?_ GE598.out | refine below_set ?_ GE599.out | refine below_set ?_ GE615.out | refine below_set ?_ GE622.out | refine below_set ?_ GE629.out) | exact HB.out)) hb); clear HO614; clear HO620; clear HO627; clear BK598; clear BK599; clear BK615; clear BK622; clear BK629; clear HB; have HO614 := n0_; have HO620 := n1_; have HO627 := n2_; have BK598 := n3_; have BK599 := n4_; have BK615 := n5_; have BK622 := n6_; have BK629 := n7_; have HB := n8_; clear n0_ n1_ n2_ n3_ n4_ n5_ n6_ n7_ n8_; (try clear hb); (try clear hb2); (try clear hk); (try clear hi)) | (go_at_call 20; (with_reducible refine (bournelaw0_Num.calls t621 t631 _ A37.out).mono ?_); rintro e w' ⟨rfl, ⟨nd, rfl⟩⟩))
      go_meet
      case rel => exact ⟨_, ((t631 != t628)), (by first | rfl | (simp; done) | (simp [*]; done)), H', ⟨by first | omega | exact Nat.le_refl _⟩, ⟨by (with_reducible repeat (first | apply Kd.R_alloc | apply Kd.R_drewN | apply Kd.R_drew)); exact Kd.R_mono HO614.out (fun _ hk => ⟨hk.1.2, hk.2⟩)⟩, ⟨by (with_reducible repeat (first | apply Kd.R_alloc | apply Kd.R_drewN | apply Kd.R_drew)); exact Kd.R_mono HO620.out (fun _ hk => ⟨hk.1.2, hk.2⟩)⟩, ⟨by (with_reducible repeat (first | apply Kd.R_alloc | apply Kd.R_drewN | apply Kd.R_drew)); exact Kd.R_mono HO627.out (fun _ hk => ⟨hk.1.2, hk.2⟩)⟩, ⟨by (with_reducible repeat (first | refine blk_drewN ?_ _ | refine blk_drew ?_ | refine blk_alloc ?_ _)); exact BK598.out⟩, ⟨by (with_reducible repeat (first | refine blk_drewN ?_ _ | refine blk_drew ?_ | refine blk_alloc ?_ _)); exact BK599.out⟩, ⟨by (with_reducible repeat (first | refine blk_drewN ?_ _ | refine blk_drew ?_ | refine blk_alloc ?_ _)); exact BK615.out⟩, ⟨by (with_reducible repeat (first | refine blk_drewN ?_ _ | refine blk_drew ?_ | refine blk_alloc ?_ _)); exact BK622.out⟩, ⟨by (with_reducible repeat (first | refine blk_drewN ?_ _ | refine blk_drew ?_ | refine blk_alloc ?_ _)); exact BK629.out⟩, ⟨by repeat (first | (with_reducible first | exact HB.out | apply below_alloc | apply pw_below_drewN | apply below_drew1 | refine below_set ?_ GE598.out | refine below_set ?_ GE599.out | refine below_set ?_ GE615.out | refine below_set ?_ GE622.out | refine below_set ?_ GE629.out) | exact HB.out)⟩⟩
    · replace c36 := Bool.eq_false_iff.mpr c36
      subst c36
      have H1 : (bournelaw2_Lows.j0 k true a1_0 a1_1 a1_2 a1_3 a1_4 a1_5 a1_6 a1_7 a1_8 a1_9 a1_10 a1_11 l1_12 t600 t601 t602 t603 t604 t605 t606 t607 t608 t609 t610 t611 t612 t616 t617 t618) = some r := by rw [if_neg (show ¬ (false = true) by decide)] at H; exact H
      clear H
      have H := H1
      clear H1
      have H' := Aside0.mk H
      clear H
      have hnb48 := NB622_598.out
      have hnc48 := NB598_622.out
      have hnb49 := NB622_599.out
      have hnc49 := NB599_622.out
      have hnb50 := NB622_615.out
      have hnc50 := NB615_622.out
      have hnb51 := NB622_629.out
      have hnc51 := NB629_622.out
      have hcz52_0 : w28.cell? ⟨gb622, 0, none⟩ = some (.int .i64 t616) := (blk_cell BK622.out 0).trans rfl
      have hcz52_1 : w28.cell? ⟨gb622, 1, none⟩ = some (.bool t617) := (blk_cell BK622.out 1).trans rfl
      have hcz52_2 : w28.cell? ⟨gb622, 2, none⟩ = some (.slice Ao24 t618.length co24) := (blk_cell BK622.out 2).trans rfl
      have hfz52_0 := blk_frozen BK622.out 0
      have hfz52_1 := blk_frozen BK622.out 1
      have hfz52_2 := blk_frozen BK622.out 2
      have hnb53 := NB629_598.out
      have hnc53 := NB598_629.out
      have hnb54 := NB629_599.out
      have hnc54 := NB599_629.out
      have hnb55 := NB629_615.out
      have hnc55 := NB615_629.out
      have hcz56_0 : w28.cell? ⟨gb629, 0, none⟩ = some (.int .i64 0) := (blk_cell BK629.out 0).trans rfl
      have hcz56_1 : w28.cell? ⟨gb629, 1, none⟩ = some (.bool false) := (blk_cell BK629.out 1).trans rfl
      have hcz56_2 : w28.cell? ⟨gb629, 2, none⟩ = some (.slice none 0 0) := (blk_cell BK629.out 2).trans rfl
      have hfz56_0 := blk_frozen BK629.out 0
      have hfz56_1 := blk_frozen BK629.out 1
      have hfz56_2 := blk_frozen BK629.out 2
      go_wp2_with (first | ((with_reducible refine gate_callee (f := 19) rfl ?_); refine goesL_ (some 26) rfl rfl Try.func19 (by kernel_rfl) rfl #[.agg #[.int .i64 t616, .bool t617, .slice Ao24 t618.length co24], .agg #[.int .i64 t623, .bool t624, .slice Ao34 t625.length co34]] rfl (by (try simp only [List.map_toArray, List.map_cons, List.map_nil]); first | done | rfl | (simp only [List.length_drop, List.length_take]; rfl)) ?_; (with_reducible refine (bournelaw0_SameOut.calls k t616 t617 _ _ t618 t623 t624 _ _ t625 false _ ?side1 ?side2 ?side3 ?side4 A35.out).mono ?_); (case side1 => refine (Kd.R_reads' (e := 3) (base := w.heap.size) (ok := fun k_ => ((True ∧ some k_ ≠ (.slice Ao16 t612.length co16 : Value).ownBlock) ∧ some k_ ≠ (.slice Ao34 t625.length co34 : Value).ownBlock)) (n := t618.length) (c := co24) ?_).2.2; exact (by (with_reducible repeat (first | apply Kd.R_alloc | apply Kd.R_drewN | apply Kd.R_drew)); exact (Kd.R_mono (Kd.R_far (p := ⟨gb629, 2, none⟩) (Kd.R_far (p := ⟨gb629, 1, none⟩) (Kd.R_far (p := ⟨gb629, 0, none⟩) (Kd.R_types HO620.out BK629.out (by decide)) (fun _ hk => hk.2) (.int .i64 t623)) (fun _ hk => hk.2) (.bool t624)) (fun _ hk => hk.2) (.slice Ao34 t625.length co34)) (fun _ h_ => h_.1)))); (case side2 => exact (Kd.R_reads' HO620.out).2.1); (case side3 => refine (Kd.R_reads' (e := 3) (base := w.heap.size) (ok := fun k_ => ((True ∧ some k_ ≠ (.slice Ao16 t612.length co16 : Value).ownBlock) ∧ some k_ ≠ (.slice Ao24 t618.length co24 : Value).ownBlock)) (n := t625.length) (c := co34) ?_).2.2; exact (by (with_reducible repeat (first | apply Kd.R_alloc | apply Kd.R_drewN | apply Kd.R_drew)); exact (Kd.R_mono (Kd.R_far (p := ⟨gb629, 2, none⟩) (Kd.R_far (p := ⟨gb629, 1, none⟩) (Kd.R_far (p := ⟨gb629, 0, none⟩) (Kd.R_types HO627.out BK629.out (by decide)) (fun _ hk => hk.2) (.int .i64 t623)) (fun _ hk => hk.2) (.bool t624)) (fun _ hk => hk.2) (.slice Ao34 t625.length co34)) (fun _ h_ => h_.1)))); (case side4 => exact (Kd.R_reads' HO627.out).2.1); rintro e w57 ⟨rfl, hb⟩; refine ⟨_, rfl, ?_⟩; have n0_ := Aside0.mk (Kd.R_below (by (with_reducible repeat (first | apply Kd.R_alloc | apply Kd.R_drewN | apply Kd.R_drew)); exact (Kd.R_mono (Kd.R_far (p := ⟨gb629, 2, none⟩) (Kd.R_far (p := ⟨gb629, 1, none⟩) (Kd.R_far (p := ⟨gb629, 0, none⟩) (Kd.R_types HO614.out BK629.out (by decide)) (fun _ hk => hk.2) (.int .i64 t623)) (fun _ hk => hk.2) (.bool t624)) (fun _ hk => hk.2) (.slice Ao34 t625.length co34)) (fun _ h_ => h_.1))) hb); have n1_ := Aside0.mk (Kd.R_below (by (with_reducible repeat (first | apply Kd.R_alloc | apply Kd.R_drewN | apply Kd.R_drew)); exact (Kd.R_mono (Kd.R_far (p := ⟨gb629, 2, none⟩) (Kd.R_far (p := ⟨gb629, 1, none⟩) (Kd.R_far (p := ⟨gb629, 0, none⟩) (Kd.R_types HO620.out BK629.out (by decide)) (fun _ hk => hk.2) (.int .i64 t623)) (fun _ hk => hk.2) (.bool t624)) (fun _ hk => hk.2) (.slice Ao34 t625.length co34)) (fun _ h_ => h_.1))) hb); have n2_ := Aside0.mk (Kd.R_below (by (with_reducible repeat (first | apply Kd.R_alloc | apply Kd.R_drewN | apply Kd.R_drew)); exact (Kd.R_mono (Kd.R_far (p := ⟨gb629, 2, none⟩) (Kd.R_far (p := ⟨gb629, 1, none⟩) (Kd.R_far (p := ⟨gb629, 0, none⟩) (Kd.R_types HO627.out BK629.out (by decide)) (fun _ hk => hk.2) (.int .i64 t623)) (fun _ hk => hk.2) (.bool t624)) (fun _ hk => hk.2) (.slice Ao34 t625.length co34)) (fun _ h_ => h_.1))) hb); have n3_ := Aside0.mk (blk_below (g := gb598) (o := .cells #[.int .i64 a0_0, .int .i64 a0_1, .int .i64 a0_2, .int .i64 a0_3, .slice A0_4 l0_4.length c0_4, .int .i64 a0_5] 24 (0, 0)) (by (with_reducible repeat (first | refine blk_drewN ?_ _ | refine blk_drew ?_ | refine blk_alloc ?_ _)); refine blk_far ?_ NB598_629.out _; (with_reducible repeat (first | refine blk_drewN ?_ _ | refine blk_drew ?_ | refine blk_alloc ?_ _)); refine blk_far ?_ NB598_629.out _; (with_reducible repeat (first | refine blk_drewN ?_ _ | refine blk_drew ?_ | refine blk_alloc ?_ _)); refine blk_far ?_ NB598_629.out _; (with_reducible repeat (first | refine blk_drewN ?_ _ | refine blk_drew ?_ | refine blk_alloc ?_ _)); exact BK598.out) hb); have n4_ := Aside0.mk (blk_below (g := gb599) (o := .cells #[.int .i64 a1_0, .int .i64 a1_1, .int .i64 a1_2, .int .i64 a1_3, .int .i64 a1_4, .int .i64 a1_5, .int .i64 a1_6, .int .i64 a1_7, .int .i64 a1_8, .int .i64 a1_9, .int .i64 a1_10, .int .i64 a1_11, .slice A1_12 l1_12.length c1_12] 28 (0, 0)) (by (with_reducible repeat (first | refine blk_drewN ?_ _ | refine blk_drew ?_ | refine blk_alloc ?_ _)); refine blk_far ?_ NB599_629.out _; (with_reducible repeat (first | refine blk_drewN ?_ _ | refine blk_drew ?_ | refine blk_alloc ?_ _)); refine blk_far ?_ NB599_629.out _; (with_reducible repeat (first | refine blk_drewN ?_ _ | refine blk_drew ?_ | refine blk_alloc ?_ _)); refine blk_far ?_ NB599_629.out _; (with_reducible repeat (first | refine blk_drewN ?_ _ | refine blk_drew ?_ | refine blk_alloc ?_ _)); exact BK599.out) hb); have n5_ := Aside0.mk (blk_below (g := gb615) (o := .cells #[.int .i64 t600, .int .i64 t601, .int .i64 t602, .int .i64 t603, .int .i64 t604, .int .i64 t605, .int .i64 t606, .int .i64 t607, .int .i64 t608, .int .i64 t609, .int .i64 t610, .int .i64 t611, .slice Ao16 t612.length co16] 28 (0, 0)) (by (with_reducible repeat (first | refine blk_drewN ?_ _ | refine blk_drew ?_ | refine blk_alloc ?_ _)); refine blk_far ?_ NB615_629.out _; (with_reducible repeat (first | refine blk_drewN ?_ _ | refine blk_drew ?_ | refine blk_alloc ?_ _)); refine blk_far ?_ NB615_629.out _; (with_reducible repeat (first | refine blk_drewN ?_ _ | refine blk_drew ?_ | refine blk_alloc ?_ _)); refine blk_far ?_ NB615_629.out _; (with_reducible repeat (first | refine blk_drewN ?_ _ | refine blk_drew ?_ | refine blk_alloc ?_ _)); exact BK615.out) hb); have n6_ := Aside0.mk (blk_below (g := gb622) (o := .cells #[.int .i64 t616, .bool t617, .slice Ao24 t618.length co24] 31 (0, 0)) (by (with_reducible repeat (first | refine blk_drewN ?_ _ | refine blk_drew ?_ | refine blk_alloc ?_ _)); refine blk_far ?_ NB622_629.out _; (with_reducible repeat (first | refine blk_drewN ?_ _ | refine blk_drew ?_ | refine blk_alloc ?_ _)); refine blk_far ?_ NB622_629.out _; (with_reducible repeat (first | refine blk_drewN ?_ _ | refine blk_drew ?_ | refine blk_alloc ?_ _)); refine blk_far ?_ NB622_629.out _; (with_reducible repeat (first | refine blk_drewN ?_ _ | refine blk_drew ?_ | refine blk_alloc ?_ _)); exact BK622.out) hb); have n7_ := Aside0.mk (blk_below (g := gb629) (o := .cells #[.int .i64 t623, .bool t624, .slice Ao34 t625.length co34] 31 (0, 0)) (by (with_reducible repeat (first | refine blk_drewN ?_ _ | refine blk_drew ?_ | refine blk_alloc ?_ _)); refine blk_put (cs := #[.int .i64 t623, .bool t624, .slice none 0 0]) ?_ 2 _ rfl; (with_reducible repeat (first | refine blk_drewN ?_ _ | refine blk_drew ?_ | refine blk_alloc ?_ _)); refine blk_put (cs := #[.int .i64 t623, .bool false, .slice none 0 0]) ?_ 1 _ rfl; (with_reducible repeat (first | refine blk_drewN ?_ _ | refine blk_drew ?_ | refine blk_alloc ?_ _)); refine blk_put (cs := #[.int .i64 0, .bool false, .slice none 0 0]) ?_ 0 _ rfl; (with_reducible repeat (first | refine blk_drewN ?_ _ | refine blk_drew ?_ | refine blk_alloc ?_ _)); exact BK629.out) hb); have n8_ := Aside0.mk (below_step (by repeat (first | (with_reducible first | exact HB.out | apply below_alloc | apply pw_below_drewN | apply below_drew1 | refine below_set ?_ GE598.out | refine below_set ?_ GE599.out | refine below_set ?_ GE615.out | refine below_set ?_ GE622.out | refine below_set ?_ GE629.out) | exact HB.out)) hb); clear HO614; clear HO620; clear HO627; clear BK598; clear BK599; clear BK615; clear BK622; clear BK629; clear HB; have HO614 := n0_; have HO620 := n1_; have HO627 := n2_; have BK598 := n3_; have BK599 := n4_; have BK615 := n5_; have BK622 := n6_; have BK629 := n7_; have HB := n8_; clear n0_ n1_ n2_ n3_ n4_ n5_ n6_ n7_ n8_; (try clear hb); (try clear hb2); (try clear hk); (try clear hi)))
      go_meet
      case rel => exact ⟨_, (true), (by first | rfl | (simp; done) | (simp [*]; done)), H', ⟨by first | omega | exact Nat.le_refl _⟩, ⟨by (with_reducible repeat (first | apply Kd.R_alloc | apply Kd.R_drewN | apply Kd.R_drew)); exact Kd.R_mono HO614.out (fun _ hk => ⟨hk.1.2, hk.2⟩)⟩, ⟨by (with_reducible repeat (first | apply Kd.R_alloc | apply Kd.R_drewN | apply Kd.R_drew)); exact Kd.R_mono HO620.out (fun _ hk => ⟨hk.1.2, hk.2⟩)⟩, ⟨by (with_reducible repeat (first | apply Kd.R_alloc | apply Kd.R_drewN | apply Kd.R_drew)); exact Kd.R_mono HO627.out (fun _ hk => ⟨hk.1.2, hk.2⟩)⟩, ⟨by (with_reducible repeat (first | refine blk_drewN ?_ _ | refine blk_drew ?_ | refine blk_alloc ?_ _)); exact BK598.out⟩, ⟨by (with_reducible repeat (first | refine blk_drewN ?_ _ | refine blk_drew ?_ | refine blk_alloc ?_ _)); exact BK599.out⟩, ⟨by (with_reducible repeat (first | refine blk_drewN ?_ _ | refine blk_drew ?_ | refine blk_alloc ?_ _)); exact BK615.out⟩, ⟨by (with_reducible repeat (first | refine blk_drewN ?_ _ | refine blk_drew ?_ | refine blk_alloc ?_ _)); exact BK622.out⟩, ⟨by (with_reducible repeat (first | refine blk_drewN ?_ _ | refine blk_drew ?_ | refine blk_alloc ?_ _)); exact BK629.out⟩, ⟨by repeat (first | (with_reducible first | exact HB.out | apply below_alloc | apply pw_below_drewN | apply below_drew1 | refine below_set ?_ GE598.out | refine below_set ?_ GE599.out | refine below_set ?_ GE615.out | refine below_set ?_ GE622.out | refine below_set ?_ GE629.out) | exact HB.out)⟩⟩
  case rest =>
    clear HC6
    try clear c1
    try clear c2
    try clear p2
    try clear c3
    try clear c4
    try clear c5
    try clear c9
    try clear c13
    try clear c14
    try clear c16
    try clear c17
    try clear c18
    try clear c19
    try clear c20
    try clear c21
    try clear c22
    try clear c29
    try clear c30
    try clear c31
    try clear c32
    try clear c36
    try clear c38
    try clear c39
    try clear c40
    try clear c41
    try clear c43
    try clear c44
    try clear c45
    try clear c48
    try clear c49
    try clear c50
    try clear c51
    try clear c53
    try clear c54
    try clear c55
    try clear hcz10_0
    try clear hcz10_1
    try clear hcz10_10
    try clear hcz10_11
    try clear hcz10_12
    try clear hcz10_2
    try clear hcz10_3
    try clear hcz10_4
    try clear hcz10_5
    try clear hcz10_6
    try clear hcz10_7
    try clear hcz10_8
    try clear hcz10_9
    try clear hcz15_0
    try clear hcz15_1
    try clear hcz15_10
    try clear hcz15_11
    try clear hcz15_12
    try clear hcz15_2
    try clear hcz15_3
    try clear hcz15_4
    try clear hcz15_5
    try clear hcz15_6
    try clear hcz15_7
    try clear hcz15_8
    try clear hcz15_9
    try clear hcz17_0
    try clear hcz17_1
    try clear hcz17_2
    try clear hcz17_3
    try clear hcz17_4
    try clear hcz17_5
    try clear hcz23_0
    try clear hcz23_1
    try clear hcz23_2
    try clear hcz25_0
    try clear hcz25_1
    try clear hcz25_2
    try clear hcz25_3
    try clear hcz25_4
    try clear hcz25_5
    try clear hcz26_0
    try clear hcz26_1
    try clear hcz26_10
    try clear hcz26_11
    try clear hcz26_12
    try clear hcz26_2
    try clear hcz26_3
    try clear hcz26_4
    try clear hcz26_5
    try clear hcz26_6
    try clear hcz26_7
    try clear hcz26_8
    try clear hcz26_9
    try clear hcz33_0
    try clear hcz33_1
    try clear hcz33_2
    try clear hcz42_0
    try clear hcz42_1
    try clear hcz42_2
    try clear hcz46_0
    try clear hcz46_1
    try clear hcz46_2
    try clear hcz52_0
    try clear hcz52_1
    try clear hcz52_2
    try clear hcz56_0
    try clear hcz56_1
    try clear hcz56_2
    try clear hfz10_0
    try clear hfz10_1
    try clear hfz10_10
    try clear hfz10_11
    try clear hfz10_12
    try clear hfz10_2
    try clear hfz10_3
    try clear hfz10_4
    try clear hfz10_5
    try clear hfz10_6
    try clear hfz10_7
    try clear hfz10_8
    try clear hfz10_9
    try clear hfz15_0
    try clear hfz15_1
    try clear hfz15_10
    try clear hfz15_11
    try clear hfz15_12
    try clear hfz15_2
    try clear hfz15_3
    try clear hfz15_4
    try clear hfz15_5
    try clear hfz15_6
    try clear hfz15_7
    try clear hfz15_8
    try clear hfz15_9
    try clear hfz17_0
    try clear hfz17_1
    try clear hfz17_2
    try clear hfz17_3
    try clear hfz17_4
    try clear hfz17_5
    try clear hfz23_0
    try clear hfz23_1
    try clear hfz23_2
    try clear hfz25_0
    try clear hfz25_1
    try clear hfz25_2
    try clear hfz25_3
    try clear hfz25_4
    try clear hfz25_5
    try clear hfz26_0
    try clear hfz26_1
    try clear hfz26_10
    try clear hfz26_11
    try clear hfz26_12
    try clear hfz26_2
    try clear hfz26_3
    try clear hfz26_4
    try clear hfz26_5
    try clear hfz26_6
    try clear hfz26_7
    try clear hfz26_8
    try clear hfz26_9
    try clear hfz33_0
    try clear hfz33_1
    try clear hfz33_2
    try clear hfz42_0
    try clear hfz42_1
    try clear hfz42_2
    try clear hfz46_0
    try clear hfz46_1
    try clear hfz46_2
    try clear hfz52_0
    try clear hfz52_1
    try clear hfz52_2
    try clear hfz56_0
    try clear hfz56_1
    try clear hfz56_2
    obtain ⟨kq, x33_5, rfl, HA, HJ5, HO_616012, HO_623002, HO_630002, BK598, BK599, BK615, BK622, BK629, HB⟩ := hcut
    cases kq with
    | zero => exact absurd HA.out (by simp [bournelaw2_Lows.j0])
    | succ kj5 =>
      have H := HA.out
      clear HA
      simp only [bournelaw2_Lows.j0] at H
      by_cases c58 : x33_5 = true
      · subst c58
        have H1 : (some false) = some r := by rw [if_pos rfl] at H; exact H
        clear H
        have H := H1
        clear H1
        obtain rfl := Option.some.inj H
        go_wp2
        go_ret
        exact ⟨by first | rfl | (simp [errW_none, errW_some] <;> rfl) | (simp [*, errW_none, errW_some] <;> rfl), by repeat (first | (with_reducible first | exact HB.out | apply below_alloc | apply pw_below_drewN | apply below_drew1 | refine below_set ?_ GE598.out | refine below_set ?_ GE599.out | refine below_set ?_ GE615.out | refine below_set ?_ GE622.out | refine below_set ?_ GE629.out) | exact HB.out)⟩
      · replace c58 := Bool.eq_false_iff.mpr c58
        subst c58
        have H1 : ((bournelaw0_SpoilInts.f kj5 t618).bind fun t632 => ((bournelaw0_SameAcc.f kj5 t600 t601 t602 t603 t604 t605 t606 t607 t608 t609 t610 t611 t612 a1_0 a1_1 a1_2 a1_3 a1_4 a1_5 a1_6 a1_7 a1_8 a1_9 a1_10 a1_11 l1_12).bind fun t633 => (if t633 = true then ((bournelaw2_awake.f).bind fun t634 => (some t634)) else (some false)))) = some r := by rw [if_neg (show ¬ (false = true) by decide)] at H; exact H
        clear H
        have H := H1
        clear H1
        replace H := Option.bind_eq_some_iff.mp H
        obtain ⟨t632, A590, H⟩ := H
        replace H : ((bournelaw0_SameAcc.f kj5 t600 t601 t602 t603 t604 t605 t606 t607 t608 t609 t610 t611 t612 a1_0 a1_1 a1_2 a1_3 a1_4 a1_5 a1_6 a1_7 a1_8 a1_9 a1_10 a1_11 l1_12).bind fun t633 => (if t633 = true then ((bournelaw2_awake.f).bind fun t634 => (some t634)) else (some false))) = some r := H
        have A59 := Aside0.mk A590
        clear A590
        replace H := Option.bind_eq_some_iff.mp H
        obtain ⟨t633, A600, H⟩ := H
        replace H : (if t633 = true then ((bournelaw2_awake.f).bind fun t634 => (some t634)) else (some false)) = some r := H
        have A60 := Aside0.mk A600
        clear A600
        by_cases c61 : t633 = true
        · subst c61
          have H1 : ((bournelaw2_awake.f).bind fun t634 => (some t634)) = some r := by rw [if_pos rfl] at H; exact H
          clear H
          have H := H1
          clear H1
          replace H := Option.bind_eq_some_iff.mp H
          obtain ⟨t634, A620, H⟩ := H
          replace H : (some t634) = some r := H
          have A62 := Aside0.mk A620
          clear A620
          obtain rfl := Option.some.inj H
          have hnb63 := NB622_598.out
          have hnc63 := NB598_622.out
          have hnb64 := NB622_599.out
          have hnc64 := NB599_622.out
          have hnb65 := NB622_615.out
          have hnc65 := NB615_622.out
          have hnb66 := NB622_629.out
          have hnc66 := NB629_622.out
          have hcz67_0 : wc.cell? ⟨gb622, 0, none⟩ = some (.int .i64 t616) := (blk_cell BK622.out 0).trans rfl
          have hcz67_1 : wc.cell? ⟨gb622, 1, none⟩ = some (.bool t617) := (blk_cell BK622.out 1).trans rfl
          have hcz67_2 : wc.cell? ⟨gb622, 2, none⟩ = some (.slice Ao24 t618.length co24) := (blk_cell BK622.out 2).trans rfl
          have hfz67_0 := blk_frozen BK622.out 0
          have hfz67_1 := blk_frozen BK622.out 1
          have hfz67_2 := blk_frozen BK622.out 2
          go_wp2_with (first | ((with_reducible refine gate_callee (f := 21) rfl ?_); refine goesL_ (some 36) rfl rfl Try.func21 (by kernel_rfl) rfl #[.slice Ao24 t618.length co24] rfl (by (try simp only [List.map_toArray, List.map_cons, List.map_nil]); first | done | rfl | (simp only [List.length_drop, List.length_take]; rfl)) ?_; (with_reducible refine (bournelaw0_SpoilInts.calls kj5 (fun k_ => some k_ = (.slice Ao24 t618.length co24 : Value).ownBlock) (.slice Ao24 t618.length co24) t618 t632 w _ ?side1 ?side2 A59.out).mono ?_); (case side1 => repeat (first | (with_reducible first | exact HB.out | apply below_alloc | apply pw_below_drewN | apply below_drew1 | refine below_set ?_ GE598.out | refine below_set ?_ GE599.out | refine below_set ?_ GE615.out | refine below_set ?_ GE622.out | refine below_set ?_ GE629.out) | exact HB.out)); (case side2 => exact Kd.R_tight rfl HO_623002.out); rintro e w68 ⟨rfl, hy0, hb, hkp⟩; refine ⟨_, rfl, ?_⟩; have n0_ := Aside0.mk (Kd.R_mono (ok' := fun k_ => some k_ ≠ (.slice Ao24 t618.length co24 : Value).ownBlock ∧ some k_ ≠ (.slice Ao34 t625.length co34 : Value).ownBlock) (Kd.R_keptB (HO_616012.out) hkp (fun k_ hk_ hs_ => (hk_.1) hs_)) (fun k_ hk_ => ⟨hk_.1.1, hk_.1.2⟩)); have n1_ := Aside0.mk (Kd.R_reok rfl hy0 (fun k_ e_ => HO_623002.out.1 k_ e_)); have n2_ := Aside0.mk (Kd.R_mono (ok' := fun k_ => some k_ ≠ (.slice Ao16 t612.length co16 : Value).ownBlock ∧ some k_ ≠ (.slice Ao24 t618.length co24 : Value).ownBlock) (Kd.R_keptB (HO_630002.out) hkp (fun k_ hk_ hs_ => (hk_.2) hs_)) (fun k_ hk_ => ⟨hk_.1.1, hk_.1.2⟩)); have n3_ := Aside0.mk (blk_kept (by (with_reducible repeat (first | refine blk_drewN ?_ _ | refine blk_drew ?_ | refine blk_alloc ?_ _)); exact BK598.out) hkp (fun hs_ => (fun e_ => (Kd.R_ne HO_623002.out BK598.out (by decide)) e_) hs_)); have n4_ := Aside0.mk (blk_kept (by (with_reducible repeat (first | refine blk_drewN ?_ _ | refine blk_drew ?_ | refine blk_alloc ?_ _)); exact BK599.out) hkp (fun hs_ => (fun e_ => (Kd.R_ne HO_623002.out BK599.out (by decide)) e_) hs_)); have n5_ := Aside0.mk (blk_kept (by (with_reducible repeat (first | refine blk_drewN ?_ _ | refine blk_drew ?_ | refine blk_alloc ?_ _)); exact BK615.out) hkp (fun hs_ => (fun e_ => (Kd.R_ne HO_623002.out BK615.out (by decide)) e_) hs_)); have n6_ := Aside0.mk (blk_kept (by (with_reducible repeat (first | refine blk_drewN ?_ _ | refine blk_drew ?_ | refine blk_alloc ?_ _)); exact BK622.out) hkp (fun hs_ => (fun e_ => (Kd.R_ne HO_623002.out BK622.out (by decide)) e_) hs_)); have n7_ := Aside0.mk (blk_kept (by (with_reducible repeat (first | refine blk_drewN ?_ _ | refine blk_drew ?_ | refine blk_alloc ?_ _)); exact BK629.out) hkp (fun hs_ => (fun e_ => (Kd.R_ne HO_623002.out BK629.out (by decide)) e_) hs_)); have n8_ := Aside0.mk (hb); clear HO_616012; clear HO_623002; clear HO_630002; clear BK598; clear BK599; clear BK615; clear BK622; clear BK629; clear HB; have HO_616012 := n0_; have HO_623002 := n1_; have HO_630002 := n2_; have BK598 := n3_; have BK599 := n4_; have BK615 := n5_; have BK622 := n6_; have BK629 := n7_; have HB := n8_; clear n0_ n1_ n2_ n3_ n4_ n5_ n6_ n7_ n8_; (try clear hb); (try clear hkp); (try clear hy0); have hnb69 := NB615_598.out; have hnc69 := NB598_615.out; have hnb70 := NB615_599.out; have hnc70 := NB599_615.out; have hnb71 := NB615_629.out; have hnc71 := NB629_615.out; have hcz72_0 : w68.cell? ⟨gb615, 0, none⟩ = some (.int .i64 t600) := (blk_cell BK615.out 0).trans rfl; have hcz72_1 : w68.cell? ⟨gb615, 1, none⟩ = some (.int .i64 t601) := (blk_cell BK615.out 1).trans rfl; have hcz72_2 : w68.cell? ⟨gb615, 2, none⟩ = some (.int .i64 t602) := (blk_cell BK615.out 2).trans rfl; have hcz72_3 : w68.cell? ⟨gb615, 3, none⟩ = some (.int .i64 t603) := (blk_cell BK615.out 3).trans rfl; have hcz72_4 : w68.cell? ⟨gb615, 4, none⟩ = some (.int .i64 t604) := (blk_cell BK615.out 4).trans rfl; have hcz72_5 : w68.cell? ⟨gb615, 5, none⟩ = some (.int .i64 t605) := (blk_cell BK615.out 5).trans rfl; have hcz72_6 : w68.cell? ⟨gb615, 6, none⟩ = some (.int .i64 t606) := (blk_cell BK615.out 6).trans rfl; have hcz72_7 : w68.cell? ⟨gb615, 7, none⟩ = some (.int .i64 t607) := (blk_cell BK615.out 7).trans rfl; have hcz72_8 : w68.cell? ⟨gb615, 8, none⟩ = some (.int .i64 t608) := (blk_cell BK615.out 8).trans rfl; have hcz72_9 : w68.cell? ⟨gb615, 9, none⟩ = some (.int .i64 t609) := (blk_cell BK615.out 9).trans rfl; have hcz72_10 : w68.cell? ⟨gb615, 10, none⟩ = some (.int .i64 t610) := (blk_cell BK615.out 10).trans rfl; have hcz72_11 : w68.cell? ⟨gb615, 11, none⟩ = some (.int .i64 t611) := (blk_cell BK615.out 11).trans rfl; have hcz72_12 : w68.cell? ⟨gb615, 12, none⟩ = some (.slice Ao16 t612.length co16) := (blk_cell BK615.out 12).trans rfl; have hfz72_0 := blk_frozen BK615.out 0; have hfz72_1 := blk_frozen BK615.out 1; have hfz72_2 := blk_frozen BK615.out 2; have hfz72_3 := blk_frozen BK615.out 3; have hfz72_4 := blk_frozen BK615.out 4; have hfz72_5 := blk_frozen BK615.out 5; have hfz72_6 := blk_frozen BK615.out 6; have hfz72_7 := blk_frozen BK615.out 7; have hfz72_8 := blk_frozen BK615.out 8; have hfz72_9 := blk_frozen BK615.out 9; have hfz72_10 := blk_frozen BK615.out 10; have hfz72_11 := blk_frozen BK615.out 11; have hfz72_12 := blk_frozen BK615.out 12; have hnb73 := NB599_598.out; have hnc73 := NB598_599.out; have hnb74 := NB599_629.out; have hnc74 := NB629_599.out; have hcz75_0 : w68.cell? ⟨gb599, 0, none⟩ = some (.int .i64 a1_0) := (blk_cell BK599.out 0).trans rfl; have hcz75_1 : w68.cell? ⟨gb599, 1, none⟩ = some (.int .i64 a1_1) := (blk_cell BK599.out 1).trans rfl; have hcz75_2 : w68.cell? ⟨gb599, 2, none⟩ = some (.int .i64 a1_2) := (blk_cell BK599.out 2).trans rfl; have hcz75_3 : w68.cell? ⟨gb599, 3, none⟩ = some (.int .i64 a1_3) := (blk_cell BK599.out 3).trans rfl; have hcz75_4 : w68.cell? ⟨gb599, 4, none⟩ = some (.int .i64 a1_4) := (blk_cell BK599.out 4).trans rfl; have hcz75_5 : w68.cell? ⟨gb599, 5, none⟩ = some (.int .i64 a1_5) := (blk_cell BK599.out 5).trans rfl; have hcz75_6 : w68.cell? ⟨gb599, 6, none⟩ = some (.int .i64 a1_6) := (blk_cell BK599.out 6).trans rfl; have hcz75_7 : w68.cell? ⟨gb599, 7, none⟩ = some (.int .i64 a1_7) := (blk_cell BK599.out 7).trans rfl; have hcz75_8 : w68.cell? ⟨gb599, 8, none⟩ = some (.int .i64 a1_8) := (blk_cell BK599.out 8).trans rfl; have hcz75_9 : w68.cell? ⟨gb599, 9, none⟩ = some (.int .i64 a1_9) := (blk_cell BK599.out 9).trans rfl; have hcz75_10 : w68.cell? ⟨gb599, 10, none⟩ = some (.int .i64 a1_10) := (blk_cell BK599.out 10).trans rfl; have hcz75_11 : w68.cell? ⟨gb599, 11, none⟩ = some (.int .i64 a1_11) := (blk_cell BK599.out 11).trans rfl; have hcz75_12 : w68.cell? ⟨gb599, 12, none⟩ = some (.slice A1_12 l1_12.length c1_12) := (blk_cell BK599.out 12).trans rfl; have hfz75_0 := blk_frozen BK599.out 0; have hfz75_1 := blk_frozen BK599.out 1; have hfz75_2 := blk_frozen BK599.out 2; have hfz75_3 := blk_frozen BK599.out 3; have hfz75_4 := blk_frozen BK599.out 4; have hfz75_5 := blk_frozen BK599.out 5; have hfz75_6 := blk_frozen BK599.out 6; have hfz75_7 := blk_frozen BK599.out 7; have hfz75_8 := blk_frozen BK599.out 8; have hfz75_9 := blk_frozen BK599.out 9; have hfz75_10 := blk_frozen BK599.out 10; have hfz75_11 := blk_frozen BK599.out 11; have hfz75_12 := blk_frozen BK599.out 12) | ((with_reducible refine gate_callee (f := 22) rfl ?_); refine goesL_ (some 39) rfl rfl Try.func22 (by kernel_rfl) rfl #[.agg #[.int .i64 t600, .int .i64 t601, .int .i64 t602, .int .i64 t603, .int .i64 t604, .int .i64 t605, .int .i64 t606, .int .i64 t607, .int .i64 t608, .int .i64 t609, .int .i64 t610, .int .i64 t611, .slice Ao16 t612.length co16], .agg #[.int .i64 a1_0, .int .i64 a1_1, .int .i64 a1_2, .int .i64 a1_3, .int .i64 a1_4, .int .i64 a1_5, .int .i64 a1_6, .int .i64 a1_7, .int .i64 a1_8, .int .i64 a1_9, .int .i64 a1_10, .int .i64 a1_11, .slice A1_12 l1_12.length c1_12]] rfl (by (try simp only [List.map_toArray, List.map_cons, List.map_nil]); first | done | rfl | (simp only [List.length_drop, List.length_take]; rfl)) ?_; (with_reducible refine (bournelaw0_SameAcc.calls kj5 t600 t601 t602 t603 t604 t605 t606 t607 t608 t609 t610 t611 _ _ t612 a1_0 a1_1 a1_2 a1_3 a1_4 a1_5 a1_6 a1_7 a1_8 a1_9 a1_10 a1_11 _ _ l1_12 true _ ?side1 ?side2 ?side3 ?side4 A60.out).mono ?_); (case side1 => repeat (first | exact (Kd.R_reads' HO_616012.out).2.2 | (with_reducible refine Kd.C_alloc ?_ _) | (with_reducible refine Kd.C_drewN ?_ _) | (with_reducible refine Kd.C_drew ?_))); (case side2 => exact (Kd.R_reads' HO_616012.out).2.1); (case side3 => repeat (first | exact (Kd.C_below HR1_12.out HB.out) | (with_reducible refine Kd.C_alloc ?_ _) | (with_reducible refine Kd.C_drewN ?_ _) | (with_reducible refine Kd.C_drew ?_))); (case side4 => exact HC1_12.out); rintro e w76 ⟨rfl, hb⟩; refine ⟨_, rfl, ?_⟩; have n0_ := Aside0.mk (Kd.R_below (by (with_reducible repeat (first | apply Kd.R_alloc | apply Kd.R_drewN | apply Kd.R_drew)); exact HO_616012.out) hb); have n1_ := Aside0.mk (Kd.R_below (by (with_reducible repeat (first | apply Kd.R_alloc | apply Kd.R_drewN | apply Kd.R_drew)); exact HO_623002.out) hb); have n2_ := Aside0.mk (Kd.R_below (by (with_reducible repeat (first | apply Kd.R_alloc | apply Kd.R_drewN | apply Kd.R_drew)); exact HO_630002.out) hb); have n3_ := Aside0.mk (blk_below (g := gb598) (o := .cells #[.int .i64 a0_0, .int .i64 a0_1, .int .i64 a0_2, .int .i64 a0_3, .slice A0_4 l0_4.length c0_4, .int .i64 a0_5] 24 (0, 0)) (by (with_reducible repeat (first | refine blk_drewN ?_ _ | refine blk_drew ?_ | refine blk_alloc ?_ _)); exact BK598.out) hb); have n4_ := Aside0.mk (blk_below (g := gb599) (o := .cells #[.int .i64 a1_0, .int .i64 a1_1, .int .i64 a1_2, .int .i64 a1_3, .int .i64 a1_4, .int .i64 a1_5, .int .i64 a1_6, .int .i64 a1_7, .int .i64 a1_8, .int .i64 a1_9, .int .i64 a1_10, .int .i64 a1_11, .slice A1_12 l1_12.length c1_12] 28 (0, 0)) (by (with_reducible repeat (first | refine blk_drewN ?_ _ | refine blk_drew ?_ | refine blk_alloc ?_ _)); exact BK599.out) hb); have n5_ := Aside0.mk (blk_below (g := gb615) (o := .cells #[.int .i64 t600, .int .i64 t601, .int .i64 t602, .int .i64 t603, .int .i64 t604, .int .i64 t605, .int .i64 t606, .int .i64 t607, .int .i64 t608, .int .i64 t609, .int .i64 t610, .int .i64 t611, .slice Ao16 t612.length co16] 28 (0, 0)) (by (with_reducible repeat (first | refine blk_drewN ?_ _ | refine blk_drew ?_ | refine blk_alloc ?_ _)); exact BK615.out) hb); have n6_ := Aside0.mk (blk_below (g := gb622) (o := .cells #[.int .i64 t616, .bool t617, .slice Ao24 t618.length co24] 31 (0, 0)) (by (with_reducible repeat (first | refine blk_drewN ?_ _ | refine blk_drew ?_ | refine blk_alloc ?_ _)); exact BK622.out) hb); have n7_ := Aside0.mk (blk_below (g := gb629) (o := .cells #[.int .i64 t623, .bool t624, .slice Ao34 t625.length co34] 31 (0, 0)) (by (with_reducible repeat (first | refine blk_drewN ?_ _ | refine blk_drew ?_ | refine blk_alloc ?_ _)); exact BK629.out) hb); have n8_ := Aside0.mk (below_step (by repeat (first | (with_reducible first | exact HB.out | apply below_alloc | apply pw_below_drewN | apply below_drew1 | refine below_set ?_ GE598.out | refine below_set ?_ GE599.out | refine below_set ?_ GE615.out | refine below_set ?_ GE622.out | refine below_set ?_ GE629.out) | exact HB.out)) hb); clear HO_616012; clear HO_623002; clear HO_630002; clear BK598; clear BK599; clear BK615; clear BK622; clear BK629; clear HB; have HO_616012 := n0_; have HO_623002 := n1_; have HO_630002 := n2_; have BK598 := n3_; have BK599 := n4_; have BK615 := n5_; have BK622 := n6_; have BK629 := n7_; have HB := n8_; clear n0_ n1_ n2_ n3_ n4_ n5_ n6_ n7_ n8_; (try clear hb); (try clear hb2); (try clear hk); (try clear hi)) | (go_at_call 23; (with_reducible refine (bournelaw2_awake.calls  t634 _ A62.out).mono ?_); rintro e w77 ⟨rfl, hb⟩; have n0_ := Aside0.mk (Kd.R_below (by (with_reducible repeat (first | apply Kd.R_alloc | apply Kd.R_drewN | apply Kd.R_drew)); exact HO_616012.out) hb); have n1_ := Aside0.mk (Kd.R_below (by (with_reducible repeat (first | apply Kd.R_alloc | apply Kd.R_drewN | apply Kd.R_drew)); exact HO_623002.out) hb); have n2_ := Aside0.mk (Kd.R_below (by (with_reducible repeat (first | apply Kd.R_alloc | apply Kd.R_drewN | apply Kd.R_drew)); exact HO_630002.out) hb); have n3_ := Aside0.mk (blk_below (g := gb598) (o := .cells #[.int .i64 a0_0, .int .i64 a0_1, .int .i64 a0_2, .int .i64 a0_3, .slice A0_4 l0_4.length c0_4, .int .i64 a0_5] 24 (0, 0)) (by (with_reducible repeat (first | refine blk_drewN ?_ _ | refine blk_drew ?_ | refine blk_alloc ?_ _)); exact BK598.out) hb); have n4_ := Aside0.mk (blk_below (g := gb599) (o := .cells #[.int .i64 a1_0, .int .i64 a1_1, .int .i64 a1_2, .int .i64 a1_3, .int .i64 a1_4, .int .i64 a1_5, .int .i64 a1_6, .int .i64 a1_7, .int .i64 a1_8, .int .i64 a1_9, .int .i64 a1_10, .int .i64 a1_11, .slice A1_12 l1_12.length c1_12] 28 (0, 0)) (by (with_reducible repeat (first | refine blk_drewN ?_ _ | refine blk_drew ?_ | refine blk_alloc ?_ _)); exact BK599.out) hb); have n5_ := Aside0.mk (blk_below (g := gb615) (o := .cells #[.int .i64 t600, .int .i64 t601, .int .i64 t602, .int .i64 t603, .int .i64 t604, .int .i64 t605, .int .i64 t606, .int .i64 t607, .int .i64 t608, .int .i64 t609, .int .i64 t610, .int .i64 t611, .slice Ao16 t612.length co16] 28 (0, 0)) (by (with_reducible repeat (first | refine blk_drewN ?_ _ | refine blk_drew ?_ | refine blk_alloc ?_ _)); exact BK615.out) hb); have n6_ := Aside0.mk (blk_below (g := gb622) (o := .cells #[.int .i64 t616, .bool t617, .slice Ao24 t618.length co24] 31 (0, 0)) (by (with_reducible repeat (first | refine blk_drewN ?_ _ | refine blk_drew ?_ | refine blk_alloc ?_ _)); exact BK622.out) hb); have n7_ := Aside0.mk (blk_below (g := gb629) (o := .cells #[.int .i64 t623, .bool t624, .slice Ao34 t625.length co34] 31 (0, 0)) (by (with_reducible repeat (first | refine blk_drewN ?_ _ | refine blk_drew ?_ | refine blk_alloc ?_ _)); exact BK629.out) hb); have n8_ := Aside0.mk (below_step (by repeat (first | (with_reducible first | exact HB.out | apply below_alloc | apply pw_below_drewN | apply below_drew1 | refine below_set ?_ GE598.out | refine below_set ?_ GE599.out | refine below_set ?_ GE615.out | refine below_set ?_ GE622.out | refine below_set ?_ GE629.out) | exact HB.out)) hb); clear HO_616012; clear HO_623002; clear HO_630002; clear BK598; clear BK599; clear BK615; clear BK622; clear BK629; clear HB; have HO_616012 := n0_; have HO_623002 := n1_; have HO_630002 := n2_; have BK598 := n3_; have BK599 := n4_; have BK615 := n5_; have BK622 := n6_; have BK629 := n7_; have HB := n8_; clear n0_ n1_ n2_ n3_ n4_ n5_ n6_ n7_ n8_; (try clear hb); (try clear hb2); (try clear hk); (try clear hi)))
          go_ret
          exact ⟨by first | rfl | (simp [errW_none, errW_some] <;> rfl) | (simp [*, errW_none, errW_some] <;> rfl), by repeat (first | (with_reducible first | exact HB.out | apply below_alloc | apply pw_below_drewN | apply below_drew1 | refine below_set ?_ GE598.out | refine below_set ?_ GE599.out | refine below_set ?_ GE615.out | refine below_set ?_ GE622.out | refine below_set ?_ GE629.out) | exact HB.out)⟩
        · replace c61 := Bool.eq_false_iff.mpr c61
          subst c61
          have H1 : (some false) = some r := by rw [if_neg (show ¬ (false = true) by decide)] at H; exact H
          clear H
          have H := H1
          clear H1
          obtain rfl := Option.some.inj H
          have hnb78 := NB622_598.out
          have hnc78 := NB598_622.out
          have hnb79 := NB622_599.out
          have hnc79 := NB599_622.out
          have hnb80 := NB622_615.out
          have hnc80 := NB615_622.out
          have hnb81 := NB622_629.out
          have hnc81 := NB629_622.out
          have hcz82_0 : wc.cell? ⟨gb622, 0, none⟩ = some (.int .i64 t616) := (blk_cell BK622.out 0).trans rfl
          have hcz82_1 : wc.cell? ⟨gb622, 1, none⟩ = some (.bool t617) := (blk_cell BK622.out 1).trans rfl
          have hcz82_2 : wc.cell? ⟨gb622, 2, none⟩ = some (.slice Ao24 t618.length co24) := (blk_cell BK622.out 2).trans rfl
          have hfz82_0 := blk_frozen BK622.out 0
          have hfz82_1 := blk_frozen BK622.out 1
          have hfz82_2 := blk_frozen BK622.out 2
          go_wp2_with (first | ((with_reducible refine gate_callee (f := 21) rfl ?_); refine goesL_ (some 36) rfl rfl Try.func21 (by kernel_rfl) rfl #[.slice Ao24 t618.length co24] rfl (by (try simp only [List.map_toArray, List.map_cons, List.map_nil]); first | done | rfl | (simp only [List.length_drop, List.length_take]; rfl)) ?_; (with_reducible refine (bournelaw0_SpoilInts.calls kj5 (fun k_ => some k_ = (.slice Ao24 t618.length co24 : Value).ownBlock) (.slice Ao24 t618.length co24) t618 t632 w _ ?side1 ?side2 A59.out).mono ?_); (case side1 => repeat (first | (with_reducible first | exact HB.out | apply below_alloc | apply pw_below_drewN | apply below_drew1 | refine below_set ?_ GE598.out | refine below_set ?_ GE599.out | refine below_set ?_ GE615.out | refine below_set ?_ GE622.out | refine below_set ?_ GE629.out) | exact HB.out)); (case side2 => exact Kd.R_tight rfl HO_623002.out); rintro e w83 ⟨rfl, hy0, hb, hkp⟩; refine ⟨_, rfl, ?_⟩; have n0_ := Aside0.mk (Kd.R_mono (ok' := fun k_ => some k_ ≠ (.slice Ao24 t618.length co24 : Value).ownBlock ∧ some k_ ≠ (.slice Ao34 t625.length co34 : Value).ownBlock) (Kd.R_keptB (HO_616012.out) hkp (fun k_ hk_ hs_ => (hk_.1) hs_)) (fun k_ hk_ => ⟨hk_.1.1, hk_.1.2⟩)); have n1_ := Aside0.mk (Kd.R_reok rfl hy0 (fun k_ e_ => HO_623002.out.1 k_ e_)); have n2_ := Aside0.mk (Kd.R_mono (ok' := fun k_ => some k_ ≠ (.slice Ao16 t612.length co16 : Value).ownBlock ∧ some k_ ≠ (.slice Ao24 t618.length co24 : Value).ownBlock) (Kd.R_keptB (HO_630002.out) hkp (fun k_ hk_ hs_ => (hk_.2) hs_)) (fun k_ hk_ => ⟨hk_.1.1, hk_.1.2⟩)); have n3_ := Aside0.mk (blk_kept (by (with_reducible repeat (first | refine blk_drewN ?_ _ | refine blk_drew ?_ | refine blk_alloc ?_ _)); exact BK598.out) hkp (fun hs_ => (fun e_ => (Kd.R_ne HO_623002.out BK598.out (by decide)) e_) hs_)); have n4_ := Aside0.mk (blk_kept (by (with_reducible repeat (first | refine blk_drewN ?_ _ | refine blk_drew ?_ | refine blk_alloc ?_ _)); exact BK599.out) hkp (fun hs_ => (fun e_ => (Kd.R_ne HO_623002.out BK599.out (by decide)) e_) hs_)); have n5_ := Aside0.mk (blk_kept (by (with_reducible repeat (first | refine blk_drewN ?_ _ | refine blk_drew ?_ | refine blk_alloc ?_ _)); exact BK615.out) hkp (fun hs_ => (fun e_ => (Kd.R_ne HO_623002.out BK615.out (by decide)) e_) hs_)); have n6_ := Aside0.mk (blk_kept (by (with_reducible repeat (first | refine blk_drewN ?_ _ | refine blk_drew ?_ | refine blk_alloc ?_ _)); exact BK622.out) hkp (fun hs_ => (fun e_ => (Kd.R_ne HO_623002.out BK622.out (by decide)) e_) hs_)); have n7_ := Aside0.mk (blk_kept (by (with_reducible repeat (first | refine blk_drewN ?_ _ | refine blk_drew ?_ | refine blk_alloc ?_ _)); exact BK629.out) hkp (fun hs_ => (fun e_ => (Kd.R_ne HO_623002.out BK629.out (by decide)) e_) hs_)); have n8_ := Aside0.mk (hb); clear HO_616012; clear HO_623002; clear HO_630002; clear BK598; clear BK599; clear BK615; clear BK622; clear BK629; clear HB; have HO_616012 := n0_; have HO_623002 := n1_; have HO_630002 := n2_; have BK598 := n3_; have BK599 := n4_; have BK615 := n5_; have BK622 := n6_; have BK629 := n7_; have HB := n8_; clear n0_ n1_ n2_ n3_ n4_ n5_ n6_ n7_ n8_; (try clear hb); (try clear hkp); (try clear hy0); have hnb84 := NB615_598.out; have hnc84 := NB598_615.out; have hnb85 := NB615_599.out; have hnc85 := NB599_615.out; have hnb86 := NB615_629.out; have hnc86 := NB629_615.out; have hcz87_0 : w83.cell? ⟨gb615, 0, none⟩ = some (.int .i64 t600) := (blk_cell BK615.out 0).trans rfl; have hcz87_1 : w83.cell? ⟨gb615, 1, none⟩ = some (.int .i64 t601) := (blk_cell BK615.out 1).trans rfl; have hcz87_2 : w83.cell? ⟨gb615, 2, none⟩ = some (.int .i64 t602) := (blk_cell BK615.out 2).trans rfl; have hcz87_3 : w83.cell? ⟨gb615, 3, none⟩ = some (.int .i64 t603) := (blk_cell BK615.out 3).trans rfl; have hcz87_4 : w83.cell? ⟨gb615, 4, none⟩ = some (.int .i64 t604) := (blk_cell BK615.out 4).trans rfl; have hcz87_5 : w83.cell? ⟨gb615, 5, none⟩ = some (.int .i64 t605) := (blk_cell BK615.out 5).trans rfl; have hcz87_6 : w83.cell? ⟨gb615, 6, none⟩ = some (.int .i64 t606) := (blk_cell BK615.out 6).trans rfl; have hcz87_7 : w83.cell? ⟨gb615, 7, none⟩ = some (.int .i64 t607) := (blk_cell BK615.out 7).trans rfl; have hcz87_8 : w83.cell? ⟨gb615, 8, none⟩ = some (.int .i64 t608) := (blk_cell BK615.out 8).trans rfl; have hcz87_9 : w83.cell? ⟨gb615, 9, none⟩ = some (.int .i64 t609) := (blk_cell BK615.out 9).trans rfl; have hcz87_10 : w83.cell? ⟨gb615, 10, none⟩ = some (.int .i64 t610) := (blk_cell BK615.out 10).trans rfl; have hcz87_11 : w83.cell? ⟨gb615, 11, none⟩ = some (.int .i64 t611) := (blk_cell BK615.out 11).trans rfl; have hcz87_12 : w83.cell? ⟨gb615, 12, none⟩ = some (.slice Ao16 t612.length co16) := (blk_cell BK615.out 12).trans rfl; have hfz87_0 := blk_frozen BK615.out 0; have hfz87_1 := blk_frozen BK615.out 1; have hfz87_2 := blk_frozen BK615.out 2; have hfz87_3 := blk_frozen BK615.out 3; have hfz87_4 := blk_frozen BK615.out 4; have hfz87_5 := blk_frozen BK615.out 5; have hfz87_6 := blk_frozen BK615.out 6; have hfz87_7 := blk_frozen BK615.out 7; have hfz87_8 := blk_frozen BK615.out 8; have hfz87_9 := blk_frozen BK615.out 9; have hfz87_10 := blk_frozen BK615.out 10; have hfz87_11 := blk_frozen BK615.out 11; have hfz87_12 := blk_frozen BK615.out 12; have hnb88 := NB599_598.out; have hnc88 := NB598_599.out; have hnb89 := NB599_629.out; have hnc89 := NB629_599.out; have hcz90_0 : w83.cell? ⟨gb599, 0, none⟩ = some (.int .i64 a1_0) := (blk_cell BK599.out 0).trans rfl; have hcz90_1 : w83.cell? ⟨gb599, 1, none⟩ = some (.int .i64 a1_1) := (blk_cell BK599.out 1).trans rfl; have hcz90_2 : w83.cell? ⟨gb599, 2, none⟩ = some (.int .i64 a1_2) := (blk_cell BK599.out 2).trans rfl; have hcz90_3 : w83.cell? ⟨gb599, 3, none⟩ = some (.int .i64 a1_3) := (blk_cell BK599.out 3).trans rfl; have hcz90_4 : w83.cell? ⟨gb599, 4, none⟩ = some (.int .i64 a1_4) := (blk_cell BK599.out 4).trans rfl; have hcz90_5 : w83.cell? ⟨gb599, 5, none⟩ = some (.int .i64 a1_5) := (blk_cell BK599.out 5).trans rfl; have hcz90_6 : w83.cell? ⟨gb599, 6, none⟩ = some (.int .i64 a1_6) := (blk_cell BK599.out 6).trans rfl; have hcz90_7 : w83.cell? ⟨gb599, 7, none⟩ = some (.int .i64 a1_7) := (blk_cell BK599.out 7).trans rfl; have hcz90_8 : w83.cell? ⟨gb599, 8, none⟩ = some (.int .i64 a1_8) := (blk_cell BK599.out 8).trans rfl; have hcz90_9 : w83.cell? ⟨gb599, 9, none⟩ = some (.int .i64 a1_9) := (blk_cell BK599.out 9).trans rfl; have hcz90_10 : w83.cell? ⟨gb599, 10, none⟩ = some (.int .i64 a1_10) := (blk_cell BK599.out 10).trans rfl; have hcz90_11 : w83.cell? ⟨gb599, 11, none⟩ = some (.int .i64 a1_11) := (blk_cell BK599.out 11).trans rfl; have hcz90_12 : w83.cell? ⟨gb599, 12, none⟩ = some (.slice A1_12 l1_12.length c1_12) := (blk_cell BK599.out 12).trans rfl; have hfz90_0 := blk_frozen BK599.out 0; have hfz90_1 := blk_frozen BK599.out 1; have hfz90_2 := blk_frozen BK599.out 2; have hfz90_3 := blk_frozen BK599.out 3; have hfz90_4 := blk_frozen BK599.out 4; have hfz90_5 := blk_frozen BK599.out 5; have hfz90_6 := blk_frozen BK599.out 6; have hfz90_7 := blk_frozen BK599.out 7; have hfz90_8 := blk_frozen BK599.out 8; have hfz90_9 := blk_frozen BK599.out 9; have hfz90_10 := blk_frozen BK599.out 10; have hfz90_11 := blk_frozen BK599.out 11; have hfz90_12 := blk_frozen BK599.out 12) | ((with_reducible refine gate_callee (f := 22) rfl ?_); refine goesL_ (some 39) rfl rfl Try.func22 (by kernel_rfl) rfl #[.agg #[.int .i64 t600, .int .i64 t601, .int .i64 t602, .int .i64 t603, .int .i64 t604, .int .i64 t605, .int .i64 t606, .int .i64 t607, .int .i64 t608, .int .i64 t609, .int .i64 t610, .int .i64 t611, .slice Ao16 t612.length co16], .agg #[.int .i64 a1_0, .int .i64 a1_1, .int .i64 a1_2, .int .i64 a1_3, .int .i64 a1_4, .int .i64 a1_5, .int .i64 a1_6, .int .i64 a1_7, .int .i64 a1_8, .int .i64 a1_9, .int .i64 a1_10, .int .i64 a1_11, .slice A1_12 l1_12.length c1_12]] rfl (by (try simp only [List.map_toArray, List.map_cons, List.map_nil]); first | done | rfl | (simp only [List.length_drop, List.length_take]; rfl)) ?_; (with_reducible refine (bournelaw0_SameAcc.calls kj5 t600 t601 t602 t603 t604 t605 t606 t607 t608 t609 t610 t611 _ _ t612 a1_0 a1_1 a1_2 a1_3 a1_4 a1_5 a1_6 a1_7 a1_8 a1_9 a1_10 a1_11 _ _ l1_12 false _ ?side1 ?side2 ?side3 ?side4 A60.out).mono ?_); (case side1 => repeat (first | exact (Kd.R_reads' HO_616012.out).2.2 | (with_reducible refine Kd.C_alloc ?_ _) | (with_reducible refine Kd.C_drewN ?_ _) | (with_reducible refine Kd.C_drew ?_))); (case side2 => exact (Kd.R_reads' HO_616012.out).2.1); (case side3 => repeat (first | exact (Kd.C_below HR1_12.out HB.out) | (with_reducible refine Kd.C_alloc ?_ _) | (with_reducible refine Kd.C_drewN ?_ _) | (with_reducible refine Kd.C_drew ?_))); (case side4 => exact HC1_12.out); rintro e w91 ⟨rfl, hb⟩; refine ⟨_, rfl, ?_⟩; have n0_ := Aside0.mk (Kd.R_below (by (with_reducible repeat (first | apply Kd.R_alloc | apply Kd.R_drewN | apply Kd.R_drew)); exact HO_616012.out) hb); have n1_ := Aside0.mk (Kd.R_below (by (with_reducible repeat (first | apply Kd.R_alloc | apply Kd.R_drewN | apply Kd.R_drew)); exact HO_623002.out) hb); have n2_ := Aside0.mk (Kd.R_below (by (with_reducible repeat (first | apply Kd.R_alloc | apply Kd.R_drewN | apply Kd.R_drew)); exact HO_630002.out) hb); have n3_ := Aside0.mk (blk_below (g := gb598) (o := .cells #[.int .i64 a0_0, .int .i64 a0_1, .int .i64 a0_2, .int .i64 a0_3, .slice A0_4 l0_4.length c0_4, .int .i64 a0_5] 24 (0, 0)) (by (with_reducible repeat (first | refine blk_drewN ?_ _ | refine blk_drew ?_ | refine blk_alloc ?_ _)); exact BK598.out) hb); have n4_ := Aside0.mk (blk_below (g := gb599) (o := .cells #[.int .i64 a1_0, .int .i64 a1_1, .int .i64 a1_2, .int .i64 a1_3, .int .i64 a1_4, .int .i64 a1_5, .int .i64 a1_6, .int .i64 a1_7, .int .i64 a1_8, .int .i64 a1_9, .int .i64 a1_10, .int .i64 a1_11, .slice A1_12 l1_12.length c1_12] 28 (0, 0)) (by (with_reducible repeat (first | refine blk_drewN ?_ _ | refine blk_drew ?_ | refine blk_alloc ?_ _)); exact BK599.out) hb); have n5_ := Aside0.mk (blk_below (g := gb615) (o := .cells #[.int .i64 t600, .int .i64 t601, .int .i64 t602, .int .i64 t603, .int .i64 t604, .int .i64 t605, .int .i64 t606, .int .i64 t607, .int .i64 t608, .int .i64 t609, .int .i64 t610, .int .i64 t611, .slice Ao16 t612.length co16] 28 (0, 0)) (by (with_reducible repeat (first | refine blk_drewN ?_ _ | refine blk_drew ?_ | refine blk_alloc ?_ _)); exact BK615.out) hb); have n6_ := Aside0.mk (blk_below (g := gb622) (o := .cells #[.int .i64 t616, .bool t617, .slice Ao24 t618.length co24] 31 (0, 0)) (by (with_reducible repeat (first | refine blk_drewN ?_ _ | refine blk_drew ?_ | refine blk_alloc ?_ _)); exact BK622.out) hb); have n7_ := Aside0.mk (blk_below (g := gb629) (o := .cells #[.int .i64 t623, .bool t624, .slice Ao34 t625.length co34] 31 (0, 0)) (by (with_reducible repeat (first | refine blk_drewN ?_ _ | refine blk_drew ?_ | refine blk_alloc ?_ _)); exact BK629.out) hb); have n8_ := Aside0.mk (below_step (by repeat (first | (with_reducible first | exact HB.out | apply below_alloc | apply pw_below_drewN | apply below_drew1 | refine below_set ?_ GE598.out | refine below_set ?_ GE599.out | refine below_set ?_ GE615.out | refine below_set ?_ GE622.out | refine below_set ?_ GE629.out) | exact HB.out)) hb); clear HO_616012; clear HO_623002; clear HO_630002; clear BK598; clear BK599; clear BK615; clear BK622; clear BK629; clear HB; have HO_616012 := n0_; have HO_623002 := n1_; have HO_630002 := n2_; have BK598 := n3_; have BK599 := n4_; have BK615 := n5_; have BK622 := n6_; have BK629 := n7_; have HB := n8_; clear n0_ n1_ n2_ n3_ n4_ n5_ n6_ n7_ n8_; (try clear hb); (try clear hb2); (try clear hk); (try clear hi)))
          go_ret
          exact ⟨by first | rfl | (simp [errW_none, errW_some] <;> rfl) | (simp [*, errW_none, errW_some] <;> rfl), by repeat (first | (with_reducible first | exact HB.out | apply below_alloc | apply pw_below_drewN | apply below_drew1 | refine below_set ?_ GE598.out | refine below_set ?_ GE599.out | refine below_set ?_ GE615.out | refine below_set ?_ GE622.out | refine below_set ?_ GE629.out) | exact HB.out)⟩

end Go.Proofs.Ytggaefklcpbfnaa.Pa

namespace Go.Proofs.Ytggaefklcpbfnaa.My
open Go.RowKit Pa Go.Proofs.YtggaefklcpbfnaaW.PrintWords

structure May1 (bs : List Int) (a : S28) : Prop where
  bm : bmay bs = true
  len : a.f6.length = bs.length + 1
  hn : ∀ x ∈ a.f6, 0 ≤ x
  hs : a.f6.sum = a.f0
  c : 1 ≤ a.f0 ∧ a.f0 ≤ 8192
  m2 : wm a.f2 = true
  m3 : wm a.f3 = true
  m : a.f2 ≤ a.f3
  i4 : imay a.f4 = true
  i5 : imay a.f5 = true
  v4 : a.f2 ≤ a.f4.f3 ∧ a.f4.f3 ≤ a.f3
  v5 : a.f2 ≤ a.f5.f3 ∧ a.f5.f3 ≤ a.f3
  ser : a.f4.f0 = a.f5.f0
  o : ord a.f4 a.f5 ≤ 0
  s1 : a.f0 * a.f2 ≤ a.f1
  s2 : a.f1 ≤ a.f0 * a.f3
theorem sum_le_mem {h : List Int} (ha : ∀ x ∈ h, 0 ≤ x) : ∀ x ∈ h, x ≤ h.sum := by
  induction h with
  | nil => simp
  | cons y r ih =>
    intro x hx
    have h0 : 0 ≤ r.sum := by
      clear ih hx
      induction r with
      | nil => simp
      | cons z r ih2 =>
        have := ih2 (fun q hq => ha q (by simp at hq ⊢; rcases hq with h | h <;> simp [h]))
        have := ha z (by simp)
        simp only [List.sum_cons]
        omega
    have h1 := ha y (by simp)
    rw [List.sum_cons]
    rcases List.mem_cons.1 hx with rfl | h
    · omega
    · have := ih (fun z hz => ha z (by simp [hz])) x h
      omega
theorem May1.amay {bs : List Int} {a : S28} (h : May1 bs a) : amay a bs = true := by
  have hc := h.c
  have hh : hmay a.f6 bs.length a.f0 = true := by
    unfold hmay
    rw [decide_eq_true h.len, decide_eq_true h.hs]
    have : a.f6.all nok = true := by
      rw [List.all_eq_true]
      intro x hx
      unfold nok
      rw [decide_eq_true_eq]
      have h1 := h.hn x hx
      have h2 := sum_le_mem h.hn x hx
      have h3 := h.hs
      omega
    rw [this]
    rfl
  have he : emay a = true := by
    unfold emay iok
    rw [h.i4, h.i5, decide_eq_true h.v4.1, decide_eq_true h.v4.2, decide_eq_true h.v5.1, decide_eq_true h.v5.2, decide_eq_true h.ser, decide_eq_true h.o]
    rfl
  unfold My.amay
  rw [h.bm, hh, he, h.m2, h.m3, decide_eq_true h.m, decide_eq_true h.s1, decide_eq_true h.s2, if_neg (by omega), decide_eq_true (show a.f6.length ≤ bs.length + 1 by have := h.len; omega), decide_eq_true (show 0 ≤ a.f0 by omega), decide_eq_true hc.2]
  rfl
theorem May1.ok {bs : List Int} {a b : S28} (ha : May1 bs a) (hb : May1 bs b) : TwoOk a b := by
  have ca := ha.c
  have cb := hb.c
  have fa := amay_fit ha.amay
  have fb := amay_fit hb.amay
  have la := fa.s
  have lb := fb.s
  have h8 := bmay_len ha.bm
  have l1 := ha.len
  have l2 := hb.len
  refine ⟨by omega, by omega, by omega, by omega, by omega, by omega, fun i hi => ?_, fun i hi => ?_⟩
  · have := fa.h i hi
    omega
  · have := fb.h i (by omega)
    omega
end Go.Proofs.Ytggaefklcpbfnaa.My

namespace Go.Proofs.Ytggaefklcpbfnaa.My
open Go.RowKit Pa Go.Proofs.YtggaefklcpbfnaaW.PrintWords

def z0 (bs : List Int) : S28 := ⟨0, 0, 0, 0, z26, z26, List.replicate (bs.length + 1) 0⟩
def cntB (bs : List Int) (xs : List S26) (j : Nat) : Int := (xs.map (fun x => if bucket bs x.f3 = j then (1 : Int) else 0)).sum
structure Sp (bs : List Int) (xs : List S26) (a : S28) : Prop where
  may : May1 bs a
  c : a.f0 = xs.length
  s : a.f1 = (xs.map (·.f3)).sum
  f : xs.head? = some a.f4
  l : xs.getLast? = some a.f5
  n1 : ∀ x ∈ xs, a.f2 ≤ x.f3
  n2 : ∃ x ∈ xs, x.f3 = a.f2
  m1 : ∀ x ∈ xs, x.f3 ≤ a.f3
  m2 : ∃ x ∈ xs, x.f3 = a.f3
  h : ∀ j, j ≤ bs.length → a.f6.getD j 0 = cntB bs xs j
structure Row (s : Int) (xs : List S26) : Prop where
  im : ∀ x ∈ xs, imay x = true
  ser : ∀ x ∈ xs, x.f0 = s
  asc : xs.Pairwise (fun y x => ord y x ≤ 0)
  n : xs.length ≤ 8192
theorem Row.take {s : Int} {xs : List S26} (h : Row s xs) (k : Nat) : Row s (xs.take k) :=
  ⟨fun x hx => h.im x (List.mem_of_mem_take hx), fun x hx => h.ser x (List.mem_of_mem_take hx), h.asc.sublist (List.take_sublist k xs), by have := h.n; rw [List.length_take]; omega⟩
theorem Sp.bound {bs : List Int} {xs : List S26} {a : S28} (h : Sp bs xs a) : Fit bs a := amay_fit h.may.amay
end Go.Proofs.Ytggaefklcpbfnaa.My

namespace Go.Proofs.Ytggaefklcpbfnaa.My
open Go.RowKit Pa Go.Proofs.YtggaefklcpbfnaaW.PrintWords

end Go.Proofs.Ytggaefklcpbfnaa.My

namespace Go.Proofs.Ytggaefklcpbfnaa.My
open Go.RowKit Pa Go.Proofs.YtggaefklcpbfnaaW.PrintWords Go.Proofs.YtggaefklcpbfnaaW.PrintLast Go.Proofs.YtggaefklcpbfnaaW.PrintMore

theorem sameI_loop (l : List Int) (hl : l.length ≤ 17592186044415) : ∀ n i k, i + n = l.length → n < k → bournelaw0_SameInts.l0 k l l i = some true
  | 0, i, 0, _, hk => absurd hk (by omega)
  | 0, i, k + 1, h, _ => by
    unfold bournelaw0_SameInts.l0
    rw [if_neg (by omega)]
  | n + 1, i, 0, _, hk => absurd hk (by omega)
  | n + 1, i, k + 1, h, hk => by
    have ih := sameI_loop l hl n (i + 1) k (by omega) (by omega)
    unfold bournelaw0_SameInts.l0
    rw [if_pos (by omega), if_pos (by omega), if_pos (by omega), if_pos rfl, wrap_up (by omega), ih]
theorem sameI_f (l : List Int) (hl : l.length ≤ 17592186044415) {k : Nat} (hk : l.length < k) : bournelaw0_SameInts.f k l l = some true := by
  unfold bournelaw0_SameInts.f
  have h := sameI_loop l hl l.length 0 k (by omega) hk
  simp only [Int.natCast_zero] at h
  simp [h]
theorem sameOut_f (v : Int) (o : Bool) (l : List Int) (hl : l.length ≤ 17592186044415) {k : Nat} (hk : l.length < k) : bournelaw0_SameOut.f k v o l v o l = some true := by
  unfold bournelaw0_SameOut.f
  rw [sameI_f l hl hk]
  simp
theorem Sp.over {bs : List Int} {xs : List S26} {a : S28} (h : Sp bs xs a) (hn : xs.length ≤ 1000) : sumOver a.f1 = false := by
  have h1 := h.bound.s
  have h2 := h.c
  unfold sumOver
  rw [decide_eq_false (by omega), decide_eq_false (by omega)]
  rfl
end Go.Proofs.Ytggaefklcpbfnaa.My

namespace Go.Proofs.Ytggaefklcpbfnaa.My
open Go.RowKit Pa Go.Proofs.YtggaefklcpbfnaaW.PrintWords

end Go.Proofs.Ytggaefklcpbfnaa.My

namespace Go.Proofs.Ytggaefklcpbfnaa.My
open Go.RowKit Pa Go.Proofs.YtggaefklcpbfnaaW.PrintWords
attribute [local go_sem high] eqA26

end Go.Proofs.Ytggaefklcpbfnaa.My

namespace Go.Proofs.Ytggaefklcpbfnaa.My
open Go.RowKit Pa Go.Proofs.YtggaefklcpbfnaaW.PrintWords
attribute [local go_sem high] eqA26

end Go.Proofs.Ytggaefklcpbfnaa.My

namespace Go.Proofs.Ytggaefklcpbfnaa.My
open Go.RowKit Pa Go.Proofs.YtggaefklcpbfnaaW.PrintWords

theorem same_f (a : S28) (hl : a.f6.length ≤ 17592186044415) : bournelaw0_SameAcc.f (a.f6.length + 1) a.f0 a.f1 a.f2 a.f3 a.f4.f0 a.f4.f1 a.f4.f2 a.f4.f3 a.f5.f0 a.f5.f1 a.f5.f2 a.f5.f3 a.f6 a.f0 a.f1 a.f2 a.f3 a.f4.f0 a.f4.f1 a.f4.f2 a.f4.f3 a.f5.f0 a.f5.f1 a.f5.f2 a.f5.f3 a.f6 = some true := by
  unfold bournelaw0_SameAcc.f bournelaw0_SameInts.f
  have h := same_loop a.f6 hl a.f6.length 0 (a.f6.length + 1) (by omega) (by omega)
  simp only [Int.natCast_zero] at h
  simp [h]
end Go.Proofs.Ytggaefklcpbfnaa.My
