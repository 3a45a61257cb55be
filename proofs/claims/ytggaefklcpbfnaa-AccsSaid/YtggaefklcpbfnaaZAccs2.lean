/- Lemmas, contracts of functions and plain laws, part 2: what the row's proof uses. No statement of the seed is proved here. -/
import Derived.Test.YtggaefklcpbfnaaZAccs1
import Derived.Test.YtggaefklcpbfnaaWMore
import Derived.Test.YtggaefklcpbfnaaPaBefore
import Derived.Test.YtggaefklcpbfnaaPaBourneref1histMay
import Derived.Test.YtggaefklcpbfnaaPaRLeaf
import Derived.Test.YtggaefklcpbfnaaPaBourneref1copyAcc
import Derived.Test.YtggaefklcpbfnaaPaInts
import Derived.Test.YtggaefklcpbfnaaPaBournelaw0SameAccs
import Derived.SizedLaws
import Derived.Lib.SmallJoins
import Derived.Deep.Slices
/-! AccK -/
namespace Go.Proofs.Ytggaefklcpbfnaa.My
open Go.RowKit Pa Go.Proofs.YtggaefklcpbfnaaW.PrintWords

set_option linter.unusedSimpArgs false

set_option maxHeartbeats 8000000 in
set_option maxRecDepth 100000 in
theorem awake_any (w : World) : Calls Try.prog 36 #[] w fun e w' => e = .returned (.bool true) ∧ Below w.heap.size w w' := by
  have hb : Below w.heap.size w (w.alloc (.cells #[.int .i64 0, .int .i64 5] 3)) := (Below.refl w.heap.size w).alloc (Nat.le_refl _) _
  have hrb : RdI (w.alloc (.cells #[.int .i64 0, .int .i64 5] 3)) (some ⟨w.heap.size, 0, none⟩) [0, 5] := rdI_blk (heap_alloc_new w (.cells #[.int .i64 0, .int .i64 5] 3)) (by decide)
  have HW := Lib.hid hb
  have RB := Lib.hid hrb
  clear hb hrb
  go_enter Try.func36, Try.ntmps36
  go_wp2_with fail
  generalize w.alloc (.cells #[.int .i64 0, .int .i64 5] 3) = w0 at *
  obtain ⟨bb, hbb⟩ : ∃ bb, w.heap.size = bb := ⟨_, rfl⟩
  rw [hbb] at RB ⊢
  clear hbb
  refine (item_any 1 4 (2) (5) _).mono ?_
  rintro e w1 ⟨rfl, hb⟩
  replace HW := Lib.hid (HW.out.trans (hb.mono HW.out.size))
  replace RB := Lib.hid (Kd.C_below RB.out hb)
  clear hb
  go_wp2_with fail
  refine (one_any ⟨1, 4, 2, 5⟩ [0, 5] (some ⟨bb, 0, none⟩) 2 _ RB.out (by decide)).mono ?_
  rintro e w2 ⟨v, rfl, how, hb⟩
  replace HW := Lib.hid (HW.out.trans (hb.mono HW.out.size))
  replace RB := Lib.hid (Kd.C_below RB.out hb)
  clear hb
  rw [show oneRes ⟨1, 4, 2, 5⟩ [0, 5] = ((⟨1, 5, 5, 5, ⟨1, 4, 2, 5⟩, ⟨1, 4, 2, 5⟩, [0, 1, 0]⟩ : S28), (0 : Int)) from by kernel_rfl] at how ⊢
  obtain ⟨Ax, cx, rfl, hl, hr⟩ := how.reads
  simp only [acV, List.length_cons, List.length_nil, Nat.zero_add, Nat.reduceAdd]
  clear how
  have Vx := Lib.hid (AVar.new (w := w2) (a := ⟨1, 5, 5, 5, ⟨1, 4, 2, 5⟩, ⟨1, 4, 2, 5⟩, [0, 1, 0]⟩) hl hr)
  have hb : Below w2.heap.size w2 (w2.alloc (acO ⟨1, 5, 5, 5, ⟨1, 4, 2, 5⟩, ⟨1, 4, 2, 5⟩, [0, 1, 0]⟩ (.slice Ax 3 cx))) := (Below.refl _ _).alloc (Nat.le_refl _) _
  clear hl hr
  replace HW := Lib.hid (HW.out.trans (hb.mono HW.out.size))
  replace RB := Lib.hid (Kd.C_below RB.out hb)
  clear hb
  go_wp2_with fail
  show Calls _ _ _ (w2.alloc (acO ⟨1, 5, 5, 5, ⟨1, 4, 2, 5⟩, ⟨1, 4, 2, 5⟩, [0, 1, 0]⟩ (.slice Ax 3 cx))) _
  change Hid (AVar (w2.alloc (acO ⟨1, 5, 5, 5, ⟨1, 4, 2, 5⟩, ⟨1, 4, 2, 5⟩, [0, 1, 0]⟩ (.slice Ax 3 cx))) _ _ _ _) at Vx
  generalize w2.alloc (acO ⟨1, 5, 5, 5, ⟨1, 4, 2, 5⟩, ⟨1, 4, 2, 5⟩, [0, 1, 0]⟩ (.slice Ax 3 cx)) = w3 at *
  generalize w2.heap.size = bkx at *
  refine (item_any 1 3 (9) (-7) _).mono ?_
  rintro e w4 ⟨rfl, hb⟩
  replace HW := Lib.hid (HW.out.trans (hb.mono HW.out.size))
  replace RB := Lib.hid (Kd.C_below RB.out hb)
  replace Vx := Lib.hid (Vx.out.below hb)
  clear hb
  go_wp2_with fail
  refine (one_any ⟨1, 3, 9, -7⟩ [0, 5] (some ⟨bb, 0, none⟩) 2 _ RB.out (by decide)).mono ?_
  rintro e w5 ⟨v, rfl, how, hb⟩
  replace HW := Lib.hid (HW.out.trans (hb.mono HW.out.size))
  replace RB := Lib.hid (Kd.C_below RB.out hb)
  replace Vx := Lib.hid (Vx.out.below hb)
  clear hb
  rw [show oneRes ⟨1, 3, 9, -7⟩ [0, 5] = ((⟨1, -7, -7, -7, ⟨1, 3, 9, -7⟩, ⟨1, 3, 9, -7⟩, [1, 0, 0]⟩ : S28), (0 : Int)) from by kernel_rfl] at how ⊢
  obtain ⟨Ay, cy, rfl, hl, hr⟩ := how.reads
  simp only [acV, List.length_cons, List.length_nil, Nat.zero_add, Nat.reduceAdd]
  clear how
  have Vy := Lib.hid (AVar.new (w := w5) (a := ⟨1, -7, -7, -7, ⟨1, 3, 9, -7⟩, ⟨1, 3, 9, -7⟩, [1, 0, 0]⟩) hl hr)
  have hb : Below w5.heap.size w5 (w5.alloc (acO ⟨1, -7, -7, -7, ⟨1, 3, 9, -7⟩, ⟨1, 3, 9, -7⟩, [1, 0, 0]⟩ (.slice Ay 3 cy))) := (Below.refl _ _).alloc (Nat.le_refl _) _
  clear hl hr
  replace HW := Lib.hid (HW.out.trans (hb.mono HW.out.size))
  replace RB := Lib.hid (Kd.C_below RB.out hb)
  replace Vx := Lib.hid (Vx.out.below hb)
  clear hb
  change Hid (AVar (w5.alloc (acO ⟨1, -7, -7, -7, ⟨1, 3, 9, -7⟩, ⟨1, 3, 9, -7⟩, [1, 0, 0]⟩ (.slice Ay 3 cy))) _ _ _ _) at Vy
  obtain ⟨x0, x1, x2, x3, x4, x5, x6, x7, x8, x9, x10, x11, x12, xl⟩ := acO_facts Vx.out.1
  simp only [acO, List.length_cons, List.length_nil, Nat.zero_add, Nat.reduceAdd] at x0 x1 x2 x3 x4 x5 x6 x7 x8 x9 x10 x11 x12 xl
  obtain ⟨y0, y1, y2, y3, y4, y5, y6, y7, y8, y9, y10, y11, y12, yl⟩ := acO_facts Vy.out.1
  simp only [acO, List.length_cons, List.length_nil, Nat.zero_add, Nat.reduceAdd] at y0 y1 y2 y3 y4 y5 y6 y7 y8 y9 y10 y11 y12 yl
  go_wp2_with fail
  show Calls _ _ _ ((w5.alloc (acO ⟨1, -7, -7, -7, ⟨1, 3, 9, -7⟩, ⟨1, 3, 9, -7⟩, [1, 0, 0]⟩ (.slice Ay 3 cy))).alloc (.cells #[.int .i64 (1), .int .i64 (5), .int .i64 (5), .int .i64 (5), .int .i64 (1), .int .i64 (4), .int .i64 (2), .int .i64 (5), .int .i64 (1), .int .i64 (4), .int .i64 (2), .int .i64 (5), .slice Ax 3 cx, .int .i64 (1), .int .i64 (-7), .int .i64 (-7), .int .i64 (-7), .int .i64 (1), .int .i64 (3), .int .i64 (9), .int .i64 (-7), .int .i64 (1), .int .i64 (3), .int .i64 (9), .int .i64 (-7), .slice Ay 3 cy] 28)) _
  clear x0 x1 x2 x3 x4 x5 x6 x7 x8 x9 x10 x11 x12 xl y0 y1 y2 y3 y4 y5 y6 y7 y8 y9 y10 y11 y12 yl
  have hsz : (w5.alloc (acO ⟨1, -7, -7, -7, ⟨1, 3, 9, -7⟩, ⟨1, 3, 9, -7⟩, [1, 0, 0]⟩ (.slice Ay 3 cy))).heap.size = w5.heap.size + 1 := by simp
  have hp := heap_alloc_new (w5.alloc (acO ⟨1, -7, -7, -7, ⟨1, 3, 9, -7⟩, ⟨1, 3, 9, -7⟩, [1, 0, 0]⟩ (.slice Ay 3 cy))) (.cells #[.int .i64 (1), .int .i64 (5), .int .i64 (5), .int .i64 (5), .int .i64 (1), .int .i64 (4), .int .i64 (2), .int .i64 (5), .int .i64 (1), .int .i64 (4), .int .i64 (2), .int .i64 (5), .slice Ax 3 cx, .int .i64 (1), .int .i64 (-7), .int .i64 (-7), .int .i64 (-7), .int .i64 (1), .int .i64 (3), .int .i64 (9), .int .i64 (-7), .int .i64 (1), .int .i64 (3), .int .i64 (9), .int .i64 (-7), .slice Ay 3 cy] 28)
  have hb : Below (w5.alloc (acO ⟨1, -7, -7, -7, ⟨1, 3, 9, -7⟩, ⟨1, 3, 9, -7⟩, [1, 0, 0]⟩ (.slice Ay 3 cy))).heap.size (w5.alloc (acO ⟨1, -7, -7, -7, ⟨1, 3, 9, -7⟩, ⟨1, 3, 9, -7⟩, [1, 0, 0]⟩ (.slice Ay 3 cy))) ((w5.alloc (acO ⟨1, -7, -7, -7, ⟨1, 3, 9, -7⟩, ⟨1, 3, 9, -7⟩, [1, 0, 0]⟩ (.slice Ay 3 cy))).alloc (.cells #[.int .i64 (1), .int .i64 (5), .int .i64 (5), .int .i64 (5), .int .i64 (1), .int .i64 (4), .int .i64 (2), .int .i64 (5), .int .i64 (1), .int .i64 (4), .int .i64 (2), .int .i64 (5), .slice Ax 3 cx, .int .i64 (1), .int .i64 (-7), .int .i64 (-7), .int .i64 (-7), .int .i64 (1), .int .i64 (3), .int .i64 (9), .int .i64 (-7), .int .i64 (1), .int .i64 (3), .int .i64 (9), .int .i64 (-7), .slice Ay 3 cy] 28)) := (Below.refl _ _).alloc (Nat.le_refl _) _
  rw [hsz] at hp
  clear hsz
  generalize w5.alloc (acO ⟨1, -7, -7, -7, ⟨1, 3, 9, -7⟩, ⟨1, 3, 9, -7⟩, [1, 0, 0]⟩ (.slice Ay 3 cy)) = w6 at *
  replace HW := Lib.hid (HW.out.trans (hb.mono HW.out.size))
  replace RB := Lib.hid (Kd.C_below RB.out hb)
  replace Vx := Lib.hid (Vx.out.below hb)
  replace Vy := Lib.hid (Vy.out.below hb)
  clear hb
  generalize w6.alloc (.cells #[.int .i64 (1), .int .i64 (5), .int .i64 (5), .int .i64 (5), .int .i64 (1), .int .i64 (4), .int .i64 (2), .int .i64 (5), .int .i64 (1), .int .i64 (4), .int .i64 (2), .int .i64 (5), .slice Ax 3 cx, .int .i64 (1), .int .i64 (-7), .int .i64 (-7), .int .i64 (-7), .int .i64 (1), .int .i64 (3), .int .i64 (9), .int .i64 (-7), .int .i64 (1), .int .i64 (3), .int .i64 (9), .int .i64 (-7), .slice Ay 3 cy] 28) = w7 at *
  obtain ⟨pbz, hpb⟩ : ∃ pb, w5.heap.size + 1 = pb := ⟨_, rfl⟩
  rw [hpb] at hp ⊢
  clear hpb
  generalize w5.heap.size = bky at *
  refine (join_any [0, 5] [⟨1, 5, 5, 5, ⟨1, 4, 2, 5⟩, ⟨1, 4, 2, 5⟩, [0, 1, 0]⟩, ⟨1, -7, -7, -7, ⟨1, 3, 9, -7⟩, ⟨1, 3, 9, -7⟩, [1, 0, 0]⟩] (some ⟨bb, 0, none⟩) 2 (some ⟨pbz, 0, none⟩) 2 _ RB.out (by decide) (rdA_two (x := ⟨1, 5, 5, 5, ⟨1, 4, 2, 5⟩, ⟨1, 4, 2, 5⟩, [0, 1, 0]⟩) (y := ⟨1, -7, -7, -7, ⟨1, 3, 9, -7⟩, ⟨1, 3, 9, -7⟩, [1, 0, 0]⟩) hp Vx.out.2.1 Vx.out.2.2 Vy.out.2.1 Vy.out.2.2) (by decide)).mono ?_
  rintro e w8 ⟨v, rfl, how, hb⟩
  clear hp
  replace HW := Lib.hid (HW.out.trans (hb.mono HW.out.size))
  replace RB := Lib.hid (Kd.C_below RB.out hb)
  replace Vx := Lib.hid (Vx.out.below hb)
  replace Vy := Lib.hid (Vy.out.below hb)
  clear hb
  rw [show joinRes [0, 5] [⟨1, 5, 5, 5, ⟨1, 4, 2, 5⟩, ⟨1, 4, 2, 5⟩, [0, 1, 0]⟩, ⟨1, -7, -7, -7, ⟨1, 3, 9, -7⟩, ⟨1, 3, 9, -7⟩, [1, 0, 0]⟩] = ((⟨2, -2, -7, 5, ⟨1, 3, 9, -7⟩, ⟨1, 4, 2, 5⟩, [1, 1, 0]⟩ : S28), (0 : Int)) from by kernel_rfl] at how ⊢
  obtain ⟨Az, cz, rfl, hl, hr⟩ := how.reads
  simp only [acV, List.length_cons, List.length_nil, Nat.zero_add, Nat.reduceAdd]
  clear how
  have Vz := Lib.hid (AVar.new (w := w8) (a := ⟨2, -2, -7, 5, ⟨1, 3, 9, -7⟩, ⟨1, 4, 2, 5⟩, [1, 1, 0]⟩) hl hr)
  have hb : Below w8.heap.size w8 (w8.alloc (acO ⟨2, -2, -7, 5, ⟨1, 3, 9, -7⟩, ⟨1, 4, 2, 5⟩, [1, 1, 0]⟩ (.slice Az 3 cz))) := (Below.refl _ _).alloc (Nat.le_refl _) _
  clear hl hr
  replace HW := Lib.hid (HW.out.trans (hb.mono HW.out.size))
  replace RB := Lib.hid (Kd.C_below RB.out hb)
  replace Vx := Lib.hid (Vx.out.below hb)
  replace Vy := Lib.hid (Vy.out.below hb)
  clear hb
  go_wp2_with fail
  show Calls _ _ _ (w8.alloc (acO ⟨2, -2, -7, 5, ⟨1, 3, 9, -7⟩, ⟨1, 4, 2, 5⟩, [1, 1, 0]⟩ (.slice Az 3 cz))) _
  change Hid (AVar (w8.alloc (acO ⟨2, -2, -7, 5, ⟨1, 3, 9, -7⟩, ⟨1, 4, 2, 5⟩, [1, 1, 0]⟩ (.slice Az 3 cz))) _ _ _ _) at Vz
  generalize w8.alloc (acO ⟨2, -2, -7, 5, ⟨1, 3, 9, -7⟩, ⟨1, 4, 2, 5⟩, [1, 1, 0]⟩ (.slice Az 3 cz)) = w9 at *
  generalize w8.heap.size = bkz at *
  refine (one_any ⟨0, 0, 0, 0⟩ [0, 5] (some ⟨bb, 0, none⟩) 2 _ RB.out (by decide)).mono ?_
  rintro e w10 ⟨v, rfl, how, hb⟩
  replace HW := Lib.hid (HW.out.trans (hb.mono HW.out.size))
  replace RB := Lib.hid (Kd.C_below RB.out hb)
  replace Vx := Lib.hid (Vx.out.below hb)
  replace Vy := Lib.hid (Vy.out.below hb)
  replace Vz := Lib.hid (Vz.out.below hb)
  clear hb
  rw [show oneRes ⟨0, 0, 0, 0⟩ [0, 5] = ((⟨0, 0, 0, 0, ⟨0, 0, 0, 0⟩, ⟨0, 0, 0, 0⟩, []⟩ : S28), (100 : Int)) from by kernel_rfl] at how ⊢
  obtain ⟨Aq, cq, rfl, hl, hr⟩ := how.reads
  simp only [acV, List.length_cons, List.length_nil, Nat.zero_add, Nat.reduceAdd]
  clear how
  have Vq := Lib.hid (AVar.new (w := w10) (a := ⟨0, 0, 0, 0, ⟨0, 0, 0, 0⟩, ⟨0, 0, 0, 0⟩, []⟩) hl hr)
  have hb : Below w10.heap.size w10 (w10.alloc (acO ⟨0, 0, 0, 0, ⟨0, 0, 0, 0⟩, ⟨0, 0, 0, 0⟩, []⟩ (.slice Aq 0 cq))) := (Below.refl _ _).alloc (Nat.le_refl _) _
  clear hl hr
  replace HW := Lib.hid (HW.out.trans (hb.mono HW.out.size))
  replace RB := Lib.hid (Kd.C_below RB.out hb)
  replace Vx := Lib.hid (Vx.out.below hb)
  replace Vy := Lib.hid (Vy.out.below hb)
  replace Vz := Lib.hid (Vz.out.below hb)
  clear hb
  go_wp2_with fail
  show Calls _ _ _ (w10.alloc (acO ⟨0, 0, 0, 0, ⟨0, 0, 0, 0⟩, ⟨0, 0, 0, 0⟩, []⟩ (.slice Aq 0 cq))) _
  change Hid (AVar (w10.alloc (acO ⟨0, 0, 0, 0, ⟨0, 0, 0, 0⟩, ⟨0, 0, 0, 0⟩, []⟩ (.slice Aq 0 cq))) _ _ _ _) at Vq
  generalize w10.alloc (acO ⟨0, 0, 0, 0, ⟨0, 0, 0, 0⟩, ⟨0, 0, 0, 0⟩, []⟩ (.slice Aq 0 cq)) = w11 at *
  generalize w10.heap.size = bkq at *
  refine (join_any [0, 5] [] (some ⟨bb, 0, none⟩) 2 none 0 _ RB.out (by decide) (rdA_nil _ _) (by decide)).mono ?_
  rintro e w12 ⟨v, rfl, how, hb⟩
  replace HW := Lib.hid (HW.out.trans (hb.mono HW.out.size))
  replace RB := Lib.hid (Kd.C_below RB.out hb)
  replace Vx := Lib.hid (Vx.out.below hb)
  replace Vy := Lib.hid (Vy.out.below hb)
  replace Vz := Lib.hid (Vz.out.below hb)
  replace Vq := Lib.hid (Vq.out.below hb)
  clear hb
  rw [show joinRes [0, 5] [] = ((⟨0, 0, 0, 0, ⟨0, 0, 0, 0⟩, ⟨0, 0, 0, 0⟩, [0, 0, 0]⟩ : S28), (0 : Int)) from by kernel_rfl] at how ⊢
  obtain ⟨An, cn, rfl, hl, hr⟩ := how.reads
  simp only [acV, List.length_cons, List.length_nil, Nat.zero_add, Nat.reduceAdd]
  clear how
  have Vn := Lib.hid (AVar.new (w := w12) (a := ⟨0, 0, 0, 0, ⟨0, 0, 0, 0⟩, ⟨0, 0, 0, 0⟩, [0, 0, 0]⟩) hl hr)
  have hb : Below w12.heap.size w12 (w12.alloc (acO ⟨0, 0, 0, 0, ⟨0, 0, 0, 0⟩, ⟨0, 0, 0, 0⟩, [0, 0, 0]⟩ (.slice An 3 cn))) := (Below.refl _ _).alloc (Nat.le_refl _) _
  clear hl hr
  replace HW := Lib.hid (HW.out.trans (hb.mono HW.out.size))
  replace RB := Lib.hid (Kd.C_below RB.out hb)
  replace Vx := Lib.hid (Vx.out.below hb)
  replace Vy := Lib.hid (Vy.out.below hb)
  replace Vz := Lib.hid (Vz.out.below hb)
  replace Vq := Lib.hid (Vq.out.below hb)
  clear hb
  go_wp2_with fail
  show Calls _ _ _ (w12.alloc (acO ⟨0, 0, 0, 0, ⟨0, 0, 0, 0⟩, ⟨0, 0, 0, 0⟩, [0, 0, 0]⟩ (.slice An 3 cn))) _
  change Hid (AVar (w12.alloc (acO ⟨0, 0, 0, 0, ⟨0, 0, 0, 0⟩, ⟨0, 0, 0, 0⟩, [0, 0, 0]⟩ (.slice An 3 cn))) _ _ _ _) at Vn
  generalize w12.alloc (acO ⟨0, 0, 0, 0, ⟨0, 0, 0, 0⟩, ⟨0, 0, 0, 0⟩, [0, 0, 0]⟩ (.slice An 3 cn)) = w13 at *
  generalize w12.heap.size = bkn at *
  refine (item_any 2 3 (9) (-7) _).mono ?_
  rintro e w14 ⟨rfl, hb⟩
  replace HW := Lib.hid (HW.out.trans (hb.mono HW.out.size))
  replace RB := Lib.hid (Kd.C_below RB.out hb)
  replace Vx := Lib.hid (Vx.out.below hb)
  replace Vy := Lib.hid (Vy.out.below hb)
  replace Vz := Lib.hid (Vz.out.below hb)
  replace Vq := Lib.hid (Vq.out.below hb)
  replace Vn := Lib.hid (Vn.out.below hb)
  clear hb
  go_wp2_with fail
  refine (one_any ⟨2, 3, 9, -7⟩ [0, 5] (some ⟨bb, 0, none⟩) 2 _ RB.out (by decide)).mono ?_
  rintro e w15 ⟨v, rfl, how, hb⟩
  replace HW := Lib.hid (HW.out.trans (hb.mono HW.out.size))
  replace RB := Lib.hid (Kd.C_below RB.out hb)
  replace Vx := Lib.hid (Vx.out.below hb)
  replace Vy := Lib.hid (Vy.out.below hb)
  replace Vz := Lib.hid (Vz.out.below hb)
  replace Vq := Lib.hid (Vq.out.below hb)
  replace Vn := Lib.hid (Vn.out.below hb)
  clear hb
  rw [show oneRes ⟨2, 3, 9, -7⟩ [0, 5] = ((⟨1, -7, -7, -7, ⟨2, 3, 9, -7⟩, ⟨2, 3, 9, -7⟩, [1, 0, 0]⟩ : S28), (0 : Int)) from by kernel_rfl] at how ⊢
  obtain ⟨Aw, cw, rfl, hl, hr⟩ := how.reads
  simp only [acV, List.length_cons, List.length_nil, Nat.zero_add, Nat.reduceAdd]
  clear how
  have Vw := Lib.hid (AVar.new (w := w15) (a := ⟨1, -7, -7, -7, ⟨2, 3, 9, -7⟩, ⟨2, 3, 9, -7⟩, [1, 0, 0]⟩) hl hr)
  have hb : Below w15.heap.size w15 (w15.alloc (acO ⟨1, -7, -7, -7, ⟨2, 3, 9, -7⟩, ⟨2, 3, 9, -7⟩, [1, 0, 0]⟩ (.slice Aw 3 cw))) := (Below.refl _ _).alloc (Nat.le_refl _) _
  clear hl hr
  replace HW := Lib.hid (HW.out.trans (hb.mono HW.out.size))
  replace RB := Lib.hid (Kd.C_below RB.out hb)
  replace Vx := Lib.hid (Vx.out.below hb)
  replace Vy := Lib.hid (Vy.out.below hb)
  replace Vz := Lib.hid (Vz.out.below hb)
  replace Vq := Lib.hid (Vq.out.below hb)
  replace Vn := Lib.hid (Vn.out.below hb)
  clear hb
  change Hid (AVar (w15.alloc (acO ⟨1, -7, -7, -7, ⟨2, 3, 9, -7⟩, ⟨2, 3, 9, -7⟩, [1, 0, 0]⟩ (.slice Aw 3 cw))) _ _ _ _) at Vw
  obtain ⟨x0, x1, x2, x3, x4, x5, x6, x7, x8, x9, x10, x11, x12, xl⟩ := acO_facts Vx.out.1
  simp only [acO, List.length_cons, List.length_nil, Nat.zero_add, Nat.reduceAdd] at x0 x1 x2 x3 x4 x5 x6 x7 x8 x9 x10 x11 x12 xl
  obtain ⟨w0, w1, w2, w3, w4, w5, w6, w7, w8, w9, w10, w11, w12, wl⟩ := acO_facts Vw.out.1
  simp only [acO, List.length_cons, List.length_nil, Nat.zero_add, Nat.reduceAdd] at w0 w1 w2 w3 w4 w5 w6 w7 w8 w9 w10 w11 w12 wl
  go_wp2_with fail
  show Calls _ _ _ ((w15.alloc (acO ⟨1, -7, -7, -7, ⟨2, 3, 9, -7⟩, ⟨2, 3, 9, -7⟩, [1, 0, 0]⟩ (.slice Aw 3 cw))).alloc (.cells #[.int .i64 (1), .int .i64 (5), .int .i64 (5), .int .i64 (5), .int .i64 (1), .int .i64 (4), .int .i64 (2), .int .i64 (5), .int .i64 (1), .int .i64 (4), .int .i64 (2), .int .i64 (5), .slice Ax 3 cx, .int .i64 (1), .int .i64 (-7), .int .i64 (-7), .int .i64 (-7), .int .i64 (2), .int .i64 (3), .int .i64 (9), .int .i64 (-7), .int .i64 (2), .int .i64 (3), .int .i64 (9), .int .i64 (-7), .slice Aw 3 cw] 28)) _
  clear x0 x1 x2 x3 x4 x5 x6 x7 x8 x9 x10 x11 x12 xl w0 w1 w2 w3 w4 w5 w6 w7 w8 w9 w10 w11 w12 wl
  have hsz : (w15.alloc (acO ⟨1, -7, -7, -7, ⟨2, 3, 9, -7⟩, ⟨2, 3, 9, -7⟩, [1, 0, 0]⟩ (.slice Aw 3 cw))).heap.size = w15.heap.size + 1 := by simp
  have hp := heap_alloc_new (w15.alloc (acO ⟨1, -7, -7, -7, ⟨2, 3, 9, -7⟩, ⟨2, 3, 9, -7⟩, [1, 0, 0]⟩ (.slice Aw 3 cw))) (.cells #[.int .i64 (1), .int .i64 (5), .int .i64 (5), .int .i64 (5), .int .i64 (1), .int .i64 (4), .int .i64 (2), .int .i64 (5), .int .i64 (1), .int .i64 (4), .int .i64 (2), .int .i64 (5), .slice Ax 3 cx, .int .i64 (1), .int .i64 (-7), .int .i64 (-7), .int .i64 (-7), .int .i64 (2), .int .i64 (3), .int .i64 (9), .int .i64 (-7), .int .i64 (2), .int .i64 (3), .int .i64 (9), .int .i64 (-7), .slice Aw 3 cw] 28)
  have hb : Below (w15.alloc (acO ⟨1, -7, -7, -7, ⟨2, 3, 9, -7⟩, ⟨2, 3, 9, -7⟩, [1, 0, 0]⟩ (.slice Aw 3 cw))).heap.size (w15.alloc (acO ⟨1, -7, -7, -7, ⟨2, 3, 9, -7⟩, ⟨2, 3, 9, -7⟩, [1, 0, 0]⟩ (.slice Aw 3 cw))) ((w15.alloc (acO ⟨1, -7, -7, -7, ⟨2, 3, 9, -7⟩, ⟨2, 3, 9, -7⟩, [1, 0, 0]⟩ (.slice Aw 3 cw))).alloc (.cells #[.int .i64 (1), .int .i64 (5), .int .i64 (5), .int .i64 (5), .int .i64 (1), .int .i64 (4), .int .i64 (2), .int .i64 (5), .int .i64 (1), .int .i64 (4), .int .i64 (2), .int .i64 (5), .slice Ax 3 cx, .int .i64 (1), .int .i64 (-7), .int .i64 (-7), .int .i64 (-7), .int .i64 (2), .int .i64 (3), .int .i64 (9), .int .i64 (-7), .int .i64 (2), .int .i64 (3), .int .i64 (9), .int .i64 (-7), .slice Aw 3 cw] 28)) := (Below.refl _ _).alloc (Nat.le_refl _) _
  rw [hsz] at hp
  clear hsz
  generalize w15.alloc (acO ⟨1, -7, -7, -7, ⟨2, 3, 9, -7⟩, ⟨2, 3, 9, -7⟩, [1, 0, 0]⟩ (.slice Aw 3 cw)) = w16 at *
  replace HW := Lib.hid (HW.out.trans (hb.mono HW.out.size))
  replace RB := Lib.hid (Kd.C_below RB.out hb)
  replace Vx := Lib.hid (Vx.out.below hb)
  replace Vy := Lib.hid (Vy.out.below hb)
  replace Vz := Lib.hid (Vz.out.below hb)
  replace Vq := Lib.hid (Vq.out.below hb)
  replace Vn := Lib.hid (Vn.out.below hb)
  replace Vw := Lib.hid (Vw.out.below hb)
  clear hb
  generalize w16.alloc (.cells #[.int .i64 (1), .int .i64 (5), .int .i64 (5), .int .i64 (5), .int .i64 (1), .int .i64 (4), .int .i64 (2), .int .i64 (5), .int .i64 (1), .int .i64 (4), .int .i64 (2), .int .i64 (5), .slice Ax 3 cx, .int .i64 (1), .int .i64 (-7), .int .i64 (-7), .int .i64 (-7), .int .i64 (2), .int .i64 (3), .int .i64 (9), .int .i64 (-7), .int .i64 (2), .int .i64 (3), .int .i64 (9), .int .i64 (-7), .slice Aw 3 cw] 28) = w17 at *
  obtain ⟨pbr, hpb⟩ : ∃ pb, w15.heap.size + 1 = pb := ⟨_, rfl⟩
  rw [hpb] at hp ⊢
  clear hpb
  generalize w15.heap.size = bkw at *
  refine (join_any [0, 5] [⟨1, 5, 5, 5, ⟨1, 4, 2, 5⟩, ⟨1, 4, 2, 5⟩, [0, 1, 0]⟩, ⟨1, -7, -7, -7, ⟨2, 3, 9, -7⟩, ⟨2, 3, 9, -7⟩, [1, 0, 0]⟩] (some ⟨bb, 0, none⟩) 2 (some ⟨pbr, 0, none⟩) 2 _ RB.out (by decide) (rdA_two (x := ⟨1, 5, 5, 5, ⟨1, 4, 2, 5⟩, ⟨1, 4, 2, 5⟩, [0, 1, 0]⟩) (y := ⟨1, -7, -7, -7, ⟨2, 3, 9, -7⟩, ⟨2, 3, 9, -7⟩, [1, 0, 0]⟩) hp Vx.out.2.1 Vx.out.2.2 Vw.out.2.1 Vw.out.2.2) (by decide)).mono ?_
  rintro e w18 ⟨v, rfl, how, hb⟩
  clear hp
  replace HW := Lib.hid (HW.out.trans (hb.mono HW.out.size))
  replace RB := Lib.hid (Kd.C_below RB.out hb)
  replace Vx := Lib.hid (Vx.out.below hb)
  replace Vy := Lib.hid (Vy.out.below hb)
  replace Vz := Lib.hid (Vz.out.below hb)
  replace Vq := Lib.hid (Vq.out.below hb)
  replace Vn := Lib.hid (Vn.out.below hb)
  replace Vw := Lib.hid (Vw.out.below hb)
  clear hb
  rw [show joinRes [0, 5] [⟨1, 5, 5, 5, ⟨1, 4, 2, 5⟩, ⟨1, 4, 2, 5⟩, [0, 1, 0]⟩, ⟨1, -7, -7, -7, ⟨2, 3, 9, -7⟩, ⟨2, 3, 9, -7⟩, [1, 0, 0]⟩] = ((⟨0, 0, 0, 0, ⟨0, 0, 0, 0⟩, ⟨0, 0, 0, 0⟩, []⟩ : S28), (100 : Int)) from by kernel_rfl] at how ⊢
  obtain ⟨Ar, cr, rfl, hl, hr⟩ := how.reads
  simp only [acV, List.length_cons, List.length_nil, Nat.zero_add, Nat.reduceAdd]
  clear how
  have Vr := Lib.hid (AVar.new (w := w18) (a := ⟨0, 0, 0, 0, ⟨0, 0, 0, 0⟩, ⟨0, 0, 0, 0⟩, []⟩) hl hr)
  have hb : Below w18.heap.size w18 (w18.alloc (acO ⟨0, 0, 0, 0, ⟨0, 0, 0, 0⟩, ⟨0, 0, 0, 0⟩, []⟩ (.slice Ar 0 cr))) := (Below.refl _ _).alloc (Nat.le_refl _) _
  clear hl hr
  replace HW := Lib.hid (HW.out.trans (hb.mono HW.out.size))
  replace RB := Lib.hid (Kd.C_below RB.out hb)
  replace Vx := Lib.hid (Vx.out.below hb)
  replace Vy := Lib.hid (Vy.out.below hb)
  replace Vz := Lib.hid (Vz.out.below hb)
  replace Vq := Lib.hid (Vq.out.below hb)
  replace Vn := Lib.hid (Vn.out.below hb)
  replace Vw := Lib.hid (Vw.out.below hb)
  clear hb
  go_wp2_with fail
  show Code.wp _ _ _ _ (w18.alloc (acO ⟨0, 0, 0, 0, ⟨0, 0, 0, 0⟩, ⟨0, 0, 0, 0⟩, []⟩ (.slice Ar 0 cr)))
  change Hid (AVar (w18.alloc (acO ⟨0, 0, 0, 0, ⟨0, 0, 0, 0⟩, ⟨0, 0, 0, 0⟩, []⟩ (.slice Ar 0 cr))) _ _ _ _) at Vr
  generalize w18.alloc (acO ⟨0, 0, 0, 0, ⟨0, 0, 0, 0⟩, ⟨0, 0, 0, 0⟩, []⟩ (.slice Ar 0 cr)) = w19 at *
  generalize w18.heap.size = bkr at *
  obtain ⟨z0, z1, z2, z3, z4, z5, z6, z7, z8, z9, z10, z11, z12, zl⟩ := acO_facts Vz.out.1
  simp only [acO, List.length_cons, List.length_nil, Nat.zero_add, Nat.reduceAdd] at z0 z1 z2 z3 z4 z5 z6 z7 z8 z9 z10 z11 z12 zl
  obtain ⟨n0, n1, n2, n3, n4, n5, n6, n7, n8, n9, n10, n11, n12, nl⟩ := acO_facts Vn.out.1
  simp only [acO, List.length_cons, List.length_nil, Nat.zero_add, Nat.reduceAdd] at n0 n1 n2 n3 n4 n5 n6 n7 n8 n9 n10 n11 n12 nl
  refine Txt.wp_region_mix (by kernel_rfl) (by kernel_rfl) (fun HB => ?_)
  repeat (first
    | (refine Txt.mix_p (by rfl) rfl rfl (fun K hK => ?_); go_big_quiet_op; refine hK _ ?_; clear hK K)
    | (refine Txt.mix_re (by rfl) (by decide +kernel) (by rfl) (by rfl) (by go_simp) HB (fun K hK => ?_); go_big_quiet_op; refine hK _ ?_; clear hK K)
    | (refine Txt.mix_rl (by rfl) (by decide +kernel) (by rfl) (by rfl) (by go_simp) HB (fun K hK => ?_); go_big_quiet_op; refine hK _ ?_; clear hK K)
    | (refine Txt.mix_pass (by rfl) (by rfl) ?_; simp only [List.set_cons_succ, List.set_cons_zero]))
  refine Txt.mix_c (by rfl) (by decide +kernel) HB ?_
  intro w20 hw1 K hK
  replace HB := HB.trans hw1
  clear hw1
  go_wp2_with fail
  refine (item_any 1 3 9 (-7) _).mono ?_
  rintro e w21 ⟨rfl, hb⟩
  refine hK _ _ ⟨hb, ?_⟩
  replace HB := HB.trans hb
  clear hK K hb
  repeat (first
    | (refine Txt.mix_p (by rfl) rfl rfl (fun K hK => ?_); go_big_quiet_op; refine hK _ ?_; clear hK K)
    | (refine Txt.mix_re (by rfl) (by decide +kernel) (by rfl) (by rfl) (by go_simp) HB (fun K hK => ?_); go_big_quiet_op; refine hK _ ?_; clear hK K)
    | (refine Txt.mix_rl (by rfl) (by decide +kernel) (by rfl) (by rfl) (by go_simp) HB (fun K hK => ?_); go_big_quiet_op; refine hK _ ?_; clear hK K)
    | (refine Txt.mix_pass (by rfl) (by rfl) ?_; simp only [List.set_cons_succ, List.set_cons_zero]))
  refine Txt.mix_c (by rfl) (by decide +kernel) HB ?_
  intro w22 hw1 K hK
  replace HB := HB.trans hw1
  clear hw1
  go_wp2_with fail
  refine (item_any 1 4 2 5 _).mono ?_
  rintro e w23 ⟨rfl, hb⟩
  refine hK _ _ ⟨hb, ?_⟩
  replace HB := HB.trans hb
  clear hK K hb
  repeat (first
    | (refine Txt.mix_p (by rfl) rfl rfl (fun K hK => ?_); go_big_quiet_op; refine hK _ ?_; clear hK K)
    | (refine Txt.mix_re (by rfl) (by decide +kernel) (by rfl) (by rfl) (by go_simp) HB (fun K hK => ?_); go_big_quiet_op; refine hK _ ?_; clear hK K)
    | (refine Txt.mix_rl (by rfl) (by decide +kernel) (by rfl) (by rfl) (by go_simp) HB (fun K hK => ?_); go_big_quiet_op; refine hK _ ?_; clear hK K)
    | (refine Txt.mix_pass (by rfl) (by rfl) ?_; simp only [List.set_cons_succ, List.set_cons_zero]))
  refine Txt.mix_m (fun g => .slice (some ⟨g, 0, none⟩) 3 3) (.cells #[.int .i64 (1), .int .i64 (1), .int .i64 (0)] 3) (by rfl) (by decide +kernel) (fun w1 => by go_simp) HB ?_
  intro ga w24 hb2 hg2 ho2
  replace HB := HB.trans hb2
  simp only [Act.put, List.setIfInBounds_toArray, List.set_cons_succ, List.set_cons_zero]
  have Ga := Lib.hid (rdI_blk (l := [1, 1, 0]) ho2 (by decide))
  have WGa : Hid (Txt.Bw w24 w24) := Lib.hid (Txt.Bw.refl _)
  clear hb2 hg2 ho2
  repeat (first
    | (refine Txt.mix_p (by rfl) rfl rfl (fun K hK => ?_); go_big_quiet_op; refine hK _ ?_; clear hK K)
    | (refine Txt.mix_re (by rfl) (by decide +kernel) (by rfl) (by rfl) (by go_simp) HB (fun K hK => ?_); go_big_quiet_op; refine hK _ ?_; clear hK K)
    | (refine Txt.mix_rl (by rfl) (by decide +kernel) (by rfl) (by rfl) (by go_simp) HB (fun K hK => ?_); go_big_quiet_op; refine hK _ ?_; clear hK K)
    | (refine Txt.mix_pass (by rfl) (by rfl) ?_; simp only [List.set_cons_succ, List.set_cons_zero]))
  refine Txt.mix_c (by rfl) (by decide +kernel) HB ?_
  intro w25 hw1 K hK
  have hga := Kd.C_below Ga.out hw1
  replace HB := HB.trans hw1
  clear hw1
  go_wp2_with fail
  have hb0 := HB.undrew
  refine (same_yes ⟨2, -2, -7, 5, ⟨1, 3, 9, -7⟩, ⟨1, 4, 2, 5⟩, [1, 1, 0]⟩ Az (some ⟨ga, 0, none⟩) cz 3 _ (Kd.C_below Vz.out.2.2 hb0) Vz.out.2.1 hga (by decide) (by decide)).mono ?_
  rintro e w26 ⟨rfl, hb⟩
  refine hK _ _ ⟨hb, ?_⟩
  replace HB := HB.trans hb
  clear hK K hb hga hb0
  repeat (first
    | (refine Txt.mix_p (by rfl) rfl rfl (fun K hK => ?_); go_big_quiet_op; refine hK _ ?_; clear hK K)
    | (refine Txt.mix_re (by rfl) (by decide +kernel) (by rfl) (by rfl) (by go_simp) HB (fun K hK => ?_); go_big_quiet_op; refine hK _ ?_; clear hK K)
    | (refine Txt.mix_rl (by rfl) (by decide +kernel) (by rfl) (by rfl) (by go_simp) HB (fun K hK => ?_); go_big_quiet_op; refine hK _ ?_; clear hK K)
    | (refine Txt.mix_pass (by rfl) (by rfl) ?_; simp only [List.set_cons_succ, List.set_cons_zero]))
  refine Txt.mix_c (by rfl) (by decide +kernel) HB ?_
  intro w27 hw1 K hK
  replace HB := HB.trans hw1
  clear hw1
  go_wp2_with fail
  refine (num_any _ _).mono ?_
  rintro e w' ⟨rfl, rfl⟩
  refine hK _ _ ⟨Txt.Bw.refl _, ?_⟩
  clear hK K
  repeat (first
    | (refine Txt.mix_p (by rfl) rfl rfl (fun K hK => ?_); go_big_quiet_op; refine hK _ ?_; clear hK K)
    | (refine Txt.mix_re (by rfl) (by decide +kernel) (by rfl) (by rfl) (by go_simp) HB (fun K hK => ?_); go_big_quiet_op; refine hK _ ?_; clear hK K)
    | (refine Txt.mix_rl (by rfl) (by decide +kernel) (by rfl) (by rfl) (by go_simp) HB (fun K hK => ?_); go_big_quiet_op; refine hK _ ?_; clear hK K)
    | (refine Txt.mix_pass (by rfl) (by rfl) ?_; simp only [List.set_cons_succ, List.set_cons_zero]))
  refine Txt.mix_c (by rfl) (by decide +kernel) HB ?_
  intro w29 hw1 K hK
  replace HB := HB.trans hw1
  clear hw1
  go_wp2_with fail
  refine (num_any _ _).mono ?_
  rintro e w' ⟨rfl, rfl⟩
  refine hK _ _ ⟨Txt.Bw.refl _, ?_⟩
  clear hK K
  repeat (first
    | (refine Txt.mix_p (by rfl) rfl rfl (fun K hK => ?_); go_big_quiet_op; refine hK _ ?_; clear hK K)
    | (refine Txt.mix_re (by rfl) (by decide +kernel) (by rfl) (by rfl) (by go_simp) HB (fun K hK => ?_); go_big_quiet_op; refine hK _ ?_; clear hK K)
    | (refine Txt.mix_rl (by rfl) (by decide +kernel) (by rfl) (by rfl) (by go_simp) HB (fun K hK => ?_); go_big_quiet_op; refine hK _ ?_; clear hK K)
    | (refine Txt.mix_pass (by rfl) (by rfl) ?_; simp only [List.set_cons_succ, List.set_cons_zero]))
  refine Txt.mix_c (by rfl) (by decide +kernel) HB ?_
  intro w31 hw1 K hK
  replace HB := HB.trans hw1
  clear hw1
  go_wp2_with fail
  refine (num_any _ _).mono ?_
  rintro e w' ⟨rfl, rfl⟩
  refine hK _ _ ⟨Txt.Bw.refl _, ?_⟩
  clear hK K
  repeat (first
    | (refine Txt.mix_p (by rfl) rfl rfl (fun K hK => ?_); go_big_quiet_op; refine hK _ ?_; clear hK K)
    | (refine Txt.mix_re (by rfl) (by decide +kernel) (by rfl) (by rfl) (by go_simp) HB (fun K hK => ?_); go_big_quiet_op; refine hK _ ?_; clear hK K)
    | (refine Txt.mix_rl (by rfl) (by decide +kernel) (by rfl) (by rfl) (by go_simp) HB (fun K hK => ?_); go_big_quiet_op; refine hK _ ?_; clear hK K)
    | (refine Txt.mix_pass (by rfl) (by rfl) ?_; simp only [List.set_cons_succ, List.set_cons_zero]))
  refine Txt.mix_c (by rfl) (by decide +kernel) HB ?_
  intro w33 hw1 K hK
  replace HB := HB.trans hw1
  clear hw1
  go_wp2_with fail
  refine (num_any _ _).mono ?_
  rintro e w' ⟨rfl, rfl⟩
  refine hK _ _ ⟨Txt.Bw.refl _, ?_⟩
  clear hK K
  repeat (first
    | (refine Txt.mix_p (by rfl) rfl rfl (fun K hK => ?_); go_big_quiet_op; refine hK _ ?_; clear hK K)
    | (refine Txt.mix_re (by rfl) (by decide +kernel) (by rfl) (by rfl) (by go_simp) HB (fun K hK => ?_); go_big_quiet_op; refine hK _ ?_; clear hK K)
    | (refine Txt.mix_rl (by rfl) (by decide +kernel) (by rfl) (by rfl) (by go_simp) HB (fun K hK => ?_); go_big_quiet_op; refine hK _ ?_; clear hK K)
    | (refine Txt.mix_pass (by rfl) (by rfl) ?_; simp only [List.set_cons_succ, List.set_cons_zero]))
  refine Txt.mix_m (fun g => .slice (some ⟨g, 0, none⟩) 3 3) (.cells #[.int .i64 (0), .int .i64 (0), .int .i64 (0)] 3) (by rfl) (by decide +kernel) (fun w1 => by go_simp) HB ?_
  intro gb w35 hb2 hg2 ho2
  replace HB := HB.trans hb2
  simp only [Act.put, List.setIfInBounds_toArray, List.set_cons_succ, List.set_cons_zero]
  have Gb := Lib.hid (rdI_blk (l := [0, 0, 0]) ho2 (by decide))
  have WGb : Hid (Txt.Bw w35 w35) := Lib.hid (Txt.Bw.refl _)
  clear hb2 hg2 ho2
  repeat (first
    | (refine Txt.mix_p (by rfl) rfl rfl (fun K hK => ?_); go_big_quiet_op; refine hK _ ?_; clear hK K)
    | (refine Txt.mix_re (by rfl) (by decide +kernel) (by rfl) (by rfl) (by go_simp) HB (fun K hK => ?_); go_big_quiet_op; refine hK _ ?_; clear hK K)
    | (refine Txt.mix_rl (by rfl) (by decide +kernel) (by rfl) (by rfl) (by go_simp) HB (fun K hK => ?_); go_big_quiet_op; refine hK _ ?_; clear hK K)
    | (refine Txt.mix_pass (by rfl) (by rfl) ?_; simp only [List.set_cons_succ, List.set_cons_zero]))
  refine Txt.mix_c (by rfl) (by decide +kernel) HB ?_
  intro w36 hw1 K hK
  have hga := Kd.C_below Gb.out hw1
  replace HB := HB.trans hw1
  clear hw1
  go_wp2_with fail
  have hb0 := HB.undrew
  refine (same_yes ⟨0, 0, 0, 0, ⟨0, 0, 0, 0⟩, ⟨0, 0, 0, 0⟩, [0, 0, 0]⟩ An (some ⟨gb, 0, none⟩) cn 3 _ (Kd.C_below Vn.out.2.2 hb0) Vn.out.2.1 hga (by decide) (by decide)).mono ?_
  rintro e w37 ⟨rfl, hb⟩
  refine hK _ _ ⟨hb, ?_⟩
  replace HB := HB.trans hb
  clear hK K hb hga hb0
  repeat (first
    | (refine Txt.mix_p (by rfl) rfl rfl (fun K hK => ?_); go_big_quiet_op; refine hK _ ?_; clear hK K)
    | (refine Txt.mix_re (by rfl) (by decide +kernel) (by rfl) (by rfl) (by go_simp) HB (fun K hK => ?_); go_big_quiet_op; refine hK _ ?_; clear hK K)
    | (refine Txt.mix_rl (by rfl) (by decide +kernel) (by rfl) (by rfl) (by go_simp) HB (fun K hK => ?_); go_big_quiet_op; refine hK _ ?_; clear hK K)
    | (refine Txt.mix_pass (by rfl) (by rfl) ?_; simp only [List.set_cons_succ, List.set_cons_zero]))
  refine Txt.mix_c (by rfl) (by decide +kernel) HB ?_
  intro w38 hw1 K hK
  replace HB := HB.trans hw1
  clear hw1
  go_wp2_with fail
  refine (num_any _ _).mono ?_
  rintro e w' ⟨rfl, rfl⟩
  refine hK _ _ ⟨Txt.Bw.refl _, ?_⟩
  clear hK K
  repeat (first
    | (refine Txt.mix_p (by rfl) rfl rfl (fun K hK => ?_); go_big_quiet_op; refine hK _ ?_; clear hK K)
    | (refine Txt.mix_re (by rfl) (by decide +kernel) (by rfl) (by rfl) (by go_simp) HB (fun K hK => ?_); go_big_quiet_op; refine hK _ ?_; clear hK K)
    | (refine Txt.mix_rl (by rfl) (by decide +kernel) (by rfl) (by rfl) (by go_simp) HB (fun K hK => ?_); go_big_quiet_op; refine hK _ ?_; clear hK K)
    | (refine Txt.mix_pass (by rfl) (by rfl) ?_; simp only [List.set_cons_succ, List.set_cons_zero]))
  refine Txt.mix_c (by rfl) (by decide +kernel) HB ?_
  intro w40 hw1 K hK
  replace HB := HB.trans hw1
  clear hw1
  go_wp2_with fail
  refine (num_any _ _).mono ?_
  rintro e w' ⟨rfl, rfl⟩
  refine hK _ _ ⟨Txt.Bw.refl _, ?_⟩
  clear hK K
  repeat (first
    | (refine Txt.mix_p (by rfl) rfl rfl (fun K hK => ?_); go_big_quiet_op; refine hK _ ?_; clear hK K)
    | (refine Txt.mix_re (by rfl) (by decide +kernel) (by rfl) (by rfl) (by go_simp) HB (fun K hK => ?_); go_big_quiet_op; refine hK _ ?_; clear hK K)
    | (refine Txt.mix_rl (by rfl) (by decide +kernel) (by rfl) (by rfl) (by go_simp) HB (fun K hK => ?_); go_big_quiet_op; refine hK _ ?_; clear hK K)
    | (refine Txt.mix_pass (by rfl) (by rfl) ?_; simp only [List.set_cons_succ, List.set_cons_zero]))
  refine Txt.mix_c (by rfl) (by decide +kernel) HB ?_
  intro w42 hw1 K hK
  replace HB := HB.trans hw1
  clear hw1
  go_wp2_with fail
  refine (num_any _ _).mono ?_
  rintro e w' ⟨rfl, rfl⟩
  refine hK _ _ ⟨Txt.Bw.refl _, ?_⟩
  clear hK K
  repeat (first
    | (refine Txt.mix_p (by rfl) rfl rfl (fun K hK => ?_); go_big_quiet_op; refine hK _ ?_; clear hK K)
    | (refine Txt.mix_re (by rfl) (by decide +kernel) (by rfl) (by rfl) (by go_simp) HB (fun K hK => ?_); go_big_quiet_op; refine hK _ ?_; clear hK K)
    | (refine Txt.mix_rl (by rfl) (by decide +kernel) (by rfl) (by rfl) (by go_simp) HB (fun K hK => ?_); go_big_quiet_op; refine hK _ ?_; clear hK K)
    | (refine Txt.mix_pass (by rfl) (by rfl) ?_; simp only [List.set_cons_succ, List.set_cons_zero]))
  refine Txt.mix_c (by rfl) (by decide +kernel) HB ?_
  intro w44 hw1 K hK
  replace HB := HB.trans hw1
  clear hw1
  go_wp2_with fail
  have hb0 := HB.undrew
  have hm := may_any ⟨2, -2, -7, 5, ⟨1, 3, 9, -7⟩, ⟨1, 4, 2, 5⟩, [1, 1, 0]⟩ [0, 5] Az cz (some ⟨bb, 0, none⟩) 2 _ (Kd.C_below Vz.out.2.2 hb0) (Kd.C_below RB.out hb0) (by decide)
  rw [show amay ⟨2, -2, -7, 5, ⟨1, 3, 9, -7⟩, ⟨1, 4, 2, 5⟩, [1, 1, 0]⟩ [0, 5] = true from by kernel_rfl] at hm
  refine hm.mono ?_
  rintro e w45 ⟨rfl, hb⟩
  refine hK _ _ ⟨hb, ?_⟩
  replace HB := HB.trans hb
  clear hK K hb hb0 hm
  repeat (first
    | (refine Txt.mix_p (by rfl) rfl rfl (fun K hK => ?_); go_big_quiet_op; refine hK _ ?_; clear hK K)
    | (refine Txt.mix_re (by rfl) (by decide +kernel) (by rfl) (by rfl) (by go_simp) HB (fun K hK => ?_); go_big_quiet_op; refine hK _ ?_; clear hK K)
    | (refine Txt.mix_rl (by rfl) (by decide +kernel) (by rfl) (by rfl) (by go_simp) HB (fun K hK => ?_); go_big_quiet_op; refine hK _ ?_; clear hK K)
    | (refine Txt.mix_pass (by rfl) (by rfl) ?_; simp only [List.set_cons_succ, List.set_cons_zero]))
  refine Txt.mix_c (by rfl) (by decide +kernel) HB ?_
  intro w46 hw1 K hK
  replace HB := HB.trans hw1
  clear hw1
  go_wp2_with fail
  have hb0 := HB.undrew
  have hm := may_any ⟨2, -2, -7, 5, ⟨1, 3, 9, -7⟩, ⟨1, 4, 2, 5⟩, [1, 1, 0]⟩ [] Az cz none 0 _ (Kd.C_below Vz.out.2.2 hb0) (rdI_nil _) (by decide)
  rw [show amay ⟨2, -2, -7, 5, ⟨1, 3, 9, -7⟩, ⟨1, 4, 2, 5⟩, [1, 1, 0]⟩ [] = false from by kernel_rfl] at hm
  refine hm.mono ?_
  rintro e w47 ⟨rfl, hb⟩
  refine hK _ _ ⟨hb, ?_⟩
  replace HB := HB.trans hb
  clear hK K hb hb0 hm
  repeat (first
    | (refine Txt.mix_p (by rfl) rfl rfl (fun K hK => ?_); go_big_quiet_op; refine hK _ ?_; clear hK K)
    | (refine Txt.mix_re (by rfl) (by decide +kernel) (by rfl) (by rfl) (by go_simp) HB (fun K hK => ?_); go_big_quiet_op; refine hK _ ?_; clear hK K)
    | (refine Txt.mix_rl (by rfl) (by decide +kernel) (by rfl) (by rfl) (by go_simp) HB (fun K hK => ?_); go_big_quiet_op; refine hK _ ?_; clear hK K)
    | (refine Txt.mix_pass (by rfl) (by rfl) ?_; simp only [List.set_cons_succ, List.set_cons_zero]))
  refine Txt.mix_nil ?_
  go_wp2_with fail
  go_ret
  exact ⟨rfl, HW.out.trans (HB.undrew.mono HW.out.size)⟩
end Go.Proofs.Ytggaefklcpbfnaa.My

/-! AccL -/
namespace Go.Proofs.Ytggaefklcpbfnaa.My
open Go.RowKit Pa Go.Proofs.YtggaefklcpbfnaaW.PrintWords

def accC (x : S28) (v : Value) : List Value := [.int .i64 x.f0, .int .i64 x.f1, .int .i64 x.f2, .int .i64 x.f3, .int .i64 x.f4.f0, .int .i64 x.f4.f1, .int .i64 x.f4.f2, .int .i64 x.f4.f3, .int .i64 x.f5.f0, .int .i64 x.f5.f1, .int .i64 x.f5.f2, .int .i64 x.f5.f3, v]
/-- Its cells, its elements' rows (each of one's own). -/
structure RowA (w : World) (v : Value) (xs : List S28) (cs : List Value) : Prop where
  own : w.ownsRow 0 28 13 v xs.length cs
  el : ∀ i, i < xs.length → ∃ u, Own w 0 u (xs.getD i z28).f6 ∧ ∀ j, j < 13 → cs[i * 13 + j]? = (accC (xs.getD i z28) u)[j]?
theorem RowA.nil (w : World) : RowA w (.slice none 0 0) [] [] := ⟨World.ownsRow_nil _ _ _ _, fun i hi => absurd hi (by simp)⟩
theorem RowA.below {w w1 : World} {v : Value} {xs : List S28} {cs : List Value} (h : RowA w v xs cs) (hb : Below w.heap.size w w1) : RowA w1 v xs cs :=
  ⟨row_keep (S := fun _ => False) h.own (Chg.of_below hb) (fun _ _ h => h), fun i hi => by
    obtain ⟨u, h1, h2⟩ := h.el i hi
    exact ⟨u, h1.below hb, h2⟩⟩
theorem RowA.reads {w : World} {v : Value} {xs : List S28} {cs : List Value} (h : RowA w v xs cs) : ∃ A c, v = .slice A xs.length c ∧ RdA w A xs := by
  rcases h.own.2 with ⟨e, h0⟩ | ⟨b, cap, cur, e, hb, hcur, _⟩
  · refine ⟨none, 0, by rw [e, h0], fun hp => absurd hp (by omega)⟩
  · refine ⟨_, cap, e, fun _ => ⟨b, 0, rfl, blk_lt hcur, fun i hi => ?_⟩⟩
    obtain ⟨u, h1, h2⟩ := h.el i hi
    obtain ⟨A, c, hu, hl, hr⟩ := h1.reads
    subst hu
    have hc : ∀ j, j < 13 → ∀ x, (accC (xs.getD i z28) (.slice A (xs.getD i z28).f6.length c))[j]? = some x → w.cell? ⟨b, 0 + i * 13 + j, none⟩ = some x := fun j hj x hx => by
      have h3 := h.own.cells (g := b) (by rw [e]; rfl) (i * 13 + j) x ((h2 j hj).trans hx)
      rwa [add_plain, show i * 13 + j = 0 + i * 13 + j by omega] at h3
    exact ⟨A, c, hc 0 (by omega) _ rfl, hc 1 (by omega) _ rfl, hc 2 (by omega) _ rfl, hc 3 (by omega) _ rfl, hc 4 (by omega) _ rfl, hc 5 (by omega) _ rfl, hc 6 (by omega) _ rfl, hc 7 (by omega) _ rfl, hc 8 (by omega) _ rfl, hc 9 (by omega) _ rfl, hc 10 (by omega) _ rfl, hc 11 (by omega) _ rfl, hc 12 (by omega) _ rfl, hl, hr⟩
theorem info_acc : (Try.prog.info? 28).map (fun i => (i.zero, i.size, i.bytes)) = some (some (.agg #[.int .i64 0, .int .i64 0, .int .i64 0, .int .i64 0, .int .i64 0, .int .i64 0, .int .i64 0, .int .i64 0, .int .i64 0, .int .i64 0, .int .i64 0, .int .i64 0, .slice none 0 0]), 13, 120) := by kernel_rfl
/-- The walk stops ahead of an append. -/
def AtAppend (P : Program) (ops : Array Oper) (Q : Exit → Act → World → Prop) (o : Oper) (rest : List Oper) (a : Act) (w : World) : Prop := wpList P ops Q (o :: rest) a w
theorem at_append {P : Program} {ops : Array Oper} {Q : Exit → Act → World → Prop} {o : Oper} {rest : List Oper} {a : Act} {w : World} (s x : Operand) (t : TypeId)
    (_ : o.op = .call { callee := .builtin .append, args := #[s, x], argTypes := #[t, t] }) (h : AtAppend P ops Q o rest a w) : wpList P ops Q (o :: rest) a w := h
theorem accC_len (x : S28) (u : Value) : (accC x u).length = 13 := rfl
theorem Own.grown {w w1 : World} {u v : Value} {h : List Int} {n : Nat} {cs : List Value} (ho : Own w 0 u h) (hr : w.ownsRow 0 28 13 v n cs) (hg : w.grownBy w1 v.ownBlock) : Own w1 0 u h := by
  rcases own_type_ne ho hr (by decide) with hn | hn
  · exact ho.keep (S := fun k => some k = v.ownBlock) ((Chg.refl _ w).grown hg (fun k hk => .inl hk.symm)) (fun k hk => by rw [hn] at hk; cases hk)
  · exact ho.keep (S := fun k => some k = v.ownBlock) ((Chg.refl _ w).grown hg (fun k hk => .inl hk.symm)) (fun k hk e => hn (hk.trans e))
theorem RowA.snoc {w w1 : World} {v v1 : Value} {xs : List S28} {cs : List Value} (L : RowA w v xs cs) (y : S28) (u : Value) (hu : Own w 0 u y.f6) (hr : w1.ownsRow 0 28 13 v1 (xs.length + 1) (cs ++ accC y u)) (hg : w.grownBy w1 v.ownBlock) : RowA w1 v1 (xs ++ [y]) (cs ++ accC y u) := by
  have hcl : cs.length = xs.length * 13 := L.own.1
  refine ⟨by rw [List.length_append]; exact hr, fun i hi => ?_⟩
  rw [List.length_append, List.length_singleton] at hi
  by_cases hlt : i < xs.length
  · obtain ⟨u1, h1, h2⟩ := L.el i hlt
    have e : (xs ++ [y]).getD i z28 = xs.getD i z28 := by
      rw [List.getD_eq_getElem?_getD, List.getD_eq_getElem?_getD, List.getElem?_append_left hlt]
    rw [e]
    exact ⟨u1, h1.grown L.own hg, fun j hj => by rw [List.getElem?_append_left (by omega)]; exact h2 j hj⟩
  · obtain rfl : i = xs.length := by omega
    have e : (xs ++ [y]).getD xs.length z28 = y := by
      rw [List.getD_eq_getElem?_getD, List.getElem?_append_right (Nat.le_refl _), Nat.sub_self]
      rfl
    rw [e]
    exact ⟨u, hu.grown L.own hg, fun j hj => by rw [List.getElem?_append_right (by omega), show xs.length * 13 + j - cs.length = j by omega]⟩
theorem RowA.append {ops : Array Oper} {Q : Exit → Act → World → Prop} {o : Oper} {rest : List Oper} {a : Act} {w : World} {v : Value} {xs : List S28} {cs : List Value} (s x : Operand)
    (hgd : o.guard = none) (ho : o.op = .call { callee := .builtin .append, args := #[s, x], argTypes := #[51, 51] })
    (L : RowA w v xs cs) (hs : a.eval s = v) (b : Nat) (y : S28) (u : Value) (c : Nat) (hx : a.eval x = .slice (some ⟨b, 0, none⟩) 1 c)
    (hb : w.heap[b]? = some (acO y u)) (hu : Own w 0 u y.f6) (hu1 : u.oneCell' = true) (hl : (xs.length + 1) * 120 ≤ 140737488355328)
    (h : ∀ v1 w1, RowA w1 v1 (xs ++ [y]) (cs ++ accC y u) → w.grownBy w1 v.ownBlock → (v1.ownBlock = v.ownBlock ∨ v1.ownBlock = some w.heap.size) → wpList Try.prog ops Q rest (a.put o.dst v1) w1) : AtAppend Try.prog ops Q o rest a w := by
  unfold AtAppend
  refine wpList_plain hgd fun K hK => ?_
  obtain ⟨i0, hi, hzz⟩ := Option.map_eq_some_iff.1 info_acc
  simp only [Prod.mk.injEq] at hzz
  obtain ⟨hz0, hz1, hz2⟩ := hzz
  have ha : ∀ j, (⟨b, 0, none⟩ : Addr).add j = ⟨b, j, none⟩ := fun j => add_plain b j
  obtain ⟨v1, w1, hr, h2, h3, _, h5⟩ := run_append_own_at (P := Try.prog) w 0 51 o.type 28 i0 _ 13 120 Try.underlying51 hi hz0 hz1 hz2 rfl (by decide) v xs.length cs L.own ⟨b, 0, none⟩ 1 c (accC y u) (accC_len y u) (fun j x hx => by
    rw [ha, blk_cell hb]
    exact (List.getElem?_toArray ..).trans hx) (fun x hx => by
    simp only [accC, List.mem_cons, List.not_mem_nil, or_false] at hx
    rcases hx with rfl | rfl | rfl | rfl | rfl | rfl | rfl | rfl | rfl | rfl | rfl | rfl | rfl <;> first | rfl | exact hu1) (by simp only [maxLen]; omega) hl (Nat.zero_le _)
  unfold Oper.wp execOp
  simp only [ho, resolve, invoke, builtin, Sem.run_bind, Sem.run_pure, Result.andThen_ok, List.map_toArray, List.map_cons, List.map_nil, hs, hx, hr]
  exact hK _ _ (h v1 w1 (L.snoc y u hu h2 h3) h3 h5)
end Go.Proofs.Ytggaefklcpbfnaa.My

/-! RefT -/
namespace Go.Proofs.Ytggaefklcpbfnaa.My
open Go.RowKit Pa Go.Proofs.YtggaefklcpbfnaaW.PrintWords Go.Proofs.YtggaefklcpbfnaaW.PrintMore
attribute [local go_sem high] eqA26
attribute [local go_sem] max2_int min2_int max_two min_two

/-- By the stamp. -/
def bef (a b : S26) : Bool := decide (a.f1 < b.f1) || (decide (a.f1 = b.f1) && decide (a.f2 < b.f2))
theorem bef_f (a b : S26) : bourneref1_Before.f a.f0 a.f1 a.f2 a.f3 b.f0 b.f1 b.f2 b.f3 = some (bef a b) := by
  unfold bourneref1_Before.f bef
  by_cases h1 : a.f1 < b.f1
  · simp [h1]
  · by_cases h2 : a.f1 = b.f1 <;> simp [h1, h2]
theorem bef_any (a b : S26) (w : World) :
    Calls Try.prog 59 #[.agg #[.int .i64 a.f0, .int .i64 a.f1, .int .i64 a.f2, .int .i64 a.f3], .agg #[.int .i64 b.f0, .int .i64 b.f1, .int .i64 b.f2, .int .i64 b.f3]] w fun e w' => e = .returned (.bool (bef a b)) ∧ Below w.heap.size w w' :=
  bourneref1_Before.calls _ _ _ _ _ _ _ _ _ w (bef_f a b)
def tw0 (a b : S28) : S28 := ⟨a.f0 + b.f0, a.f1 + b.f1, if b.f2 < a.f2 then b.f2 else a.f2, if a.f3 < b.f3 then b.f3 else a.f3, a.f4, b.f5, []⟩
def tw1 (a b : S28) : S28 := if bef b.f4 a.f4 = true then ⟨(tw0 a b).f0, (tw0 a b).f1, (tw0 a b).f2, (tw0 a b).f3, b.f4, b.f5, []⟩ else tw0 a b
def tw2 (a b : S28) : S28 := if bef b.f5 a.f5 = true then ⟨(tw1 a b).f0, (tw1 a b).f1, (tw1 a b).f2, (tw1 a b).f3, (tw1 a b).f4, a.f5, []⟩ else tw1 a b
def tw3 (o : S28) (h : List Int) : S28 := ⟨o.f0, o.f1, o.f2, o.f3, o.f4, o.f5, h⟩
/-- Both together, as the document tells it. -/
def twoA (a b : S28) : S28 := tw3 (tw2 a b) (hadd a.f6 b.f6)
/-- Where no sum wraps. -/
structure TwoOk (a b : S28) : Prop where
  c1 : -1000000 ≤ a.f0 ∧ a.f0 ≤ 1000000
  c2 : -1000000 ≤ b.f0 ∧ b.f0 ≤ 1000000
  s1 : -1152921504606846976 ≤ a.f1 ∧ a.f1 ≤ 1152921504606846976
  s2 : -1152921504606846976 ≤ b.f1 ∧ b.f1 ≤ 1152921504606846976
  len : b.f6.length = a.f6.length
  l9 : a.f6.length ≤ 9
  h1 : ∀ i, i < a.f6.length → -1000000 ≤ a.f6.getD i 0 ∧ a.f6.getD i 0 ≤ 1000000
  h2 : ∀ i, i < a.f6.length → -1000000 ≤ b.f6.getD i 0 ∧ b.f6.getD i 0 ≤ 1000000
instance (a b : S28) : Decidable (TwoOk a b) :=
  decidable_of_iff ((-1000000 ≤ a.f0 ∧ a.f0 ≤ 1000000) ∧ (-1000000 ≤ b.f0 ∧ b.f0 ≤ 1000000) ∧ (-1152921504606846976 ≤ a.f1 ∧ a.f1 ≤ 1152921504606846976) ∧ (-1152921504606846976 ≤ b.f1 ∧ b.f1 ≤ 1152921504606846976) ∧ b.f6.length = a.f6.length ∧ a.f6.length ≤ 9 ∧ (∀ i, i < a.f6.length → -1000000 ≤ a.f6.getD i 0 ∧ a.f6.getD i 0 ≤ 1000000) ∧ (∀ i, i < a.f6.length → -1000000 ≤ b.f6.getD i 0 ∧ b.f6.getD i 0 ≤ 1000000))
    ⟨fun ⟨h1, h2, h3, h4, h5, h6, h7, h8⟩ => ⟨h1, h2, h3, h4, h5, h6, h7, h8⟩, fun ⟨h1, h2, h3, h4, h5, h6, h7, h8⟩ => ⟨h1, h2, h3, h4, h5, h6, h7, h8⟩⟩
theorem tw_f6 (a b : S28) : (tw2 a b).f6 = [] := by unfold tw2; split <;> (try unfold tw1) <;> (try split) <;> rfl
theorem hadd_take {h n : List Int} (hl : n.length = h.length) {k : Nat} (hk : k < h.length) : (hadd h n).take (k + 1) = (hadd h n).take k ++ [h.getD k 0 + n.getD k 0] := by
  have hlen : (hadd h n).length = h.length := by unfold hadd; rw [List.length_zipWith]; omega
  rw [List.take_succ_eq_append_getElem (by omega)]
  congr 2
  unfold hadd
  simp [List.getD_eq_getElem?_getD, List.getElem?_eq_getElem hk, List.getElem?_eq_getElem (show k < n.length by omega)]

/-- append of some cells that lie in memory, to a row of one's own: at the operation. -/
theorem wp_append {P : Program} {o : Oper} {a : Act} {w : World} {K : Act → World → Prop} {Q : Exit → Act → World → Prop} (s x : Operand) (t e : TypeId) (z : Value) (size bytes base : Nat)
    (ho : o.op = .call { callee := .builtin .append, args := #[s, x], argTypes := #[t, t] })
    (ht : P.underlying t = some (.slice e)) (hinfo : (P.info? e).map (fun i => (i.zero, i.size, i.bytes)) = some (some z, size, bytes)) (hz : z.cells.size = size) (hsz : 0 < size)
    (v : Value) (n m : Nat) (xs news : List Value) (g c : Nat) (hs : a.eval s = v) (hx : a.eval x = .slice (some ⟨g, 0, none⟩) m c)
    (hown : w.ownsRow base e size v n xs) (hbase : base ≤ w.heap.size) (hl : news.length = m * size) (hnews : ∀ j u, news[j]? = some u → w.cell? ⟨g, j, none⟩ = some u) (h1 : ∀ u ∈ news, u.oneCell' = true) (hb : (n + m) * bytes ≤ 140737488355328) (h63 : n + m ≤ 9223372036854775807)
    (h : ∀ v1 w1, w1.ownsRow base e size v1 (n + m) (xs ++ news) → w.grownBy w1 v.ownBlock → (v1.ownBlock = v.ownBlock ∨ v1.ownBlock = some w.heap.size) → K (a.put o.dst v1) w1) : o.wp P a w K Q := by
  obtain ⟨i0, hi, hzz⟩ := Option.map_eq_some_iff.1 hinfo
  simp only [Prod.mk.injEq] at hzz
  obtain ⟨hz0, hz1, hz2⟩ := hzz
  have ha : ∀ j, (⟨g, 0, none⟩ : Addr).add j = ⟨g, j, none⟩ := fun j => by unfold Addr.add; split <;> simp_all
  obtain ⟨v1, w1, hr, h2, h3, _, h5⟩ := run_append_own_at (P := P) w base t o.type e i0 z size bytes ht hi hz0 hz1 hz2 hz hsz v n xs hown ⟨g, 0, none⟩ m c news hl (fun j u hu => by rw [ha]; exact hnews j u hu) h1 (by simp only [maxLen]; omega) hb hbase
  unfold Oper.wp execOp
  simp only [ho, resolve, invoke, builtin, Sem.run_bind, Sem.run_pure, Result.andThen_ok, List.map_toArray, List.map_cons, List.map_nil, hs, hx, hr]
  exact h v1 w1 h2 h3 h5

/-- What is built up: its block, its own row. -/
structure TwAt (w0 w : World) (g : Nat) (o : S28) (h : List Int) (v : Value) : Prop where
  blk : w.heap[g]? = some (acO (tw3 o h) v)
  row : Own w w0.heap.size v h
  bel : Below w0.heap.size w0 w
/-- What came in, in its variables. -/
structure TwIn (w : World) (g : Nat) (a b : S28) (Aa : Option Addr) (ca : Nat) (Ab : Option Addr) (cb : Nat) : Prop where
  ga : w.heap[g]? = some (acO a (.slice Aa a.f6.length ca))
  gb : w.heap[g + 1]? = some (acO b (.slice Ab b.f6.length cb))
  go : w.heap[g + 2]? = some (acO z28 (.slice none 0 0))
theorem own_no {w : World} {base g : Nat} {v u : Value} {h : List Int} {a : S28} (ho : Own w base v h) (hg : w.heap[g]? = some (acO a u)) : ¬ some g = v.ownBlock := by
  rcases ho.2 with ⟨e, _⟩ | ⟨b, cap, cur, e, _, hh, _⟩
  · rw [e]
    intro h
    cases h
  · rw [e]
    intro h
    have e2 : some g = some b := h
    injection e2 with e2
    rw [e2, hh] at hg
    unfold acO at hg
    injection hg with hg
    injection hg with _ ht
    exact absurd ht (by decide)
theorem TwAt.below {w0 w w1 : World} {g : Nat} {o : S28} {h : List Int} {v : Value} (t : TwAt w0 w g o h v) (hb : Below w.heap.size w w1) : TwAt w0 w1 g o h v := ⟨blk_below t.blk hb, t.row.below hb, t.bel.trans (hb.mono t.bel.size)⟩
theorem TwIn.below {w w1 : World} {g : Nat} {a b : S28} {Aa : Option Addr} {ca : Nat} {Ab : Option Addr} {cb : Nat} (t : TwIn w g a b Aa ca Ab cb) (hb : Below w.heap.size w w1) : TwIn w1 g a b Aa ca Ab cb := ⟨blk_below t.ga hb, blk_below t.gb hb, blk_below t.go hb⟩
theorem TwIn.chg {S : Nat → Prop} {w w1 : World} {g : Nat} {a b : S28} {Aa : Option Addr} {ca : Nat} {Ab : Option Addr} {cb : Nat} (t : TwIn w g a b Aa ca Ab cb) (hc : Chg S w w1) (h0 : ¬ S g) (h1 : ¬ S (g + 1)) (h2 : ¬ S (g + 2)) : TwIn w1 g a b Aa ca Ab cb := ⟨hc.obj t.ga h0, hc.obj t.gb h1, hc.obj t.go h2⟩
set_option maxHeartbeats 8000000 in
set_option maxRecDepth 100000 in
theorem two_any (a b : S28) (Aa : Option Addr) (ca : Nat) (Ab : Option Addr) (cb : Nat) (w : World) (ha : RdI w Aa a.f6) (hb : RdI w Ab b.f6) (hk : TwoOk a b) :
    Calls Try.prog 53 #[acV a (.slice Aa a.f6.length ca), acV b (.slice Ab b.f6.length cb)] w fun e w' => ∃ v, e = .returned (acV (twoA a b) v) ∧ Own w' w.heap.size v (twoA a b).f6 ∧ Below w.heap.size w w' := by
  have HA := Lib.hid ha
  have HBB := Lib.hid hb
  have HK := Lib.hid hk
  clear ha hb hk
  obtain ⟨w3, hw3⟩ : ∃ w3, w3 = ((w.alloc (acO a (.slice Aa a.f6.length ca))).alloc (acO b (.slice Ab b.f6.length cb))).alloc (acO z28 (.slice none 0 0)) := ⟨_, rfl⟩
  have hB : Below w.heap.size w w3 := by rw [hw3]; exact (((Below.refl w.heap.size w).alloc (Nat.le_refl _) _).alloc (by simp) _).alloc (by simp; omega) _
  have hga : w3.heap[w.heap.size]? = some (acO a (.slice Aa a.f6.length ca)) := by rw [hw3]; exact blk_below (heap_alloc_new w _) (((Below.refl _ _).alloc (Nat.le_refl _) _).alloc (by simp) _)
  have hgb : w3.heap[w.heap.size + 1]? = some (acO b (.slice Ab b.f6.length cb)) := by
    rw [hw3]
    have := blk_below (heap_alloc_new (w.alloc (acO a (.slice Aa a.f6.length ca))) (acO b (.slice Ab b.f6.length cb))) ((Below.refl _ _).alloc (Nat.le_refl _) (acO z28 (.slice none 0 0)))
    simpa using this
  have hgo : w3.heap[w.heap.size + 2]? = some (acO z28 (.slice none 0 0)) := by
    rw [hw3]
    have := heap_alloc_new ((w.alloc (acO a (.slice Aa a.f6.length ca))).alloc (acO b (.slice Ab b.f6.length cb))) (acO z28 (.slice none 0 0))
    simpa using this
  have hs3 : w3.heap.size = w.heap.size + 3 := by rw [hw3]; simp
  have HB := Lib.hid hB
  have HGA := Lib.hid hga
  have HGB := Lib.hid hgb
  have HGO := Lib.hid hgo
  have HS := Lib.hid hs3
  have HW3 := Lib.hid hw3
  clear hB hga hgb hgo hs3 hw3
  obtain ⟨hc1, hc2⟩ := HK.out.c1
  obtain ⟨hc3, hc4⟩ := HK.out.c2
  obtain ⟨hs1, hs2⟩ := HK.out.s1
  obtain ⟨hs5, hs6⟩ := HK.out.s2
  obtain ⟨m2, hm2⟩ : ∃ m, (if b.f2 < a.f2 then b.f2 else a.f2) = m := ⟨_, rfl⟩
  obtain ⟨m3, hm3⟩ : ∃ m, (if a.f3 < b.f3 then b.f3 else a.f3) = m := ⟨_, rfl⟩
  have H0 := Lib.hid (show tw0 a b = ⟨a.f0 + b.f0, a.f1 + b.f1, m2, m3, a.f4, b.f5, []⟩ by unfold tw0; rw [hm2, hm3])
  unfold acV
  go_enter Try.func53, Try.ntmps53
  go_wp2_with fail
  show Calls _ _ _ (((((w.alloc (acO a (.slice Aa a.f6.length ca))).alloc (acO b (.slice Ab b.f6.length cb))).alloc (acO z28 (.slice none 0 0)))).alloc (acO ⟨a.f0 + b.f0, a.f1 + b.f1, m2, m3, a.f4, b.f5, []⟩ (.slice none 0 0))) _
  rw [← H0.out, ← HW3.out]
  clear hc1 hc2 hc3 hc4 hs1 hs2 hs5 hs6 hm2 hm3 HW3
  have hb4 : Below w3.heap.size w3 (w3.alloc (acO (tw0 a b) (.slice none 0 0))) := (Below.refl _ _).alloc (Nat.le_refl _) _
  have HC4 := Lib.hid (show (w3.alloc (acO (tw0 a b) (.slice none 0 0))).heap[w.heap.size + 3]? = some (acO (tw0 a b) (.slice none 0 0)) by rw [← HS.out]; exact heap_alloc_new w3 _)
  have HGA4 := Lib.hid (blk_below HGA.out hb4)
  have HGB4 := Lib.hid (blk_below HGB.out hb4)
  have HGO4 := Lib.hid (blk_below HGO.out hb4)
  have HB4 := Lib.hid (HB.out.trans (hb4.mono HB.out.size))
  clear hb4 HGA HGB HGO HB HS
  generalize w3.alloc (acO (tw0 a b) (.slice none 0 0)) = w4 at *
  refine (bef_any b.f4 a.f4 _).mono ?_
  rintro e w5 ⟨rfl, hb⟩
  have HC5 := Lib.hid (blk_below HC4.out hb)
  have HGA5 := Lib.hid (blk_below HGA4.out hb)
  have HGB5 := Lib.hid (blk_below HGB4.out hb)
  have HGO5 := Lib.hid (blk_below HGO4.out hb)
  have HB5 := Lib.hid (HB4.out.trans (hb.mono HB4.out.size))
  clear hb HC4 HGA4 HGB4 HGO4 HB4
  obtain ⟨c0, c1, c2, c3, c4, c5, c6, c7, c8, c9, c10, c11, c12, cl⟩ := acO_facts HC5.out
  obtain ⟨a0, a1, a2, a3, a4, a5, a6, a7, a8, a9, a10, a11, a12, al⟩ := acO_facts HGA5.out
  obtain ⟨b0, b1, b2, b3, b4, b5, b6, b7, b8, b9, b10, b11, b12, bl⟩ := acO_facts HGB5.out
  have hf := fun j => blk_free HC5.out j
  have htw1 : tw1 a b = if bef b.f4 a.f4 = true then ⟨(tw0 a b).f0, (tw0 a b).f1, (tw0 a b).f2, (tw0 a b).f3, b.f4, b.f5, []⟩ else tw0 a b := rfl
  have H1 := Lib.hid htw1
  clear htw1
  generalize bef b.f4 a.f4 = q1 at *
  cases q1
  focus
    have h9 := H1.out
    rw [if_neg (by decide)] at h9
    rw [← h9] at HC5
    clear H1 h9
    go_wp2_with fail
    clear a0 a1 a2 a3 a4 a5 a6 a7 a8 a9 a10 a11 a12 al b0 b1 b2 b3 b4 b5 b6 b7 b8 b9 b10 b11 b12 bl c0 c1 c2 c3 c4 c5 c6 c7 c8 c9 c10 c11 c12 cl hf
    have HC6 := Lib.hid HC5.out
    have HGA6 := Lib.hid HGA5.out
    have HGB6 := Lib.hid HGB5.out
    have HGO6 := Lib.hid HGO5.out
    have HB6 := Lib.hid HB5.out
    clear HC5 HGA5 HGB5 HGO5 HB5
    generalize w5 = w6 at *
  rotate_left 1
  focus
    have h9 := H1.out
    rw [if_pos rfl] at h9
    have H9 := Lib.hid h9
    clear H1 h9
    go_wp2_with fail
    show Calls _ _ _ (put4c w5 (w.heap.size + 3) 4 b.f4) _
    have hbk := blk_put4 HC5.out 4 b.f4
    simp only [List.setIfInBounds_toArray, List.set_cons_zero, List.set_cons_succ] at hbk
    have hch := put4c_chg (Chg.refl (fun k => k = w.heap.size + 3) w5) 4 b.f4
    have HC6 := Lib.hid (show (put4c w5 (w.heap.size + 3) 4 b.f4).heap[w.heap.size + 3]? = some (acO (tw1 a b) (.slice none 0 0)) by rw [H9.out]; exact hbk)
    have HGA6 := Lib.hid (hch.obj HGA5.out (by omega))
    have HGB6 := Lib.hid (hch.obj HGB5.out (by omega))
    have HGO6 := Lib.hid (hch.obj HGO5.out (by omega))
    have HB6 := Lib.hid (Chg.base HB5.out hch HB5.out.size (fun i hi => by omega))
    clear hbk hch a0 a1 a2 a3 a4 a5 a6 a7 a8 a9 a10 a11 a12 al b0 b1 b2 b3 b4 b5 b6 b7 b8 b9 b10 b11 b12 bl c0 c1 c2 c3 c4 c5 c6 c7 c8 c9 c10 c11 c12 cl hf H9 HC5 HGA5 HGB5 HGO5 HB5
    generalize put4c w5 (w.heap.size + 3) 4 b.f4 = w6 at *
  all_goals
    refine (bef_any b.f5 a.f5 _).mono ?_
    rintro e w7 ⟨rfl, hb⟩
    have HC7 := Lib.hid (blk_below HC6.out hb)
    have HGA7 := Lib.hid (blk_below HGA6.out hb)
    have HGB7 := Lib.hid (blk_below HGB6.out hb)
    have HGO7 := Lib.hid (blk_below HGO6.out hb)
    have HB7 := Lib.hid (HB6.out.trans (hb.mono HB6.out.size))
    clear hb HC6 HGA6 HGB6 HGO6 HB6
    obtain ⟨c0, c1, c2, c3, c4, c5, c6, c7, c8, c9, c10, c11, c12, cl⟩ := acO_facts HC7.out
    obtain ⟨a0, a1, a2, a3, a4, a5, a6, a7, a8, a9, a10, a11, a12, al⟩ := acO_facts HGA7.out
    have hf := fun j => blk_free HC7.out j
    have htw2 : tw2 a b = if bef b.f5 a.f5 = true then ⟨(tw1 a b).f0, (tw1 a b).f1, (tw1 a b).f2, (tw1 a b).f3, (tw1 a b).f4, a.f5, []⟩ else tw1 a b := rfl
    have H2 := Lib.hid htw2
    clear htw2
    generalize bef b.f5 a.f5 = q2 at *
    cases q2
    focus
      have h9 := H2.out
      rw [if_neg (by decide)] at h9
      rw [← h9] at HC7
      clear H2 h9
      go_wp2_with fail
      clear a0 a1 a2 a3 a4 a5 a6 a7 a8 a9 a10 a11 a12 al c0 c1 c2 c3 c4 c5 c6 c7 c8 c9 c10 c11 c12 cl hf
      have HC8 := Lib.hid HC7.out
      have HGA8 := Lib.hid HGA7.out
      have HGB8 := Lib.hid HGB7.out
      have HGO8 := Lib.hid HGO7.out
      have HB8 := Lib.hid HB7.out
      clear HC7 HGA7 HGB7 HGO7 HB7
      generalize w7 = w8 at *
    rotate_left 1
    focus
      have h9 := H2.out
      rw [if_pos rfl] at h9
      have H9 := Lib.hid h9
      clear H2 h9
      go_wp2_with fail
      show Code.wp _ _ _ _ (put4c w7 (w.heap.size + 3) 8 a.f5)
      have hbk := blk_put4 HC7.out 8 a.f5
      simp only [List.setIfInBounds_toArray, List.set_cons_zero, List.set_cons_succ] at hbk
      have hch := put4c_chg (Chg.refl (fun k => k = w.heap.size + 3) w7) 8 a.f5
      have HC8 := Lib.hid (show (put4c w7 (w.heap.size + 3) 8 a.f5).heap[w.heap.size + 3]? = some (acO (tw2 a b) (.slice none 0 0)) by rw [H9.out]; exact hbk)
      have HGA8 := Lib.hid (hch.obj HGA7.out (by omega))
      have HGB8 := Lib.hid (hch.obj HGB7.out (by omega))
      have HGO8 := Lib.hid (hch.obj HGO7.out (by omega))
      have HB8 := Lib.hid (Chg.base HB7.out hch HB7.out.size (fun i hi => by omega))
      clear hbk hch a0 a1 a2 a3 a4 a5 a6 a7 a8 a9 a10 a11 a12 al c0 c1 c2 c3 c4 c5 c6 c7 c8 c9 c10 c11 c12 cl hf H9 HC7 HGA7 HGB7 HGO7 HB7
      generalize put4c w7 (w.heap.size + 3) 8 a.f5 = w8 at *
    all_goals
      go_loopw [6] (fun s wr => ∃ (k : Nat) (v : Value), s = .int .i64 k ∧ k ≤ a.f6.length ∧ TwAt w wr (w.heap.size + 3) (tw2 a b) ((hadd a.f6 b.f6).take k) v ∧ TwIn wr w.heap.size a b Aa ca Ab cb) (fun s _ => a.f6.length - (intOf s).toNat)
      case atStart =>
        refine ⟨0, .slice none 0 0, rfl, by omega, ⟨?_, Own.nil _ _, HB8.out⟩, HGA8.out, HGB8.out, HGO8.out⟩
        rw [HC8.out]
        congr 2
        unfold tw3
        have := tw_f6 a b
        cases htw : tw2 a b
        rw [htw] at this
        simp only at this
        subst this
        rfl
      case round =>
        obtain ⟨k, v, rfl, hk, ht, hin⟩ := hrel
        have HT := Lib.hid ht
        have HIN := Lib.hid hin
        have hl := HK.out.len
        have hl9 := HK.out.l9
        have HL := Lib.hid hl
        clear ht hin hl
        have hgl := blk_lt HT.out.blk
        obtain ⟨c0, c1, c2, c3, c4, c5, c6, c7, c8, c9, c10, c11, c12, cl⟩ := acO_facts HT.out.blk
        obtain ⟨a0, a1, a2, a3, a4, a5, a6, a7, a8, a9, a10, a11, a12, al⟩ := acO_facts HIN.out.ga
        obtain ⟨b0, b1, b2, b3, b4, b5, b6, b7, b8, b9, b10, b11, b12, bl⟩ := acO_facts HIN.out.gb
        obtain ⟨z0, z1, z2, z3, z4, z5, z6, z7, z8, z9, z10, z11, z12, zl⟩ := acO_facts HIN.out.go
        clear c0 c1 c2 c3 c4 c5 c6 c7 c8 c9 c10 c11 a0 a1 a2 a3 a4 a5 a6 a7 a8 a9 a10 a11 b0 b1 b2 b3 b4 b5 b6 b7 b8 b9 b10 b11
        by_cases hlt : k < a.f6.length
        · clear z0 z1 z2 z3 z4 z5 z6 z7 z8 z9 z10 z11 z12 zl
          obtain ⟨ada, rfl, ea⟩ := ((HA.out).below HT.out.bel).at_ hlt
          have hltb : k < b.f6.length := by have := HL.out; omega
          obtain ⟨adb, rfl, eb⟩ := ((HBB.out).below HT.out.bel).at_ hltb
          obtain ⟨n1, n2⟩ := HK.out.h1 k hlt
          obtain ⟨n3, n4⟩ := HK.out.h2 k hlt
          have hsn := hadd_take HL.out hlt
          obtain ⟨na, hna⟩ : ∃ n, a.f6.getD k 0 = n := ⟨_, rfl⟩
          obtain ⟨nb, hnb⟩ : ∃ n, b.f6.getD k 0 = n := ⟨_, rfl⟩
          rw [hna] at ea n1 n2 hsn
          rw [hnb] at eb n3 n4 hsn
          have HSN := Lib.hid hsn
          clear hsn hna hnb
          have hda : decide (k < a.f6.length) = true := decide_eq_true hlt
          have hdb : decide (k < b.f6.length) = true := decide_eq_true hltb
          go_wp2_with fail
          refine Txt.wp_region_mix (by kernel_rfl) (by kernel_rfl) (fun HB => ?_)
          repeat (first
            | (refine Txt.mix_p (by rfl) rfl rfl (fun K hK => ?_); go_big_quiet_op; refine hK _ ?_; clear hK K)
            | (refine Txt.mix_re (by rfl) (by decide +kernel) (by rfl) (by rfl) (by go_simp) HB (fun K hK => ?_); go_big_quiet_op; refine hK _ ?_; clear hK K)
            | (refine Txt.mix_rl (by rfl) (by decide +kernel) (by rfl) (by rfl) (by go_simp) HB (fun K hK => ?_); go_big_quiet_op; refine hK _ ?_; clear hK K)
            | (refine Txt.mix_pass (by rfl) (by rfl) ?_; simp only [List.set_cons_succ, List.set_cons_zero]))
          refine Txt.mix_m (fun g => .slice (some ⟨g, 0, none⟩) 1 1) (.cells #[.int .i64 (na + nb)] 3) (by rfl) (by decide +kernel) (fun w1 => by go_simp) HB ?_
          intro gn wn hbn hgn hon
          replace HB := HB.trans hbn
          simp only [Act.put, List.setIfInBounds_toArray, List.set_cons_succ, List.set_cons_zero]
          have HT2 := Lib.hid (HT.out.below HB.undrew)
          have HIN2 := Lib.hid (HIN.out.below HB.undrew)
          have HON := Lib.hid hon
          clear hon hgn hbn HT HIN c12 cl a12 al b12 bl ea eb hda hdb hgl
          have hlk : ((hadd a.f6 b.f6).take k).length = k := by
            rw [List.length_take]
            have : (hadd a.f6 b.f6).length = a.f6.length := by unfold hadd; rw [List.length_zipWith]; have := HL.out; omega
            omega
          have HLK := Lib.hid hlk
          clear hlk
          refine Txt.mix_a (by rfl) (by decide +kernel) (fun K hK => ?_)
          refine wp_append (.tmp 56) (.tmp 68) 22 3 (.int .i64 0) 1 8 w.heap.size rfl Try.underlying22 info_int rfl (by decide) v k 1 (((hadd a.f6 b.f6).take k).map (Value.int .i64)) [.int .i64 (na + nb)] gn 1 rfl rfl (by have := HT2.out.row; unfold Own at this; rw [HLK.out] at this; exact this) HT2.out.bel.size rfl ?_ ?_ (by omega) (by omega) ?_
          · intro j u hu
            rw [blk_cell HON.out]
            exact (List.getElem?_toArray).trans hu
          · intro u hu
            simp only [List.mem_cons, List.not_mem_nil, or_false] at hu
            subst hu
            rfl
          intro v1 w1 hown hgr hat
          refine hK _ _ ?_
          clear hK K
          simp only [Act.put, List.setIfInBounds_toArray, List.set_cons_succ, List.set_cons_zero]
          have hch : Chg (fun i => some i = v.ownBlock) wn w1 := (Chg.refl _ wn).grown hgr (fun j hj => .inl hj.symm)
          have hblk := hch.obj HT2.out.blk (own_no HT2.out.row HT2.out.blk)
          have HIN3 := Lib.hid (HIN2.out.chg hch (own_no HT2.out.row HIN2.out.ga) (own_no HT2.out.row HIN2.out.gb) (own_no HT2.out.row HIN2.out.go))
          have hrow : Own w1 w.heap.size v1 ((hadd a.f6 b.f6).take (k + 1)) := by
            rw [HSN.out]
            unfold Own
            rw [List.length_append, HLK.out, List.map_append]
            exact hown
          obtain ⟨Ar, cr, rfl, _, _⟩ := hrow.reads
          obtain ⟨lr, hlr⟩ : ∃ n, ((hadd a.f6 b.f6).take (k + 1)).length = n := ⟨_, rfl⟩
          rw [hlr] at hrow hown ⊢
          clear hlr
          have hb1 := Chg.base HT2.out.bel hch HT2.out.bel.size (fun i hi => own_base HT2.out.row i hi.symm)
          have HROW := Lib.hid hrow
          have HB1 := Lib.hid hb1
          have HBLK := Lib.hid hblk
          have hc12 := (acO_facts hblk).2.2.2.2.2.2.2.2.2.2.2.2.1
          have hf := fun j => blk_free hblk j
          clear hown hgr hat hch hrow hb1 HT2 HIN2 HON hblk HB
          repeat (first
            | (refine Txt.mix_p (by rfl) rfl rfl (fun K hK => ?_); go_big_quiet_op; refine hK _ ?_; clear hK K)
            | (refine Txt.mix_re (by rfl) (by decide +kernel) (by rfl) (by rfl) (by go_simp) HB (fun K hK => ?_); go_big_quiet_op; refine hK _ ?_; clear hK K)
            | (refine Txt.mix_rl (by rfl) (by decide +kernel) (by rfl) (by rfl) (by go_simp) HB (fun K hK => ?_); go_big_quiet_op; refine hK _ ?_; clear hK K)
            | (refine Txt.mix_pass (by rfl) (by rfl) ?_; simp only [List.set_cons_succ, List.set_cons_zero]))
          refine Txt.mix_a (by rfl) (by decide +kernel) (fun K hK => ?_)
          go_wp2_with fail
          refine Txt.mix_nil ?_
          have hc2 := (Chg.refl (fun i => i = w.heap.size + 3) w1).setCell (p := ⟨w.heap.size + 3, 12, none⟩) (.inl rfl) (.slice Ar lr cr)
          have hbl2 : (w1.setCell ⟨w.heap.size + 3, 12, none⟩ (.slice Ar lr cr)).heap[w.heap.size + 3]? = some (acO (tw3 (tw2 a b) ((hadd a.f6 b.f6).take (k + 1))) (.slice Ar lr cr)) := by
            have := blk_set HBLK.out 12 (.slice Ar lr cr)
            simp only [List.setIfInBounds_toArray, List.set_cons_zero, List.set_cons_succ] at this
            exact this
          have HT4 := Lib.hid (show TwAt w (w1.setCell ⟨w.heap.size + 3, 12, none⟩ (.slice Ar lr cr)) (w.heap.size + 3) (tw2 a b) ((hadd a.f6 b.f6).take (k + 1)) (.slice Ar lr cr) from ⟨hbl2, HROW.out.keep hc2 (fun j hj e => own_no HROW.out HBLK.out (by rw [hj, e])), Chg.base HB1.out hc2 HB1.out.size (fun i hi => by omega)⟩)
          have HIN4 := Lib.hid (HIN3.out.chg hc2 (by omega) (by omega) (by omega))
          clear hc2 hbl2 HROW HB1 HBLK HIN3 hc12 hf
          first | show Exit.inBlock _ _ _ _ (w1.setCell ⟨w.heap.size + 3, 12, none⟩ (.slice Ar lr cr)) | show Exit.then _ _ _ _ (w1.setCell ⟨w.heap.size + 3, 12, none⟩ (.slice Ar lr cr)) | show Code.wp _ _ _ _ (w1.setCell ⟨w.heap.size + 3, 12, none⟩ (.slice Ar lr cr))
          generalize w1.setCell ⟨w.heap.size + 3, 12, none⟩ (.slice Ar lr cr) = w9 at *
          go_wp2_with fail
          exact ⟨⟨k + 1, (.slice Ar lr cr), by go_num, by omega, HT4.out, HIN4.out⟩, by simp [intOf]; omega⟩
        · obtain rfl : k = a.f6.length := by omega
          have hlen : (hadd a.f6 b.f6).length = a.f6.length := by unfold hadd; rw [List.length_zipWith]; have := HL.out; omega
          have hta : tw3 (tw2 a b) ((hadd a.f6 b.f6).take a.f6.length) = twoA a b := by rw [← hlen, List.take_length]; rfl
          obtain ⟨c0, c1, c2, c3, c4, c5, c6, c7, c8, c9, c10, c11, _, _⟩ := acO_facts HT.out.blk
          have hfo := fun j => blk_free HIN.out.go j
          rw [hta] at c0 c1 c2 c3 c4 c5 c6 c7 c8 c9 c10 c11
          obtain ⟨Ar, cr, rfl, _, _⟩ := HT.out.row.reads
          rw [show ((hadd a.f6 b.f6).take a.f6.length).length = a.f6.length by rw [List.length_take]; omega] at c12 HT
          have HTA := Lib.hid hta
          clear hta
          go_wp2_with fail
          show bodyPost _ _ _ _ _ (putA wr (w.heap.size + 2) (twoA a b) (.slice Ar a.f6.length cr))
          have hch := putA_chg wr (w.heap.size + 2) (twoA a b) (.slice Ar a.f6.length cr)
          refine bodyPost_ret (results_cell_row rfl _ _ (w.heap.size + 2) 28 _ (0, 0) _ rfl (putA_blk (a := twoA a b) (v := .slice Ar a.f6.length cr) HIN.out.go) Try.underlying28 rfl (by kernel_rfl)) rfl ?_
          refine ⟨.slice Ar a.f6.length cr, rfl, ?_, Chg.base HT.out.bel hch HT.out.bel.size (fun i hi => by omega)⟩
          have hr := HT.out.row.keep hch (fun j hj e => own_no HT.out.row HIN.out.go (by rw [hj, e]))
          rw [show (twoA a b).f6 = (hadd a.f6 b.f6).take a.f6.length by rw [← hlen, List.take_length]; rfl]
          exact hr
end Go.Proofs.Ytggaefklcpbfnaa.My

/-! AccN -/
namespace Go.Proofs.Ytggaefklcpbfnaa.My
open Go.RowKit Pa Go.Proofs.YtggaefklcpbfnaaW.PrintWords

/-- What may be known of some items, part by part. -/
structure May1 (bs : List Int) (a : S28) : Prop where
  bm : bmay bs = true
  len : a.f6.length = bs.length + 1
  hn : ∀ x ∈ a.f6, 0 ≤ x
  hs : a.f6.sum = a.f0
  c : 1 ≤ a.f0 ∧ a.f0 ≤ 8192
  m2 : wm a.f2 = true
  m3 : wm a.f3 = true
  m : a.f2 ≤ a.f3
  i4 : imay a.f4 = true
  i5 : imay a.f5 = true
  v4 : a.f2 ≤ a.f4.f3 ∧ a.f4.f3 ≤ a.f3
  v5 : a.f2 ≤ a.f5.f3 ∧ a.f5.f3 ≤ a.f3
  ser : a.f4.f0 = a.f5.f0
  o : ord a.f4 a.f5 ≤ 0
  s1 : a.f0 * a.f2 ≤ a.f1
  s2 : a.f1 ≤ a.f0 * a.f3
theorem sum_le_mem {h : List Int} (ha : ∀ x ∈ h, 0 ≤ x) : ∀ x ∈ h, x ≤ h.sum := by
  induction h with
  | nil => simp
  | cons y r ih =>
    intro x hx
    have h0 : 0 ≤ r.sum := by
      clear ih hx
      induction r with
      | nil => simp
      | cons z r ih2 =>
        have := ih2 (fun q hq => ha q (by simp at hq ⊢; rcases hq with h | h <;> simp [h]))
        have := ha z (by simp)
        simp only [List.sum_cons]
        omega
    have h1 := ha y (by simp)
    rw [List.sum_cons]
    rcases List.mem_cons.1 hx with rfl | h
    · omega
    · have := ih (fun z hz => ha z (by simp [hz])) x h
      omega
theorem May1.amay {bs : List Int} {a : S28} (h : May1 bs a) : amay a bs = true := by
  have hc := h.c
  have hh : hmay a.f6 bs.length a.f0 = true := by
    unfold hmay
    rw [decide_eq_true h.len, decide_eq_true h.hs]
    have : a.f6.all nok = true := by
      rw [List.all_eq_true]
      intro x hx
      unfold nok
      rw [decide_eq_true_eq]
      have h1 := h.hn x hx
      have h2 := sum_le_mem h.hn x hx
      have h3 := h.hs
      omega
    rw [this]
    rfl
  have he : emay a = true := by
    unfold emay iok
    rw [h.i4, h.i5, decide_eq_true h.v4.1, decide_eq_true h.v4.2, decide_eq_true h.v5.1, decide_eq_true h.v5.2, decide_eq_true h.ser, decide_eq_true h.o]
    rfl
  unfold My.amay
  rw [h.bm, hh, he, h.m2, h.m3, decide_eq_true h.m, decide_eq_true h.s1, decide_eq_true h.s2, if_neg (by omega), decide_eq_true (show a.f6.length ≤ bs.length + 1 by have := h.len; omega), decide_eq_true (show 0 ≤ a.f0 by omega), decide_eq_true hc.2]
  rfl
theorem May1.of {bs : List Int} {a : S28} (h : My.amay a bs = true) (h0 : a.f0 ≠ 0) : May1 bs a := by
  unfold My.amay at h
  simp only [Bool.and_eq_true, decide_eq_true_eq] at h
  obtain ⟨hb, _, hh, c0, c8, h⟩ := h
  rw [if_neg h0] at h
  simp only [Bool.and_eq_true, decide_eq_true_eq] at h
  obtain ⟨w2, w3, hm, he, s1, s2⟩ := h
  unfold hmay at hh
  simp only [Bool.and_eq_true, decide_eq_true_eq, List.all_eq_true] at hh
  obtain ⟨⟨hn, hl⟩, hs⟩ := hh
  unfold emay iok at he
  simp only [Bool.and_eq_true, decide_eq_true_eq] at he
  obtain ⟨⟨i4, v4, v4'⟩, ⟨i5, v5, v5'⟩, ser, o⟩ := he
  refine ⟨hb, hl, fun x hx => ?_, hs, ⟨by omega, c8⟩, w2, w3, hm, i4, i5, ⟨v4, v4'⟩, ⟨v5, v5'⟩, ser, o, s1, s2⟩
  have := hn x hx
  unfold nok at this
  rw [decide_eq_true_eq] at this
  exact this.1
theorem imay_v {x : S26} (h : imay x = true) : -1099511627776 ≤ x.f3 ∧ x.f3 ≤ 1099511627776 := by
  unfold imay at h
  rw [decide_eq_true_eq] at h
  exact ⟨h.2.2.2.2.2.2.1, h.2.2.2.2.2.2.2⟩
theorem ord_self (a : S26) : ord a a = 0 := by
  unfold ord
  simp
theorem set_sum : ∀ (n i : Nat), i < n → ((List.replicate n (0 : Int)).set i 1).sum = 1
  | 0, i, h => absurd h (by omega)
  | n + 1, 0, _ => by
    rw [List.replicate_succ, List.set_cons_zero, List.sum_cons]
    have : (List.replicate n (0 : Int)).sum = 0 := by simp
    omega
  | n + 1, i + 1, h => by
    rw [List.replicate_succ, List.set_cons_succ, List.sum_cons, set_sum n i (by omega)]
    omega
theorem may1_one {x : S26} {bs : List Int} (hx : imay x = true) (hb : bmay bs = true) : May1 bs (one x bs) := by
  have hv := imay_v hx
  have hw : wm x.f3 = true := by
    unfold wm
    rw [decide_eq_true_eq]
    exact hv
  refine ⟨hb, by simp [one], fun y hy => ?_, ?_, by simp [one], hw, hw, Int.le_refl _, hx, hx, ⟨Int.le_refl _, Int.le_refl _⟩, ⟨Int.le_refl _, Int.le_refl _⟩, rfl, ?_, ?_, ?_⟩
  · rcases List.mem_or_eq_of_mem_set hy with h | h
    · have := List.eq_of_mem_replicate h
      omega
    · omega
  · exact set_sum _ _ (by have := bucket_le bs x.f3; omega)
  · show ord x x ≤ 0
    rw [ord_self]
    exact Int.le_refl _
  · show 1 * x.f3 ≤ x.f3
    omega
  · show x.f3 ≤ 1 * x.f3
    omega
theorem bef_ord (a b : S26) : bef a b = decide (ord a b < 0) := by
  unfold bef ord
  by_cases h1 : a.f1 < b.f1
  · simp [h1]
  · by_cases h2 : b.f1 < a.f1
    · have : ¬ a.f1 = b.f1 := by omega
      simp [h1, h2, this]
    · have h3 : a.f1 = b.f1 := by omega
      by_cases h4 : a.f2 < b.f2
      · simp [h3, h4]
      · by_cases h5 : b.f2 < a.f2 <;> simp [h3, h4, h5]
theorem ord_le_trans {a b c : S26} (h1 : ord a b ≤ 0) (h2 : ord b c ≤ 0) : ord a c ≤ 0 := by
  unfold ord at *
  (repeat' split at h1) <;> (repeat' split at h2) <;> (repeat' split) <;> omega
theorem ord_lt {a b : S26} (h : ¬ ord a b < 0) : ord b a ≤ 0 := by
  unfold ord at *
  (repeat' split at h) <;> (repeat' split) <;> omega
theorem tw_parts (a b : S28) : (twoA a b).f0 = a.f0 + b.f0 ∧ (twoA a b).f1 = a.f1 + b.f1 ∧ (twoA a b).f2 = (if b.f2 < a.f2 then b.f2 else a.f2) ∧ (twoA a b).f3 = (if a.f3 < b.f3 then b.f3 else a.f3) ∧ (twoA a b).f4 = (if ord b.f4 a.f4 < 0 then b.f4 else a.f4) ∧ (twoA a b).f5 = (if ord b.f5 a.f5 < 0 then a.f5 else b.f5) ∧ (twoA a b).f6 = hadd a.f6 b.f6 := by
  unfold twoA tw3 tw2 tw1 tw0
  rw [bef_ord, bef_ord]
  by_cases h1 : ord b.f4 a.f4 < 0 <;> by_cases h2 : ord b.f5 a.f5 < 0 <;> simp [h1, h2]
theorem hadd_sum : ∀ {h n : List Int}, n.length = h.length → (hadd h n).sum = h.sum + n.sum
  | [], n, hl => by
    have := List.eq_nil_of_length_eq_zero hl
    subst this
    rfl
  | a :: h, n, hl => by
    cases n with
    | nil => simp at hl
    | cons b n =>
      have ih := hadd_sum (h := h) (n := n) (by simpa using hl)
      unfold hadd at *
      simp only [List.zipWith_cons_cons, List.sum_cons, ih]
      omega
theorem hadd_mem : ∀ {h n : List Int}, (∀ x ∈ h, 0 ≤ x) → (∀ x ∈ n, 0 ≤ x) → ∀ x ∈ hadd h n, 0 ≤ x
  | [], n, _, _, x, hx => by simp [hadd] at hx
  | a :: h, [], _, _, x, hx => by simp [hadd] at hx
  | a :: h, b :: n, h1, h2, x, hx => by
    unfold hadd at hx
    rw [List.zipWith_cons_cons] at hx
    rcases List.mem_cons.1 hx with rfl | h
    · have := h1 a (by simp)
      have := h2 b (by simp)
      omega
    · exact hadd_mem (fun y hy => h1 y (by simp [hy])) (fun y hy => h2 y (by simp [hy])) x h
theorem hadd_length {h n : List Int} (hl : n.length = h.length) : (hadd h n).length = h.length := by
  unfold hadd
  rw [List.length_zipWith]
  omega
theorem may1_two {bs : List Int} {a b : S28} (ha : May1 bs a) (hb : May1 bs b) (hs : a.f4.f0 = b.f4.f0) (hc : a.f0 + b.f0 ≤ 8192) : May1 bs (twoA a b) := by
  obtain ⟨e0, e1, e2, e3, e4, e5, e6⟩ := tw_parts a b
  have hl : b.f6.length = a.f6.length := by rw [ha.len, hb.len]
  have ca := ha.c
  have cb := hb.c
  refine ⟨ha.bm, by rw [e6, hadd_length hl]; exact ha.len, by rw [e6]; exact hadd_mem ha.hn hb.hn, by rw [e6, hadd_sum hl, ha.hs, hb.hs, e0], by rw [e0]; omega, by rw [e2]; split; exact hb.m2; exact ha.m2, by rw [e3]; split; exact hb.m3; exact ha.m3, ?_, by rw [e4]; split; exact hb.i4; exact ha.i4, by rw [e5]; split; exact ha.i5; exact hb.i5, ?_, ?_, ?_, ?_, ?_, ?_⟩
  · rw [e2, e3]
    have := ha.m
    have := hb.m
    split <;> split <;> omega
  · rw [e2, e3, e4]
    have := ha.v4
    have := hb.v4
    split <;> split <;> split <;> omega
  · rw [e2, e3, e5]
    have := ha.v5
    have := hb.v5
    split <;> split <;> split <;> omega
  · rw [e4, e5]
    have := ha.ser
    have := hb.ser
    split <;> split <;> omega
  · rw [e4, e5]
    split
    · rename_i h
      split
      · exact ord_le_trans (Int.le_of_lt h) ha.o
      · exact hb.o
    · split
      · exact ha.o
      · rename_i h1 h2
        exact ord_le_trans ha.o (ord_lt h2)
  · rw [e0, e1, e2, Int.add_mul]
    have h1 := ha.s1
    have h2 := hb.s1
    split
    · have := Int.mul_le_mul_of_nonneg_left (show b.f2 ≤ a.f2 by omega) (show 0 ≤ a.f0 by omega)
      omega
    · have := Int.mul_le_mul_of_nonneg_left (show a.f2 ≤ b.f2 by omega) (show 0 ≤ b.f0 by omega)
      omega
  · rw [e0, e1, e3, Int.add_mul]
    have h1 := ha.s2
    have h2 := hb.s2
    split
    · have := Int.mul_le_mul_of_nonneg_left (show a.f3 ≤ b.f3 by omega) (show 0 ≤ a.f0 by omega)
      omega
    · have := Int.mul_le_mul_of_nonneg_left (show b.f3 ≤ a.f3 by omega) (show 0 ≤ b.f0 by omega)
      omega
theorem May1.ok {bs : List Int} {a b : S28} (ha : May1 bs a) (hb : May1 bs b) : TwoOk a b := by
  have ca := ha.c
  have cb := hb.c
  have fa := amay_fit ha.amay
  have fb := amay_fit hb.amay
  have la := fa.s
  have lb := fb.s
  have h8 := bmay_len ha.bm
  have l1 := ha.len
  have l2 := hb.len
  refine ⟨by omega, by omega, by omega, by omega, by omega, by omega, fun i hi => ?_, fun i hi => ?_⟩
  · have := fa.h i hi
    omega
  · have := fb.h i (by omega)
    omega
end Go.Proofs.Ytggaefklcpbfnaa.My

/-! EmptyP -/
namespace Go.Proofs.Ytggaefklcpbfnaa.My
open Go.RowKit Pa Go.Proofs.YtggaefklcpbfnaaW.PrintWords
set_option linter.unusedSimpArgs false

theorem nok_zero : nok 0 = true := by decide
theorem sum_zeros (n : Nat) : (List.replicate n (0 : Int)).sum = 0 := by
  induction n with
  | zero => rfl
  | succ n ih => rw [List.replicate_succ, List.sum_cons, ih]; rfl
theorem amay_zero {bs : List Int} (hb : bmay bs = true) : amay (join0 bs) bs = true := by
  have hh : hmay (List.replicate (bs.length + 1) 0) bs.length 0 = true := by
    unfold hmay
    rw [sum_zeros]
    simp [nok_zero]
  unfold amay
  show (bmay bs && (decide ((List.replicate (bs.length + 1) (0 : Int)).length ≤ bs.length + 1) && (hmay (List.replicate (bs.length + 1) 0) bs.length 0 && (decide ((0 : Int) ≤ 0) && (decide ((0 : Int) ≤ 8192) && (if (0 : Int) = 0 then bareB (join0 bs) else _)))))) = true
  rw [hb, hh, if_pos rfl]
  simp [bareB, join0, isz, z26]
theorem join_none {bs : List Int} (hb : bmay bs = true) : joinRes bs [] = (join0 bs, 0) := by
  unfold joinRes
  rw [if_pos (show allm bs (-1) [] = true from hb), if_neg (show ¬ 8192 < cnt [] from by decide)]
  rfl
theorem step_zero (o : S28) (bs : List Int) : stepA o (join0 bs) = o := by
  unfold stepA
  exact if_neg (show ¬ (0 : Int) < 0 by decide)
theorem hadd_zeros : ∀ (l : List Int), hadd (List.replicate l.length 0) l = l
  | [] => rfl
  | x :: r => by
    have ih := hadd_zeros r
    unfold hadd at ih ⊢
    rw [List.length_cons, List.replicate_succ, List.zipWith_cons_cons, ih, Int.zero_add]
theorem zero_step {a : S28} {bs : List Int} (ha : May1 bs a) : stepA (join0 bs) a = a := by
  have h0 := ha.c
  have hl := ha.len
  have hh : hadd (List.replicate (bs.length + 1) 0) a.f6 = a.f6 := by rw [← hl]; exact hadd_zeros _
  unfold stepA
  rw [if_pos (by omega)]
  obtain ⟨a0, a1, a2, a3, a4, a5, a6⟩ := a
  unfold addA fst_ add3 add4 add5 add6 join0
  simp only [ord_self] at *
  simp [hh]
theorem allm_zero {bs : List Int} (hb : bmay bs = true) (f : Int) (r : List S28) : allm bs f (join0 bs :: r) = allm bs f r := by
  rw [allm, if_pos (amay_zero hb)]
  exact if_neg (show ¬ (0 : Int) < 0 by decide)
theorem allm_one {bs : List Int} {a : S28} (ha : May1 bs a) (r : List S28) : allm bs (-1) (a :: r) = allm bs a.f4.f0 r := by
  rw [allm, if_pos ha.amay, if_pos (by have := ha.c; omega), if_neg (by omega)]
/-- One of four, the others empty. -/
def four (bs : List Int) (a : S28) (j : Nat) : List S28 := [join0 bs, join0 bs, join0 bs, join0 bs].set j a
theorem join_four {bs : List Int} {a : S28} (ha : May1 bs a) {j : Nat} (hj : j < 4) : joinRes bs (four bs a j) = (a, 0) := by
  have hb := ha.bm
  have hc := ha.c
  have hm : allm bs (-1) (four bs a j) = true := by
    unfold four
    match j, hj with
    | 0, _ => simp only [List.set_cons_zero, allm_one ha, allm_zero hb]; exact hb
    | 1, _ => simp only [List.set_cons_succ, List.set_cons_zero, allm_one ha, allm_zero hb]; exact hb
    | 2, _ => simp only [List.set_cons_succ, List.set_cons_zero, allm_one ha, allm_zero hb]; exact hb
    | 3, _ => simp only [List.set_cons_succ, List.set_cons_zero, allm_one ha, allm_zero hb]; exact hb
  have hn : cnt (four bs a j) = a.f0 := by
    unfold four cnt
    match j, hj with
    | 0, _ => simp [join0]
    | 1, _ => simp [join0]
    | 2, _ => simp [join0]
    | 3, _ => simp [join0]
  have hA : joinA bs (four bs a j) = a := by
    unfold four joinA
    match j, hj with
    | 0, _ => simp only [List.set_cons_zero, List.foldl_cons, List.foldl_nil, zero_step ha, step_zero]
    | 1, _ => simp only [List.set_cons_succ, List.set_cons_zero, List.foldl_cons, List.foldl_nil, step_zero, zero_step ha]
    | 2, _ => simp only [List.set_cons_succ, List.set_cons_zero, List.foldl_cons, List.foldl_nil, step_zero, zero_step ha]
    | 3, _ => simp only [List.set_cons_succ, List.set_cons_zero, List.foldl_cons, List.foldl_nil, step_zero, zero_step ha]
  unfold joinRes
  rw [if_pos hm, hn, if_neg (by omega), hA]
theorem join_two0 {bs : List Int} (hb : bmay bs = true) : joinRes bs [join0 bs, join0 bs] = (join0 bs, 0) := by
  have hm : allm bs (-1) [join0 bs, join0 bs] = true := by rw [allm_zero hb, allm_zero hb]; exact hb
  unfold joinRes
  rw [if_pos hm, if_neg (show ¬ 8192 < cnt [join0 bs, join0 bs] from by simp [cnt, join0])]
  unfold joinA
  simp only [List.foldl_cons, List.foldl_nil, step_zero]
end Go.Proofs.Ytggaefklcpbfnaa.My

/-! RowsP -/
namespace Go.Proofs.Ytggaefklcpbfnaa.My
open Go.RowKit Pa Go.Proofs.YtggaefklcpbfnaaW.PrintWords
set_option linter.unusedSimpArgs false

/-- So many in a bucket. -/
def cntJ (bs : List Int) (xs : List S26) (j : Nat) : Int := (xs.map (fun x => if bucket bs x.f3 = j then (1 : Int) else 0)).sum
/-- What is known of some items, in whatever row. -/
structure Rs (bs : List Int) (s : Int) (xs : List S26) (a : S28) : Prop where
  may : May1 bs a
  ser : a.f4.f0 = s
  c : a.f0 = xs.length
  s1 : a.f1 = (xs.map (·.f3)).sum
  n1 : ∀ x ∈ xs, a.f2 ≤ x.f3
  n2 : ∃ x ∈ xs, x.f3 = a.f2
  m1 : ∀ x ∈ xs, x.f3 ≤ a.f3
  m2 : ∃ x ∈ xs, x.f3 = a.f3
  f : a.f4 ∈ xs
  fl : ∀ x ∈ xs, ord a.f4 x ≤ 0
  l : a.f5 ∈ xs
  ll : ∀ x ∈ xs, ord x a.f5 ≤ 0
  h : ∀ j, j ≤ bs.length → a.f6.getD j 0 = cntJ bs xs j
theorem one_at {x : S26} {bs : List Int} {j : Nat} (hj : j ≤ bs.length) : (one x bs).f6.getD j 0 = if bucket bs x.f3 = j then 1 else 0 := by
  have hb := bucket_le bs x.f3
  show ((List.replicate (bs.length + 1) (0 : Int)).set (bucket bs x.f3) 1).getD j 0 = _
  rw [List.getD_eq_getElem?_getD, List.getElem?_set]
  by_cases h : bucket bs x.f3 = j
  · rw [if_pos h, if_pos h, if_pos (by simp; omega)]
    rfl
  · rw [if_neg h, if_neg h, List.getElem?_replicate, if_pos (by omega)]
    rfl
theorem rs_one {x : S26} {bs : List Int} (hx : imay x = true) (hb : bmay bs = true) : Rs bs x.f0 [x] (one x bs) := by
  refine ⟨may1_one hx hb, rfl, rfl, ?_, ?_, ⟨x, by simp, rfl⟩, ?_, ⟨x, by simp, rfl⟩, ?_, ?_, ?_, ?_, fun j hj => ?_⟩
  · show x.f3 = ([x].map (·.f3)).sum
    simp
  · intro y hy
    rw [List.mem_singleton.1 hy]
    exact Int.le_refl _
  · intro y hy
    rw [List.mem_singleton.1 hy]
    exact Int.le_refl _
  · show x ∈ [x]
    simp
  · intro y hy
    rw [List.mem_singleton.1 hy]
    show ord x x ≤ 0
    rw [ord_self]
    decide
  · show x ∈ [x]
    simp
  · intro y hy
    rw [List.mem_singleton.1 hy]
    show ord x x ≤ 0
    rw [ord_self]
    decide
  · rw [one_at hj]
    simp [cntJ]
theorem ord_neg {a b : S26} (h : ¬ 0 ≤ ord a b) : ord a b ≤ 0 := by omega
theorem ord_flip {a b : S26} (h : 0 ≤ ord a b) : ord b a ≤ 0 := by
  unfold ord at *
  (repeat' split at h) <;> (repeat' split) <;> omega
theorem add_parts (a b : S28) (h0 : a.f0 ≠ 0) : (addA a b).f0 = a.f0 + b.f0 ∧ (addA a b).f1 = a.f1 + b.f1 ∧ (addA a b).f2 = (if b.f2 < a.f2 then b.f2 else a.f2) ∧ (addA a b).f3 = (if a.f3 < b.f3 then b.f3 else a.f3) ∧ (addA a b).f4 = (if ord b.f4 a.f4 < 0 then b.f4 else a.f4) ∧ (addA a b).f5 = (if 0 ≤ ord b.f5 a.f5 then b.f5 else a.f5) ∧ (addA a b).f6 = hadd a.f6 b.f6 := by
  obtain ⟨a0, a1, a2, a3, a4, a5, a6⟩ := a
  obtain ⟨b0, b1, b2, b3, b4, b5, b6⟩ := b
  simp only at h0
  unfold addA add6 add5 add4 add3
  rw [fst_no (show ¬ (⟨a0, a1, a2, a3, a4, a5, a6⟩ : S28).f0 = 0 from h0)]
  by_cases h4 : ord b4 a4 < 0 <;> by_cases h5 : 0 ≤ ord b5 a5 <;> simp [h4, h5]
theorem hadd_all {h n : List Int} (a : ∀ x ∈ h, 0 ≤ x) (b : ∀ x ∈ n, 0 ≤ x) : ∀ x ∈ hadd h n, 0 ≤ x := hadd_mem a b
theorem imay_w {x : S26} (h : imay x = true) : -1099511627776 ≤ x.f3 ∧ x.f3 ≤ 1099511627776 := imay_v h
theorem mul_two {c d m a b : Int} (hc : 0 ≤ c) (hd : 0 ≤ d) (h1 : m ≤ a) (h2 : m ≤ b) : (c + d) * m ≤ c * a + d * b := by
  have e1 := Int.mul_le_mul_of_nonneg_left h1 hc
  have e2 := Int.mul_le_mul_of_nonneg_left h2 hd
  rw [Int.add_mul]
  omega
theorem mul_two' {c d m a b : Int} (hc : 0 ≤ c) (hd : 0 ≤ d) (h1 : a ≤ m) (h2 : b ≤ m) : c * a + d * b ≤ (c + d) * m := by
  have e1 := Int.mul_le_mul_of_nonneg_left h1 hc
  have e2 := Int.mul_le_mul_of_nonneg_left h2 hd
  rw [Int.add_mul]
  omega
theorem rs_add {bs : List Int} {s : Int} {xs ys : List S26} {a b : S28} (ha : Rs bs s xs a) (hb : Rs bs s ys b) (hser : ∀ x ∈ xs ++ ys, x.f0 = s) (hn : xs.length + ys.length ≤ 8192) : Rs bs s (xs ++ ys) (addA a b) := by
  have ca := ha.may.c
  have cb := hb.may.c
  obtain ⟨e0, e1, e2, e3, e4, e5, e6⟩ := add_parts a b (by omega)
  have hla := ha.may.len
  have hlb := hb.may.len
  have hca := ha.c
  have hcb := hb.c
  have f4 : (addA a b).f4 ∈ xs ++ ys := by
    rw [e4]
    split
    · exact List.mem_append_right _ hb.f
    · exact List.mem_append_left _ ha.f
  have f5 : (addA a b).f5 ∈ xs ++ ys := by
    rw [e5]
    split
    · exact List.mem_append_right _ hb.l
    · exact List.mem_append_left _ ha.l
  have n1 : ∀ x ∈ xs ++ ys, (addA a b).f2 ≤ x.f3 := fun x hx => by
    rw [e2]
    rcases List.mem_append.1 hx with h | h
    · have := ha.n1 x h
      split <;> omega
    · have := hb.n1 x h
      split <;> omega
  have m1 : ∀ x ∈ xs ++ ys, x.f3 ≤ (addA a b).f3 := fun x hx => by
    rw [e3]
    rcases List.mem_append.1 hx with h | h
    · have := ha.m1 x h
      split <;> omega
    · have := hb.m1 x h
      split <;> omega
  have fl : ∀ x ∈ xs ++ ys, ord (addA a b).f4 x ≤ 0 := fun x hx => by
    rw [e4]
    rcases List.mem_append.1 hx with h | h
    · split
      · rename_i h4
        exact ord_le_trans (Int.le_of_lt h4) (ha.fl x h)
      · exact ha.fl x h
    · split
      · exact hb.fl x h
      · rename_i h4
        exact ord_le_trans (ord_lt h4) (hb.fl x h)
  have ll : ∀ x ∈ xs ++ ys, ord x (addA a b).f5 ≤ 0 := fun x hx => by
    rw [e5]
    rcases List.mem_append.1 hx with h | h
    · split
      · rename_i h5
        exact ord_le_trans (ha.ll x h) (ord_flip h5)
      · exact ha.ll x h
    · split
      · exact hb.ll x h
      · rename_i h5
        exact ord_le_trans (hb.ll x h) (ord_neg h5)
  refine ⟨?_, hser _ f4, by rw [e0, hca, hcb, List.length_append]; omega, by rw [e1, ha.s1, hb.s1, List.map_append, List.sum_append], n1, ?_, m1, ?_, f4, fl, f5, ll, fun j hj => ?_⟩
  · have va := ha.may
    have vb := hb.may
    refine ⟨va.bm, by rw [e6, hadd_length (by omega)]; exact hla, by rw [e6]; exact hadd_mem va.hn vb.hn, by rw [e6, e0, hadd_sum (by omega), va.hs, vb.hs], by rw [e0]; omega, by rw [e2]; split; exact vb.m2; exact va.m2, by rw [e3]; split; exact vb.m3; exact va.m3, ?_, by rw [e4]; split; exact vb.i4; exact va.i4, by rw [e5]; split; exact vb.i5; exact va.i5, ⟨n1 _ f4, m1 _ f4⟩, ⟨n1 _ f5, m1 _ f5⟩, by rw [hser _ f4, hser _ f5], fl _ f5, ?_, ?_⟩
    · exact Int.le_trans (n1 _ f4) (m1 _ f4)
    · rw [e0, e1]
      refine Int.le_trans (mul_two (a := a.f2) (b := b.f2) (by omega) (by omega) (by rw [e2]; split <;> omega) (by rw [e2]; split <;> omega)) ?_
      have := va.s1
      have := vb.s1
      omega
    · rw [e0, e1]
      refine Int.le_trans ?_ (mul_two' (a := a.f3) (b := b.f3) (by omega) (by omega) (by rw [e3]; split <;> omega) (by rw [e3]; split <;> omega))
      have := va.s2
      have := vb.s2
      omega
  · rw [e2]
    split
    · obtain ⟨y, hy, he⟩ := hb.n2
      exact ⟨y, List.mem_append_right _ hy, he⟩
    · obtain ⟨y, hy, he⟩ := ha.n2
      exact ⟨y, List.mem_append_left _ hy, he⟩
  · rw [e3]
    split
    · obtain ⟨y, hy, he⟩ := hb.m2
      exact ⟨y, List.mem_append_right _ hy, he⟩
    · obtain ⟨y, hy, he⟩ := ha.m2
      exact ⟨y, List.mem_append_left _ hy, he⟩
  · rw [e6, hadd_get (by omega) (by omega), ha.h j hj, hb.h j hj]
    unfold cntJ
    rw [List.map_append, List.sum_append]
end Go.Proofs.Ytggaefklcpbfnaa.My

/-! RefJP -/
namespace Go.Proofs.Ytggaefklcpbfnaa.My
open Go.RowKit Pa Go.Proofs.YtggaefklcpbfnaaW.PrintWords
set_option linter.unusedSimpArgs false

theorem s28_ext {x y : S28} (h0 : x.f0 = y.f0) (h1 : x.f1 = y.f1) (h2 : x.f2 = y.f2) (h3 : x.f3 = y.f3) (h4 : x.f4 = y.f4) (h5 : x.f5 = y.f5) (h6 : x.f6 = y.f6) : x = y := by
  obtain ⟨a0, a1, a2, a3, a4, a5, a6⟩ := x
  obtain ⟨b0, b1, b2, b3, b4, b5, b6⟩ := y
  simp only at h0 h1 h2 h3 h4 h5 h6
  subst h0 h1 h2 h3 h4 h5 h6
  rfl
theorem two_add {a b : S28} (h0 : a.f0 ≠ 0) : twoA a b = addA a b := by
  obtain ⟨a0, a1, a2, a3, a4, a5, a6⟩ := add_parts a b h0
  obtain ⟨b0, b1, b2, b3, b4, b5, b6⟩ := tw_parts a b
  refine s28_ext (by rw [a0, b0]) (by rw [a1, b1]) (by rw [a2, b2]) (by rw [a3, b3]) (by rw [a4, b4]) ?_ (by rw [a6, b6])
  rw [a5, b5]
  by_cases h : ord b.f5 a.f5 < 0
  · rw [if_pos h, if_neg (by omega)]
  · rw [if_neg h, if_pos (by omega)]
/-- One more, by the document. -/
def rstep (c x : S28) : S28 := if x.f0 = 0 then c else if c.f0 = 0 then x else twoA c x
/-- None yet, or some of a series. -/
def Zs (bs : List Int) (s : Int) (c : S28) : Prop := c = join0 bs ∨ (May1 bs c ∧ c.f4.f0 = s)
theorem amay_c {x : S28} {bs : List Int} (hx : amay x bs = true) : 0 ≤ x.f0 ∧ x.f0 ≤ 8192 := (amay_fit hx).c
theorem rstep_eq {bs : List Int} {s : Int} {c x : S28} (hx : amay x bs = true) (hc : Zs bs s c) (hs : x.f0 ≠ 0 → x.f4.f0 = s) : rstep c x = stepA c x ∧ (c.f0 + x.f0 ≤ 8192 → Zs bs s (stepA c x)) := by
  obtain ⟨h0, h9⟩ := amay_c hx
  unfold rstep
  by_cases hz : x.f0 = 0
  · have e : stepA c x = c := if_neg (by omega)
    rw [if_pos hz, e]
    exact ⟨rfl, fun _ => hc⟩
  · have m := May1.of hx hz
    have e : stepA c x = addA c x := if_pos (by omega)
    rw [if_neg hz]
    rcases hc with rfl | ⟨mc, es⟩
    · rw [if_pos (show (join0 bs).f0 = 0 from rfl), zero_step m]
      exact ⟨rfl, fun _ => .inr ⟨m, hs hz⟩⟩
    · have hc0 : c.f0 ≠ 0 := by have := mc.c; omega
      rw [if_neg hc0, e, two_add hc0]
      refine ⟨rfl, fun h8 => .inr ⟨?_, ?_⟩⟩
      · rw [← two_add hc0]
        exact may1_two mc m (by rw [es, hs hz]) h8
      · rw [(add_parts c x hc0).2.2.2.2.1]
        split
        · exact hs hz
        · exact es
theorem rstep_ok {bs : List Int} {s : Int} {c x : S28} (hx : amay x bs = true) (hz : x.f0 ≠ 0) (hc : Zs bs s c) (hc0 : c.f0 ≠ 0) : TwoOk c x := by
  rcases hc with rfl | ⟨mc, _⟩
  · exact absurd rfl hc0
  · exact mc.ok (May1.of hx hz)
theorem ser_pos {x : S28} {bs : List Int} (hx : amay x bs = true) (hz : x.f0 ≠ 0) : 0 ≤ x.f4.f0 := by
  have := (May1.of hx hz).i4
  unfold imay at this
  rw [decide_eq_true_eq] at this
  exact this.1
theorem allm_same {bs : List Int} : ∀ {xs : List S28} {f : Int}, allm bs f xs = true → 0 ≤ f → ∀ x ∈ xs, x.f0 ≠ 0 → x.f4.f0 = f
  | [], _, _, _, _, hx, _ => by cases hx
  | a :: r, f, h, hf, x, hx, hz => by
    unfold allm at h
    by_cases ha : amay a bs = true
    · rw [if_pos ha] at h
      have := amay_c ha
      by_cases h0 : 0 < a.f0
      · rw [if_pos h0] at h
        by_cases h1 : 0 ≤ f ∧ a.f4.f0 ≠ f
        · rw [if_pos h1] at h
          cases h
        · rw [if_neg h1] at h
          have e : a.f4.f0 = f := Classical.byContradiction fun e => h1 ⟨hf, e⟩
          rcases List.mem_cons.1 hx with rfl | hx
          · exact e
          · have := allm_same h (by rw [e]; exact hf) x hx hz
            rw [this, e]
      · rw [if_neg h0] at h
        rcases List.mem_cons.1 hx with rfl | hx
        · exact absurd (by omega) hz
        · exact allm_same h hf x hx hz
    · rw [if_neg ha] at h
      cases h
theorem allm_ser {bs : List Int} : ∀ {xs : List S28}, allm bs (-1) xs = true → ∃ s, ∀ x ∈ xs, x.f0 ≠ 0 → x.f4.f0 = s
  | [], _ => ⟨0, fun x hx => by cases hx⟩
  | a :: r, h => by
    unfold allm at h
    by_cases ha : amay a bs = true
    · rw [if_pos ha] at h
      have := amay_c ha
      by_cases h0 : 0 < a.f0
      · rw [if_pos h0, if_neg (by omega)] at h
        refine ⟨a.f4.f0, fun x hx hz => ?_⟩
        rcases List.mem_cons.1 hx with rfl | hx
        · rfl
        · exact allm_same h (ser_pos ha (by omega)) x hx hz
      · rw [if_neg h0] at h
        obtain ⟨s, hs⟩ := allm_ser h
        refine ⟨s, fun x hx hz => ?_⟩
        rcases List.mem_cons.1 hx with rfl | hx
        · exact absurd (by omega) hz
        · exact hs x hx hz
    · rw [if_neg ha] at h
      cases h
/-- How far the first walk has come. -/
def AtOk (xs : List S28) (k : Nat) (at_ f : Int) : Prop := (at_ = -1 ∧ f = -1) ∨ ∃ j : Nat, j < k ∧ at_ = j ∧ f = (xs.getD j z28).f4.f0 ∧ 0 ≤ f
end Go.Proofs.Ytggaefklcpbfnaa.My

/-! RefMP -/
namespace Go.Proofs.Ytggaefklcpbfnaa.My
open Go.RowKit Pa Go.Proofs.YtggaefklcpbfnaaW.PrintWords
set_option linter.unusedSimpArgs false

def hmL : List Int → Int → Bool
  | [], c => c == 0
  | x :: r, c => if x < 0 then false else if c < x then false else hmL r (c - x)
theorem hm_loop (h : List Int) (hl : h.length ≤ 17592186044415) : ∀ n i k c, i + n = h.length → n < k → 0 ≤ c → c ≤ 8192 → bourneref1_histMay.l0 k h c i = some (hmL (h.drop i) c)
  | 0, i, k, c, hi, hk, h0, h9 => by
    obtain ⟨k, rfl⟩ : ∃ m, k = m + 1 := ⟨k - 1, by omega⟩
    obtain rfl : i = h.length := by omega
    unfold bourneref1_histMay.l0
    rw [if_neg (by omega), List.drop_length]
    rfl
  | n + 1, i, k, c, hi, hk, h0, h9 => by
    obtain ⟨k, rfl⟩ : ∃ m, k = m + 1 := ⟨k - 1, by omega⟩
    have hlt : i < h.length := by omega
    have hd : h.drop i = h.getD i 0 :: h.drop (i + 1) := by
      rw [List.drop_eq_getElem_cons hlt, List.getD_eq_getElem?_getD, List.getElem?_eq_getElem hlt]
      rfl
    have hr : rd h i = h.getD i 0 := by unfold rd; rfl
    unfold bourneref1_histMay.l0
    rw [if_pos (by omega), if_pos (by omega), hd, hr]
    unfold hmL
    generalize h.getD i 0 = x
    by_cases h1 : x < 0
    · rw [if_pos h1, if_pos h1]
    · rw [if_neg h1, if_neg h1]
      by_cases h2 : c < x
      · rw [if_pos h2, if_pos h2]
      · rw [if_neg h2, if_neg h2, wrap_up (by omega), show wrap64 (c - x) = c - x by unfold wrap64; omega]
        exact hm_loop h hl n (i + 1) k (c - x) (by omega) (by omega) (by omega) (by omega)
theorem hm_f (h : List Int) (hl : h.length ≤ 17592186044415) {c : Int} (h0 : 0 ≤ c) (h9 : c ≤ 8192) : bourneref1_histMay.f (h.length + 1) h c = some (hmL h c) := by
  have := hm_loop h hl h.length 0 (h.length + 1) c (by omega) (by omega) h0 h9
  rwa [List.drop_zero] at this
theorem hmL_eq : ∀ (h : List Int) (c : Int), 0 ≤ c → c ≤ 8192 → hmL h c = (h.all nok && decide (h.sum = c))
  | [], c, h0, h9 => by
    unfold hmL
    by_cases h : c = 0
    · subst h; rfl
    · rw [beq_eq_false_iff_ne.2 h, List.sum_nil, decide_eq_false (fun e => h e.symm)]; rfl
  | x :: r, c, h0, h9 => by
    unfold hmL
    rw [List.all_cons, List.sum_cons]
    by_cases h1 : x < 0
    · rw [if_pos h1, show nok x = false from by unfold nok; exact decide_eq_false (by omega)]; rfl
    · rw [if_neg h1]
      by_cases h2 : c < x
      · rw [if_pos h2]
        cases ha : r.all nok with
        | false => simp
        | true =>
          have := (nok_sum (h := r) (fun y hy => List.all_eq_true.1 ha y hy)).1
          rw [decide_eq_false (by omega)]
          simp
      · rw [if_neg h2, hmL_eq r (c - x) (by omega) (by omega), show nok x = true from by unfold nok; exact decide_eq_true (by omega), Bool.true_and]
        by_cases h3 : r.sum = c - x
        · rw [decide_eq_true h3, decide_eq_true (by omega)]
        · rw [decide_eq_false h3, decide_eq_false (by omega)]

/-- May such be known, in the order of the document's text? -/
def rmayB (a : S28) (bs : List Int) : Bool :=
  if bmay bs = false then false else if ¬ a.f6.length = bs.length + 1 then false else if a.f0 < 0 then false else if 8192 < a.f0 then false else if hmL a.f6 a.f0 = false then false
  else if a.f0 = 0 then bareB a
  else if imay a.f4 = false then false else if imay a.f5 = false then false else if ¬ a.f4.f0 = a.f5.f0 then false else if bef a.f5 a.f4 = true then false
  else if wm a.f2 = false then false else if wm a.f3 = false then false else if a.f1 < a.f0 * a.f2 then false else if a.f0 * a.f3 < a.f1 then false
  else if ¬ a.f2 ≤ a.f4.f3 then false else if ¬ a.f4.f3 ≤ a.f3 then false else if ¬ a.f2 ≤ a.f5.f3 then false else if ¬ a.f5.f3 ≤ a.f3 then false else true
theorem bef_no (x y : S26) : bef y x = decide (¬ ord x y ≤ 0) := by
  unfold bef ord
  by_cases h1 : x.f1 < y.f1 <;> by_cases h2 : y.f1 < x.f1 <;> by_cases h3 : x.f2 < y.f2 <;> by_cases h4 : y.f2 < x.f2 <;> simp [h1, h2, h3, h4] <;> omega
theorem rmay_eq (a : S28) (bs : List Int) : rmayB a bs = amay a bs := by
  unfold rmayB amay
  cases bmay bs with
  | false => rfl
  | true =>
    rw [if_neg (by decide), Bool.true_and]
    by_cases h1 : a.f6.length = bs.length + 1
    · rw [if_neg (by simpa using h1), decide_eq_true (show a.f6.length ≤ bs.length + 1 by omega), Bool.true_and]
      by_cases h2 : a.f0 < 0
      · rw [if_pos h2, decide_eq_false (show ¬ 0 ≤ a.f0 by omega)]; simp
      · rw [if_neg h2, decide_eq_true (show 0 ≤ a.f0 by omega), Bool.true_and]
        by_cases h3 : 8192 < a.f0
        · rw [if_pos h3, decide_eq_false (show ¬ a.f0 ≤ 8192 by omega)]; simp
        · rw [if_neg h3, decide_eq_true (show a.f0 ≤ 8192 by omega), Bool.true_and, hmL_eq a.f6 a.f0 (by omega) (by omega)]
          unfold hmay
          rw [decide_eq_true h1, Bool.and_true]
          cases (a.f6.all nok && decide (a.f6.sum = a.f0)) with
          | false => rfl
          | true =>
            rw [if_neg (by decide), Bool.true_and]
            by_cases h4 : a.f0 = 0
            · rw [if_pos h4, if_pos h4]
            · rw [if_neg h4, if_neg h4]
              unfold emay iok
              rw [bef_no]
              cases imay a.f4 <;> cases imay a.f5 <;> cases wm a.f2 <;> cases wm a.f3 <;> (try simp) <;> (try omega)
              generalize a.f0 * a.f2 = m1
              generalize a.f0 * a.f3 = m2
              rw [Bool.eq_iff_iff]
              simp only [Bool.and_eq_true, decide_eq_true_eq, Bool.not_eq_true', decide_eq_false_iff_not]
              constructor
              · rintro ⟨g1, g2, g3, g4, g5, g6, g7, g8⟩
                exact ⟨by omega, ⟨⟨by omega, by omega⟩, ⟨by omega, by omega⟩, g1, by omega⟩, by omega, by omega⟩
              · rintro ⟨g1, ⟨⟨g2, g3⟩, ⟨g4, g5⟩, g6, g7⟩, g8, g9⟩
                exact ⟨g6, by omega, by omega, by omega, by omega, by omega, by omega, by omega⟩
    · rw [if_pos h1]
      by_cases h2 : a.f6.length ≤ bs.length + 1
      · unfold hmay
        rw [decide_eq_false h1]
        simp
      · rw [decide_eq_false h2]
        rfl
end Go.Proofs.Ytggaefklcpbfnaa.My

/-! RefB -/
namespace Go.Proofs.Ytggaefklcpbfnaa.My
open Go.RowKit Pa Go.Proofs.YtggaefklcpbfnaaW.PrintWords
attribute [local go_sem high] eqA26

theorem rwm_f (x : Int) : bourneref1_within.f x 1099511627776 = some (wm x) := by
  unfold bourneref1_within.f wm
  have e : wrap64 (-1099511627776) = -1099511627776 := by unfold wrap64; rfl
  simp only [e]
  by_cases h3 : x ≥ -1099511627776 <;> by_cases h4 : x ≤ 1099511627776 <;> simp [h3, h4] <;> omega
theorem rimay_f (x : S26) : bourneref1_ItemMay.f x.f0 x.f1 x.f2 x.f3 = some (imay x) := by
  unfold bourneref1_ItemMay.f bourneref1_within.f imay
  have e : wrap64 (-1099511627776) = -1099511627776 := by unfold wrap64; rfl
  simp only [e]
  by_cases h1 : x.f0 ≥ 0 <;> by_cases h2 : x.f0 ≤ 1048575 <;> by_cases h3 : x.f1 ≥ -1099511627776 <;> by_cases h4 : x.f1 ≤ 1099511627776 <;> by_cases h5 : x.f2 ≥ 1 <;> by_cases h6 : x.f2 ≤ 1073741823 <;> by_cases h7 : x.f3 ≥ -1099511627776 <;> by_cases h8 : x.f3 ≤ 1099511627776 <;> simp [h1, h2, h3, h4, h5, h6, h7, h8] <;> omega
theorem rbm_loop (l : List Int) (hl : l.length ≤ 9223372036854775807) : ∀ n i k, i + n = l.length → n < k → bourneref1_BoundsMay.l0 k l i = some (ball l n i && decide (l.length ≤ 8))
  | 0, i, 0, _, hk => absurd hk (by omega)
  | 0, i, k + 1, h, _ => by
    unfold bourneref1_BoundsMay.l0 ball
    rw [if_neg (by omega)]
    by_cases h8 : l.length ≤ 8
    · rw [decide_eq_true h8, decide_eq_true (by omega)]
      rfl
    · rw [decide_eq_false h8, decide_eq_false (by omega)]
      rfl
  | n + 1, i, 0, _, hk => absurd hk (by omega)
  | n + 1, i, k + 1, h, hk => by
    have ih := rbm_loop l hl n (i + 1) k (by omega) (by omega)
    unfold bourneref1_BoundsMay.l0 ball
    rw [if_pos (by omega), if_pos (by omega)]
    have e1 : rd l (i : Int) = l.getD i 0 := by simp [rd]
    rw [e1, rwm_f]
    simp only [Option.bind_some]
    rw [show wrap64 ((i : Int) + 1) = ((i + 1 : Nat) : Int) by unfold wrap64; omega, ih]
    unfold bok
    by_cases h1 : wm (l.getD i 0) = true
    · rw [if_pos h1, h1]
      by_cases h0 : i = 0
      · subst h0
        simp
      · rw [if_pos (by omega)]
        have e2 : wrap64 ((i : Int) - 1) = ((i - 1 : Nat) : Int) := by unfold wrap64; omega
        rw [e2, if_pos (by omega), if_pos (by omega)]
        have e3 : rd l ((i - 1 : Nat) : Int) = l.getD (i - 1) 0 := by simp [rd]
        rw [e3]
        by_cases h2 : l.getD (i - 1) 0 ≥ l.getD i 0
        · rw [if_pos h2, show decide (l.getD (i - 1) 0 < l.getD i 0) = false from decide_eq_false (by omega), decide_eq_false h0]
          simp
        · rw [if_neg h2, show decide (l.getD (i - 1) 0 < l.getD i 0) = true from decide_eq_true (by omega), decide_eq_false h0]
          simp
    · have h1' : wm (l.getD i 0) = false := by
        cases h' : wm (l.getD i 0)
        · rfl
        · exact absurd h' h1
      rw [if_neg h1, h1']
      rfl
theorem rbmay_f (l : List Int) (hl : l.length ≤ 9223372036854775807) : bourneref1_BoundsMay.f (l.length + 1) l = some (bmay l) := by
  unfold bourneref1_BoundsMay.f bmay
  have := rbm_loop l hl l.length 0 (l.length + 1) (by omega) (by omega)
  rw [Int.natCast_zero] at this
  rw [this, Bool.and_comm]
theorem rbk_loop (l : List Int) (v : Int) (hl : l.length ≤ 8) : ∀ n i k, i + n = l.length → n < k → bourneref1_bucket.l0 k v l i = some ((bkt l v n i : Nat) : Int)
  | 0, i, 0, _, hk => absurd hk (by omega)
  | 0, i, k + 1, h, _ => by
    unfold bourneref1_bucket.l0 bkt
    rw [if_neg (by omega)]
  | n + 1, i, 0, _, hk => absurd hk (by omega)
  | n + 1, i, k + 1, h, hk => by
    have ih := rbk_loop l v hl n (i + 1) k (by omega) (by omega)
    unfold bourneref1_bucket.l0 bkt
    rw [if_pos (by omega), if_pos (by omega), wrap_up (by omega), ih]
    have e1 : rd l (i : Int) = l.getD i 0 := by simp [rd]
    rw [e1]
    by_cases h1 : v ≤ l.getD i 0
    · rw [if_neg (by omega), if_pos h1]
    · rw [if_pos (by omega), if_neg h1]
theorem rbucket_f (l : List Int) (v : Int) (hl : l.length ≤ 8) : bourneref1_bucket.f 9 v l = some ((bucket l v : Nat) : Int) := rbk_loop l v hl l.length 0 9 (by omega) (by omega)
theorem rbm_any (bs : List Int) (A : Option Addr) (c : Nat) (w : World) (hr : Kd.C (Kd.int .i64) w A bs.length bs) (hc : bs.length ≤ c) (hl : bs.length ≤ 9223372036854775807) :
    Calls Try.prog 37 #[.slice A bs.length c] w fun e w' => e = .returned (.bool (bmay bs)) ∧ Below w.heap.size w w' :=
  (bourneref1_BoundsMay.calls (bs.length + 1) A c bs _ w hr hc (rbmay_f bs hl)).mono fun _ _ h => ⟨h.1, h.2.below⟩
theorem rim_any (x : S26) (w : World) :
    Calls Try.prog 48 #[.agg #[.int .i64 x.f0, .int .i64 x.f1, .int .i64 x.f2, .int .i64 x.f3]] w fun e w' => e = .returned (.bool (imay x)) ∧ Below w.heap.size w w' :=
  bourneref1_ItemMay.calls _ _ _ _ _ w (rimay_f x)
theorem rbucket_any (bs : List Int) (v : Int) (A : Option Addr) (c : Nat) (w : World) (hr : Kd.C (Kd.int .i64) w A bs.length bs) (hc : bs.length ≤ c) (hl : bs.length ≤ 8) :
    Calls Try.prog 49 #[.int .i64 v, .slice A bs.length c] w fun e w' => e = .returned (.int .i64 (bucket bs v : Nat)) ∧ Below w.heap.size w w' :=
  (bourneref1_bucket.calls 9 v A c bs _ w hr hc (rbucket_f bs v hl)).mono fun _ _ h => ⟨h.1, h.2.below⟩

set_option maxHeartbeats 2000000 in
set_option maxRecDepth 100000 in
theorem rone_any (x : S26) (bs : List Int) (A : Option Addr) (c : Nat) (w : World) (hr : RdI w A bs) (hc : bs.length ≤ c) :
    Calls Try.prog 29 #[.agg #[.int .i64 x.f0, .int .i64 x.f1, .int .i64 x.f2, .int .i64 x.f3], .slice A bs.length c] w fun e w' => ∃ v, e = .returned (.tuple #[acV (oneRes x bs).1 v, .int .i64 (oneRes x bs).2]) ∧ Own w' w.heap.size v (oneRes x bs).1.f6 ∧ Below w.heap.size w w' := by
  have HR := Lib.hid hr
  have HC := Lib.hid hc
  clear hr hc
  go_enter Try.func29, Try.ntmps29
  go_wp2_with fail
  have hx : ((w.alloc (itO x)).alloc (acO z28 (.slice none 0 0))).heap[w.heap.size]? = some (itO x) := blk_below (heap_alloc_new w (itO x)) ((Below.refl _ _).alloc (Nat.le_refl _) _)
  have hz : ((w.alloc (itO x)).alloc (acO z28 (.slice none 0 0))).heap[w.heap.size + 1]? = some (acO z28 (.slice none 0 0)) := by
    have := heap_alloc_new (w.alloc (itO x)) (acO z28 (.slice none 0 0))
    simpa using this
  have hB : Below w.heap.size w ((w.alloc (itO x)).alloc (acO z28 (.slice none 0 0))) := ((Below.refl w.heap.size w).alloc (Nat.le_refl _) _).alloc (by simp) _
  refine (rim_any x _).mono ?_
  rintro e w1 ⟨rfl, hb⟩
  have HX := Lib.hid (blk_below hx hb)
  have HZ := Lib.hid (blk_below hz hb)
  have HB1 := Lib.hid (hB.trans (hb.mono hB.size))
  clear hx hz hB hb
  by_cases h1 : imay x = true
  · rw [h1]
    go_wp2_with fail
    refine (rbm_any bs A c _ (Kd.C_below HR.out HB1.out) HC.out (by have := HR.out.2.1; unfold maxLen at this; exact this)).mono ?_
    rintro e w2 ⟨rfl, hb⟩
    replace HX := Lib.hid (blk_below HX.out hb)
    replace HZ := Lib.hid (blk_below HZ.out hb)
    replace HB1 := Lib.hid (HB1.out.trans (hb.mono HB1.out.size))
    clear hb
    by_cases h2 : bmay bs = true
    · have hl := bmay_len h2
      have hres : oneRes x bs = (one x bs, 0) := by unfold oneRes; rw [h1, h2]; rfl
      have HRES := Lib.hid hres
      rw [h2]
      clear hres h1 h2
      obtain ⟨x0, x1, x2, x3, xl⟩ := itO_facts HX.out
      go_wp2_with fail
      refine Txt.wp_region_mix (by kernel_rfl) (by kernel_rfl) (fun HB => ?_)
      repeat (first
        | (refine Txt.mix_p (by rfl) rfl rfl (fun K hK => ?_); go_big_quiet_op; refine hK _ ?_; clear hK K)
        | (refine Txt.mix_re (by rfl) (by decide +kernel) (by rfl) (by rfl) (by go_simp) HB (fun K hK => ?_); go_big_quiet_op; refine hK _ ?_; clear hK K)
        | (refine Txt.mix_rl (by rfl) (by decide +kernel) (by rfl) (by rfl) (by go_simp) HB (fun K hK => ?_); go_big_quiet_op; refine hK _ ?_; clear hK K)
        | (refine Txt.mix_pass (by rfl) (by rfl) ?_; simp only [List.set_cons_succ, List.set_cons_zero]))
      refine Txt.mix_m (fun g => .slice (some ⟨g, 0, none⟩) (bs.length + 1) (bs.length + 1)) (.cells (Array.replicate (bs.length + 1) (.int .i64 0)) 3) (by rfl) (by decide +kernel) (fun w1 => by
        go_simp
        rw [show ((bs.length : Int) + 1) = ((bs.length + 1 : Nat) : Int) by omega, make_ints _ (by omega)]
        rfl) HB ?_
      intro gb w3 hb2 hg2 ho2
      replace HB := HB.trans hb2
      have HG := Lib.hid ho2
      have HGB := Lib.hid hg2
      clear hb2 ho2 hg2
      simp only [Act.put, List.setIfInBounds_toArray, List.set_cons_succ, List.set_cons_zero]
      repeat (first
        | (refine Txt.mix_p (by rfl) rfl rfl (fun K hK => ?_); go_big_quiet_op; refine hK _ ?_; clear hK K)
        | (refine Txt.mix_re (by rfl) (by decide +kernel) (by rfl) (by rfl) (by go_simp) HB (fun K hK => ?_); go_big_quiet_op; refine hK _ ?_; clear hK K)
        | (refine Txt.mix_rl (by rfl) (by decide +kernel) (by rfl) (by rfl) (by go_simp) HB (fun K hK => ?_); go_big_quiet_op; refine hK _ ?_; clear hK K)
        | (refine Txt.mix_pass (by rfl) (by rfl) ?_; simp only [List.set_cons_succ, List.set_cons_zero]))
      refine Txt.mix_m (fun g => .pointer (some ⟨g, 0, none⟩)) (acO z28 (.slice none 0 0)) (by rfl) (by decide +kernel) (fun w1 => by unfold acO; go_simp; rfl) HB ?_
      intro oa w4 hb4 hg4 ho4
      replace HG := Lib.hid (blk_below HG.out hb4)
      replace HB := HB.trans hb4
      have HOA := Lib.hid hg4
      clear hb4 hg4
      simp only [Act.put, List.setIfInBounds_toArray, List.set_cons_succ, List.set_cons_zero]
      repeat (first
        | (refine Txt.mix_p (by rfl) rfl rfl (fun K hK => ?_); go_big_quiet_op; refine hK _ ?_; clear hK K)
        | (refine Txt.mix_re (by rfl) (by decide +kernel) (by rfl) (by rfl) (by go_simp) HB (fun K hK => ?_); go_big_quiet_op; refine hK _ ?_; clear hK K)
        | (refine Txt.mix_rl (by rfl) (by decide +kernel) (by rfl) (by rfl) (by go_simp) HB (fun K hK => ?_); go_big_quiet_op; refine hK _ ?_; clear hK K)
        | (refine Txt.mix_pass (by rfl) (by rfl) ?_; simp only [List.set_cons_succ, List.set_cons_zero]))
      refine Txt.mix_a (by rfl) (by decide +kernel) (fun K hK => ?_)
      obtain ⟨z0, z1, z2, z3, z4, z5, z6, z7, z8, z9, z10, z11, z12, zl⟩ := acO_facts ho4
      have hf := fun j => blk_free ho4 j
      go_wp2_with fail
      clear z0 z1 z2 z3 z4 z5 z6 z7 z8 z9 z10 z11 z12 zl hf x0 x1 x2 x3 xl
      show Txt.wpMix _ _ _ _ _ _ _ (putA w4 oa ⟨1, x.f3, x.f3, x.f3, x, x, []⟩ (.slice (some ⟨gb, 0, none⟩) (bs.length + 1) (bs.length + 1)))
      have ho5 := putA_blk (a := ⟨1, x.f3, x.f3, x.f3, x, x, []⟩) (v := .slice (some ⟨gb, 0, none⟩) (bs.length + 1) (bs.length + 1)) ho4
      have hc5 := putA_chg w4 oa ⟨1, x.f3, x.f3, x.f3, x, x, []⟩ (.slice (some ⟨gb, 0, none⟩) (bs.length + 1) (bs.length + 1))
      have hne : gb ≠ oa := fun e => by
        have h5 := HG.out
        rw [e, ho4] at h5
        unfold acO at h5
        injection h5 with h5
        injection h5 with _ h5
        exact absurd h5 (by decide)
      have hl2 := blk_lt HX.out
      have hl3 := blk_lt HZ.out
      have hoa : w2.heap.size ≤ oa := HOA.out
      have hgb : w2.heap.size ≤ gb := HGB.out
      have HX5 := Lib.hid (hc5.obj (blk_below HX.out HB.undrew) (by omega))
      have HZ5 := Lib.hid (hc5.obj (blk_below HZ.out HB.undrew) (by omega))
      have HG5 := Lib.hid (hc5.obj HG.out hne)
      have HB5 := Lib.hid (Chg.base (HB1.out.trans (HB.undrew.mono HB1.out.size)) hc5 (Nat.le_trans HB1.out.size HB.undrew.size) (fun i hi => by have := HB1.out.size; omega))
      have HO5 := Lib.hid ho5
      have HNE := Lib.hid (And.intro hne (And.intro (show w.heap.size + 1 ≠ oa by omega) (And.intro (show w.heap.size + 1 ≠ gb by omega) (show w.heap.size ≤ gb by omega))))
      clear ho5 hc5 hne hl2 hl3 hoa hgb HX HZ HG HB HB1 HGB HOA ho4
      generalize putA w4 oa ⟨1, x.f3, x.f3, x.f3, x, x, []⟩ (.slice (some ⟨gb, 0, none⟩) (bs.length + 1) (bs.length + 1)) = w5 at *
      refine Txt.mix_nil ?_
      obtain ⟨x0, x1, x2, x3, xl⟩ := itO_facts HX5.out
      obtain ⟨z0, z1, z2, z3, z4, z5, z6, z7, z8, z9, z10, z11, z12, zl⟩ := acO_facts HO5.out
      go_wp2_with fail
      refine Txt.wp_region_mix (by kernel_rfl) (by kernel_rfl) (fun HB => ?_)
      repeat (first
        | (refine Txt.mix_p (by rfl) rfl rfl (fun K hK => ?_); go_big_quiet_op; refine hK _ ?_; clear hK K)
        | (refine Txt.mix_re (by rfl) (by decide +kernel) (by rfl) (by rfl) (by go_simp) HB (fun K hK => ?_); go_big_quiet_op; refine hK _ ?_; clear hK K)
        | (refine Txt.mix_rl (by rfl) (by decide +kernel) (by rfl) (by rfl) (by go_simp) HB (fun K hK => ?_); go_big_quiet_op; refine hK _ ?_; clear hK K)
        | (refine Txt.mix_pass (by rfl) (by rfl) ?_; simp only [List.set_cons_succ, List.set_cons_zero]))
      refine Txt.mix_c (by rfl) (by decide +kernel) HB ?_
      intro w6 hw6 K hK
      replace HB := HB.trans hw6
      clear hw6
      go_wp2_with fail
      refine (rbucket_any bs x.f3 A c _ (Kd.C_below (Kd.C_below HR.out HB5.out) HB.undrew) HC.out hl).mono ?_
      rintro e w7 ⟨rfl, hb⟩
      refine hK _ _ ⟨hb, ?_⟩
      replace HB := HB.trans hb
      clear hK K hb
      have hbk := bucket_le bs x.f3
      generalize hbe : bucket bs x.f3 = bk at *
      repeat (first
        | (refine Txt.mix_p (by rfl) rfl rfl (fun K hK => ?_); go_big_quiet_op; refine hK _ ?_; clear hK K)
        | (refine Txt.mix_re (by rfl) (by decide +kernel) (by rfl) (by rfl) (by go_simp) HB (fun K hK => ?_); go_big_quiet_op; refine hK _ ?_; clear hK K)
        | (refine Txt.mix_rl (by rfl) (by decide +kernel) (by rfl) (by rfl) (by go_simp) HB (fun K hK => ?_); go_big_quiet_op; refine hK _ ?_; clear hK K)
        | (refine Txt.mix_pass (by rfl) (by rfl) ?_; simp only [List.set_cons_succ, List.set_cons_zero]))
      refine Txt.mix_a (by rfl) (by decide +kernel) (fun K hK => ?_)
      have hg7 := blk_below HG5.out HB.undrew
      have hf := fun j => blk_free hg7 j
      have hgl := blk_lt hg7
      have hcl : w7.cell? ⟨gb, bk, none⟩ = some (.int .i64 0) := (blk_cell hg7 bk).trans (by rw [Array.getElem?_replicate, if_pos (by omega)])
      have HGW := Lib.hid hg7
      clear hg7
      go_wp2_with fail
      refine Txt.mix_nil ?_
      have hnn := HNE.out
      have hc8 := (Chg.refl (fun k => k = gb) w7).setCell (p := ⟨gb, bk, none⟩) (.inl rfl) (.int .i64 1)
      have ho8 := hc8.obj (blk_below HO5.out HB.undrew) (fun e => hnn.1 e.symm)
      have hz8 := hc8.obj (blk_below HZ5.out HB.undrew) hnn.2.2.1
      have hown : Own (w7.setCell ⟨gb, bk, none⟩ (.int .i64 1)) w.heap.size (.slice (some ⟨gb, 0, none⟩) (bs.length + 1) (bs.length + 1)) ((List.replicate (bs.length + 1) 0).set bk 1) := by
        have h0 := made_own (bs.length + 1) (by omega) w7 gb HGW.out w.heap.size hnn.2.2.2
        unfold Own at h0 ⊢
        rw [List.length_replicate] at h0
        have h1 := (World.ownsRow.stored h0 bk (.int .i64 1)).1
        rw [List.length_set, List.length_replicate, List.map_set]
        exact h1
      have hb8 := Chg.base (HB5.out.trans (HB.undrew.mono HB5.out.size)) hc8 (Nat.le_trans HB5.out.size HB.undrew.size) (fun i hi => by omega)
      have HOWN := Lib.hid hown
      have HB8 := Lib.hid hb8
      have HZ8 := Lib.hid hz8
      have hlz := blk_lt hz8
      clear hown hb8 hc8 HX5 HZ5 HG5 HB5 HO5 HB HGW hf hgl hcl x0 x1 x2 x3 xl
      clear z0 z1 z2 z3 z4 z5 z6 z7 z8 z9 z10 z11 z12 zl
      generalize w7.setCell ⟨gb, bk, none⟩ (.int .i64 1) = w8 at *
      obtain ⟨o0, o1, o2, o3, o4, o5, o6, o7, o8, o9, o10, o11, o12, ol⟩ := acO_facts ho8
      obtain ⟨z0, z1, z2, z3, z4, z5, z6, z7, z8, z9, z10, z11, z12, zl⟩ := acO_facts hz8
      have hf := fun j => blk_free hz8 j
      clear ho8 hz8
      go_wp2_with fail
      show bodyPost _ _ _ _ _ (putA w8 (w.heap.size + 1) ⟨1, x.f3, x.f3, x.f3, x, x, []⟩ (.slice (some ⟨gb, 0, none⟩) (bs.length + 1) (bs.length + 1)))
      have hz2 := putA_blk (a := ⟨1, x.f3, x.f3, x.f3, x, x, []⟩) (v := .slice (some ⟨gb, 0, none⟩) (bs.length + 1) (bs.length + 1)) HZ8.out
      have hch := putA_chg w8 (w.heap.size + 1) ⟨1, x.f3, x.f3, x.f3, x, x, []⟩ (.slice (some ⟨gb, 0, none⟩) (bs.length + 1) (bs.length + 1))
      refine bodyPost_ret (results_acc rfl _ _ (w.heap.size + 1) ⟨1, x.f3, x.f3, x.f3, x, x, []⟩ (.slice (some ⟨gb, 0, none⟩) (bs.length + 1) (bs.length + 1)) rfl hz2) rfl ?_
      refine ⟨.slice (some ⟨gb, 0, none⟩) (bs.length + 1) (bs.length + 1), ?_, ?_, ?_⟩
      · rw [HRES.out]; rfl
      · rw [HRES.out]
        have := HOWN.out.keep hch (fun k hk e => by
          have e1 : gb = k := by simpa [Value.ownBlock] using hk
          omega)
        rw [← hbe] at this
        exact this
      · have := HB8.out.size
        exact Chg.base HB8.out hch this (fun i hi => by omega)
    · have h2' : bmay bs = false := by
        cases h' : bmay bs
        · rfl
        · exact absurd h' h2
      have hres : oneRes x bs = (z28, 100) := by unfold oneRes; rw [h1, h2']; rfl
      have HRES := Lib.hid hres
      clear hres h1 h2
      rw [h2']
      obtain ⟨z0, z1, z2, z3, z4, z5, z6, z7, z8, z9, z10, z11, z12, zl⟩ := acO_facts HZ.out
      have hf := fun j => blk_free HZ.out j
      go_wp2_with fail
      show bodyPost _ _ _ _ _ (putA w2 (w.heap.size + 1) z28 (.slice none 0 0))
      have hz2 := putA_blk (a := z28) (v := .slice none 0 0) HZ.out
      have hc2 := HB1.out.size
      have hch := putA_chg w2 (w.heap.size + 1) z28 (.slice none 0 0)
      refine bodyPost_ret (results_acc rfl _ _ (w.heap.size + 1) z28 (.slice none 0 0) rfl hz2) rfl ?_
      refine ⟨.slice none 0 0, ?_, ?_, ?_⟩
      · rw [HRES.out]; rfl
      · rw [HRES.out]; exact Own.nil _ _
      · exact Chg.base HB1.out hch (by omega) (fun i hi => by omega)
  · have h1' : imay x = false := by
      cases h' : imay x
      · rfl
      · exact absurd h' h1
    have hres : oneRes x bs = (z28, 100) := by unfold oneRes; rw [h1']; rfl
    have HRES := Lib.hid hres
    clear hres h1
    rw [h1']
    obtain ⟨z0, z1, z2, z3, z4, z5, z6, z7, z8, z9, z10, z11, z12, zl⟩ := acO_facts HZ.out
    have hf := fun j => blk_free HZ.out j
    go_wp2_with fail
    show bodyPost _ _ _ _ _ (putA w1 (w.heap.size + 1) z28 (.slice none 0 0))
    have hz2 := putA_blk (a := z28) (v := .slice none 0 0) HZ.out
    have hc2 := HB1.out.size
    have hch := putA_chg w1 (w.heap.size + 1) z28 (.slice none 0 0)
    refine bodyPost_ret (results_acc rfl _ _ (w.heap.size + 1) z28 (.slice none 0 0) rfl hz2) rfl ?_
    refine ⟨.slice none 0 0, ?_, ?_, ?_⟩
    · rw [HRES.out]; rfl
    · rw [HRES.out]; exact Own.nil _ _
    · exact Chg.base HB1.out hch (by omega) (fun i hi => by omega)
end Go.Proofs.Ytggaefklcpbfnaa.My

/-! RefM -/
namespace Go.Proofs.Ytggaefklcpbfnaa.My
open Go.RowKit Pa Go.Proofs.YtggaefklcpbfnaaW.PrintWords
attribute [local go_sem high] eqA26

theorem histmay_any (h : List Int) (cn : Int) (A : Option Addr) (c : Nat) (w : World) (hr : RdI w A h) (hc : h.length ≤ c) (hl : h.length ≤ 9) (h0 : 0 ≤ cn) (h9 : cn ≤ 8192) :
    Calls Try.prog 58 #[.slice A h.length c, .int .i64 cn] w fun e w' => e = .returned (.bool (hmL h cn)) ∧ Below w.heap.size w w' :=
  (bourneref1_histMay.calls (h.length + 1) A c h cn _ w hr hc (hm_f h (by omega) h0 h9)).mono fun _ _ h => ⟨h.1, h.2.below⟩
theorem rwm_any (x : Int) (w : World) :
    Calls Try.prog 41 #[.int .i64 x, .int .i64 1099511627776] w fun e w' => e = .returned (.bool (wm x)) ∧ Below w.heap.size w w' :=
  (bourneref1_within.calls _ _ _ w (rwm_f x)).mono fun _ _ h => ⟨h.1, h.2.below⟩
theorem bne_t {b : Bool} (h : ¬ b = false) : b = true := by cases b <;> simp_all
set_option maxHeartbeats 16000000 in
set_option maxRecDepth 100000 in
theorem rmay_any (a : S28) (bs : List Int) (Ah : Option Addr) (ch : Nat) (A1 : Option Addr) (c1 : Nat) (w : World) (hh : RdI w Ah a.f6) (hch : a.f6.length ≤ ch) (hr : RdI w A1 bs) (hc : bs.length ≤ c1) :
    Calls Try.prog 33 #[acV a (.slice Ah a.f6.length ch), .slice A1 bs.length c1] w fun e w' => e = .returned (.bool (amay a bs)) ∧ Below w.heap.size w w' := by
  have HA := Lib.hid hh
  have HCH := Lib.hid hch
  have HR := Lib.hid hr
  have HC := Lib.hid hc
  have hB : Below w.heap.size w (w.alloc (acO a (.slice Ah a.f6.length ch))) := (Below.refl w.heap.size w).alloc (Nat.le_refl _) _
  have hg : (w.alloc (acO a (.slice Ah a.f6.length ch))).heap[w.heap.size]? = some (acO a (.slice Ah a.f6.length ch)) := heap_alloc_new w _
  have HX0 := Lib.hid hB
  have HG := Lib.hid hg
  clear hh hr hc hB hg hch
  unfold acV
  go_enter Try.func33, Try.ntmps33
  go_wp2_with fail
  show Calls _ _ _ (w.alloc (acO a (.slice Ah a.f6.length ch))) _
  generalize w.alloc (acO a (.slice Ah a.f6.length ch)) = w1 at *
  obtain ⟨a0, a1, a2, a3, a4, a5, a6, a7, a8, a9, a10, a11, a12, al⟩ := acO_facts HG.out
  refine (rbm_any bs A1 c1 _ (Kd.C_below HR.out HX0.out) HC.out (by have := HR.out.2.1; unfold maxLen at this; exact this)).mono ?_
  rintro e w2 ⟨rfl, hb⟩
  replace HG := Lib.hid (blk_below HG.out hb)
  replace HX0 := Lib.hid (HX0.out.trans (hb.mono HX0.out.size))
  clear hb a0 a1 a2 a3 a4 a5 a6 a7 a8 a9 a10 a11 a12 al
  obtain ⟨a0, a1, a2, a3, a4, a5, a6, a7, a8, a9, a10, a11, a12, al⟩ := acO_facts HG.out
  by_cases hx : bmay bs = false
  · rw [hx]
    have hres : amay a bs = false := by rw [← rmay_eq]; unfold rmayB; rw [if_pos hx]
    have HRES := Lib.hid hres
    clear hres hx
    go_wp2_with fail
    go_ret
    exact ⟨by rw [HRES.out]; rfl, HX0.out⟩
  · have HBM := Lib.hid (bne_t hx)
    rw [bne_t hx]
    clear hx
    have hb8 := bmay_len HBM.out
    by_cases hx : ¬ a.f6.length = bs.length + 1
    · have hdl : ((a.f6.length : Int) != (bs.length : Int) + 1) = true := bne_iff_ne.2 (fun e => hx (by omega))
      have hres : amay a bs = false := by rw [← rmay_eq]; unfold rmayB; rw [if_neg (by rw [HBM.out]; decide), if_pos hx]
      have HRES := Lib.hid hres
      clear hres hx
      go_wp2_with fail
      go_ret
      exact ⟨by rw [HRES.out]; rfl, HX0.out⟩
    · have HL := Lib.hid (Classical.not_not.1 hx)
      have hdl : ((a.f6.length : Int) != (bs.length : Int) + 1) = false := bne_eq_false_iff_eq.2 (by have := Classical.not_not.1 hx; omega)
      clear hx
      by_cases hx : a.f0 < 0
      · have hd : decide (a.f0 < 0) = true := decide_eq_true hx
        have hres : amay a bs = false := by rw [← rmay_eq]; unfold rmayB; rw [if_neg (by rw [HBM.out]; decide), if_neg (not_not_intro HL.out), if_pos hx]
        have HRES := Lib.hid hres
        clear hres hx
        go_wp2_with fail
        go_ret
        exact ⟨by rw [HRES.out]; rfl, HX0.out⟩
      · have H0 := Lib.hid (hx)
        have hd0 : decide (a.f0 < 0) = false := decide_eq_false hx
        clear hx
        by_cases hx : 8192 < a.f0
        · have hd : decide (8192 < a.f0) = true := decide_eq_true hx
          have hres : amay a bs = false := by rw [← rmay_eq]; unfold rmayB; rw [if_neg (by rw [HBM.out]; decide), if_neg (not_not_intro HL.out), if_neg (by have := H0.out; omega), if_pos hx]
          have HRES := Lib.hid hres
          clear hres hx
          go_wp2_with fail
          go_ret
          exact ⟨by rw [HRES.out]; rfl, HX0.out⟩
        · have H9 := Lib.hid (hx)
          have hd9 : decide (8192 < a.f0) = false := decide_eq_false hx
          clear hx
          have HCN := Lib.hid (show 0 ≤ a.f0 ∧ a.f0 ≤ 8192 from ⟨by have := H0.out; omega, by have := H9.out; omega⟩)
          go_wp2_with fail
          refine (histmay_any a.f6 a.f0 Ah ch _ (Kd.C_below HA.out HX0.out) HCH.out (by have := HL.out; omega) HCN.out.1 HCN.out.2).mono ?_
          rintro e w3 ⟨rfl, hb⟩
          replace HG := Lib.hid (blk_below HG.out hb)
          replace HX0 := Lib.hid (HX0.out.trans (hb.mono HX0.out.size))
          clear hb a0 a1 a2 a3 a4 a5 a6 a7 a8 a9 a10 a11 a12 al
          obtain ⟨a0, a1, a2, a3, a4, a5, a6, a7, a8, a9, a10, a11, a12, al⟩ := acO_facts HG.out
          by_cases hx : hmL a.f6 a.f0 = false
          · rw [hx]
            have hres : amay a bs = false := by rw [← rmay_eq]; unfold rmayB; rw [if_neg (by rw [HBM.out]; decide), if_neg (not_not_intro HL.out), if_neg (by have := H0.out; omega), if_neg (by have := H9.out; omega), if_pos hx]
            have HRES := Lib.hid hres
            clear hres hx
            go_wp2_with fail
            go_ret
            exact ⟨by rw [HRES.out]; rfl, HX0.out⟩
          · have HHM := Lib.hid (bne_t hx)
            rw [bne_t hx]
            clear hx
            by_cases hx : a.f0 = 0
            · have HZ0 := Lib.hid hx
              have hzb : (a.f0 == 0) = true := beq_iff_eq.2 hx
              clear hx
              by_cases h1 : a.f1 = 0
              · by_cases h2 : a.f2 = 0
                · by_cases h3 : a.f3 = 0
                  · by_cases h4 : isz a.f4 = true
                    · by_cases h5 : isz a.f5 = true
                      · have hres : amay a bs = true := by rw [← rmay_eq]; unfold rmayB; rw [if_neg (by rw [HBM.out]; decide), if_neg (not_not_intro HL.out), if_neg (by have := H0.out; omega), if_neg (by have := H9.out; omega), if_neg (by rw [HHM.out]; decide), if_pos HZ0.out]; unfold bareB; rw [h1, h2, h3, h4, h5]; rfl
                        have HRES := Lib.hid hres
                        have e4 := isz_yes h4
                        have e5 := isz_yes h5
                        rw [h1] at a1
                        rw [h2] at a2
                        rw [h3] at a3
                        rw [e4] at a4 a5 a6 a7
                        rw [e5] at a8 a9 a10 a11
                        simp only at a4 a5 a6 a7 a8 a9 a10 a11
                        clear e4 e5 h1 h2 h3 h4 h5 hres
                        go_wp2_with fail
                        go_ret
                        exact ⟨by rw [HRES.out]; rfl, HX0.out⟩
                      · have h5' := bne_ h5
                        have hres : amay a bs = false := by rw [← rmay_eq]; unfold rmayB; rw [if_neg (by rw [HBM.out]; decide), if_neg (not_not_intro HL.out), if_neg (by have := H0.out; omega), if_neg (by have := H9.out; omega), if_neg (by rw [HHM.out]; decide), if_pos HZ0.out]; exact bare_no (a := a) (.inr (.inr (.inr (.inr h5'))))
                        have HRES := Lib.hid hres
                        clear hres
                        have e4 := isz_yes h4
                        have e5 := isz_no h5'
                        rw [h1] at a1
                        rw [h2] at a2
                        rw [h3] at a3
                        rw [e4] at a4 a5 a6 a7
                        simp only at a4 a5 a6 a7
                        clear e4 h1 h2 h3 h4 h5 h5'
                        go_wp2_with fail
                        go_ret
                        exact ⟨by rw [HRES.out]; rfl, HX0.out⟩
                    · have h4' := bne_ h4
                      have hres : amay a bs = false := by rw [← rmay_eq]; unfold rmayB; rw [if_neg (by rw [HBM.out]; decide), if_neg (not_not_intro HL.out), if_neg (by have := H0.out; omega), if_neg (by have := H9.out; omega), if_neg (by rw [HHM.out]; decide), if_pos HZ0.out]; exact bare_no (a := a) (.inr (.inr (.inr (.inl h4'))))
                      have HRES := Lib.hid hres
                      clear hres
                      have e4 := isz_no h4'
                      rw [h1] at a1
                      rw [h2] at a2
                      rw [h3] at a3
                      clear h1 h2 h3 h4 h4'
                      go_wp2_with fail
                      go_ret
                      exact ⟨by rw [HRES.out]; rfl, HX0.out⟩
                  · have hres : amay a bs = false := by rw [← rmay_eq]; unfold rmayB; rw [if_neg (by rw [HBM.out]; decide), if_neg (not_not_intro HL.out), if_neg (by have := H0.out; omega), if_neg (by have := H9.out; omega), if_neg (by rw [HHM.out]; decide), if_pos HZ0.out]; exact bare_no (a := a) (.inr (.inr (.inl h3)))
                    have HRES := Lib.hid hres
                    clear hres
                    have e3 : (a.f3 == 0) = false := beq_eq_false_iff_ne.2 h3
                    rw [h1] at a1
                    rw [h2] at a2
                    clear h1 h2 h3
                    go_wp2_with fail
                    go_ret
                    exact ⟨by rw [HRES.out]; rfl, HX0.out⟩
                · have hres : amay a bs = false := by rw [← rmay_eq]; unfold rmayB; rw [if_neg (by rw [HBM.out]; decide), if_neg (not_not_intro HL.out), if_neg (by have := H0.out; omega), if_neg (by have := H9.out; omega), if_neg (by rw [HHM.out]; decide), if_pos HZ0.out]; exact bare_no (a := a) (.inr (.inl h2))
                  have HRES := Lib.hid hres
                  clear hres
                  have e3 : (a.f2 == 0) = false := beq_eq_false_iff_ne.2 h2
                  rw [h1] at a1
                  clear h1 h2
                  go_wp2_with fail
                  go_ret
                  exact ⟨by rw [HRES.out]; rfl, HX0.out⟩
              · have hres : amay a bs = false := by rw [← rmay_eq]; unfold rmayB; rw [if_neg (by rw [HBM.out]; decide), if_neg (not_not_intro HL.out), if_neg (by have := H0.out; omega), if_neg (by have := H9.out; omega), if_neg (by rw [HHM.out]; decide), if_pos HZ0.out]; exact bare_no (a := a) (.inl h1)
                have HRES := Lib.hid hres
                clear hres
                have e3 : (a.f1 == 0) = false := beq_eq_false_iff_ne.2 h1
                clear h1
                go_wp2_with fail
                go_ret
                exact ⟨by rw [HRES.out]; rfl, HX0.out⟩
            · have HZ := Lib.hid (hx)
              have hzb : (a.f0 == 0) = false := beq_eq_false_iff_ne.2 hx
              clear hx
              go_wp2_with fail
              go_region
              all_goals clear a0 a1 a2 a3 a4 a5 a6 a7 a8 a9 a10 a11 a12 al
              all_goals (first
                | (
                  change Exit.then _ _ _ _ (((w3.alloc (itO a.f4)).alloc (itO a.f5)).drew)
                  have h1 : (((w3.alloc (itO a.f4)).alloc (itO a.f5)).drew).heap[w3.heap.size]? = some (itO a.f4) := blk_below (heap_alloc_new w3 (itO a.f4)) (((Below.refl _ _).alloc (Nat.le_refl _) _).drew)
                  have h2 : (((w3.alloc (itO a.f4)).alloc (itO a.f5)).drew).heap[w3.heap.size + 1]? = some (itO a.f5) := by
                    have := heap_alloc_new (w3.alloc (itO a.f4)) (itO a.f5)
                    show ((w3.alloc (itO a.f4)).alloc (itO a.f5)).heap[w3.heap.size + 1]? = _
                    simpa using this
                  have h3 : Below w3.heap.size w3 (((w3.alloc (itO a.f4)).alloc (itO a.f5)).drew) := (((Below.refl w3.heap.size w3).alloc (Nat.le_refl _) _).alloc (by simp) _).drew
                  replace HG := Lib.hid (blk_below HG.out h3)
                  replace HX0 := Lib.hid (HX0.out.trans (h3.mono HX0.out.size))
                  have HF := Lib.hid h1
                  have HZ_ := Lib.hid h2
                  clear h1 h2 h3
                  generalize ((w3.alloc (itO a.f4)).alloc (itO a.f5)).drew = w4 at *
                  generalize w3.heap.size + 1 = za at *
                  generalize w3.heap.size = fa at *)
                | (
                  change Exit.then _ _ _ _ (((w3.alloc (itO a.f5)).alloc (itO a.f4)).drew)
                  have h1 : (((w3.alloc (itO a.f5)).alloc (itO a.f4)).drew).heap[w3.heap.size]? = some (itO a.f5) := blk_below (heap_alloc_new w3 (itO a.f5)) (((Below.refl _ _).alloc (Nat.le_refl _) _).drew)
                  have h2 : (((w3.alloc (itO a.f5)).alloc (itO a.f4)).drew).heap[w3.heap.size + 1]? = some (itO a.f4) := by
                    have := heap_alloc_new (w3.alloc (itO a.f5)) (itO a.f4)
                    show ((w3.alloc (itO a.f5)).alloc (itO a.f4)).heap[w3.heap.size + 1]? = _
                    simpa using this
                  have h3 : Below w3.heap.size w3 (((w3.alloc (itO a.f5)).alloc (itO a.f4)).drew) := (((Below.refl w3.heap.size w3).alloc (Nat.le_refl _) _).alloc (by simp) _).drew
                  replace HG := Lib.hid (blk_below HG.out h3)
                  replace HX0 := Lib.hid (HX0.out.trans (h3.mono HX0.out.size))
                  have HZ_ := Lib.hid h1
                  have HF := Lib.hid h2
                  clear h1 h2 h3
                  generalize ((w3.alloc (itO a.f5)).alloc (itO a.f4)).drew = w4 at *
                  generalize w3.heap.size + 1 = fa at *
                  generalize w3.heap.size = za at *))
              all_goals (
                obtain ⟨a0, a1, a2, a3, a4, a5, a6, a7, a8, a9, a10, a11, a12, al⟩ := acO_facts HG.out
                obtain ⟨f0, f1, f2, f3, fl⟩ := itO_facts HF.out
                obtain ⟨z0, z1, z2, z3, zl⟩ := itO_facts HZ_.out
                go_wp2_with fail
                refine (rim_any a.f4 _).mono ?_
                rintro e w5 ⟨rfl, hb⟩
                replace HG := Lib.hid (blk_below HG.out hb)
                replace HF := Lib.hid (blk_below HF.out hb)
                replace HZ_ := Lib.hid (blk_below HZ_.out hb)
                replace HX0 := Lib.hid (HX0.out.trans (hb.mono HX0.out.size))
                clear hb a0 a1 a2 a3 a4 a5 a6 a7 a8 a9 a10 a11 a12 al f0 f1 f2 f3 fl z0 z1 z2 z3 zl
                obtain ⟨a0, a1, a2, a3, a4, a5, a6, a7, a8, a9, a10, a11, a12, al⟩ := acO_facts HG.out
                obtain ⟨f0, f1, f2, f3, fl⟩ := itO_facts HF.out
                obtain ⟨z0, z1, z2, z3, zl⟩ := itO_facts HZ_.out
                by_cases hx : imay a.f4 = false
                · rw [hx]
                  have hres : amay a bs = false := by rw [← rmay_eq]; unfold rmayB; rw [if_neg (by rw [HBM.out]; decide), if_neg (not_not_intro HL.out), if_neg (by have := H0.out; omega), if_neg (by have := H9.out; omega), if_neg (by rw [HHM.out]; decide), if_neg HZ.out, if_pos hx]
                  have HRES := Lib.hid hres
                  clear hres hx
                  go_wp2_with fail
                  go_ret
                  exact ⟨by rw [HRES.out]; rfl, HX0.out⟩
                · have HI4 := Lib.hid (bne_t hx)
                  rw [bne_t hx]
                  clear hx
                  go_wp2_with fail
                  refine (rim_any a.f5 _).mono ?_
                  rintro e w6 ⟨rfl, hb⟩
                  replace HG := Lib.hid (blk_below HG.out hb)
                  replace HF := Lib.hid (blk_below HF.out hb)
                  replace HZ_ := Lib.hid (blk_below HZ_.out hb)
                  replace HX0 := Lib.hid (HX0.out.trans (hb.mono HX0.out.size))
                  clear hb a0 a1 a2 a3 a4 a5 a6 a7 a8 a9 a10 a11 a12 al f0 f1 f2 f3 fl z0 z1 z2 z3 zl
                  obtain ⟨a0, a1, a2, a3, a4, a5, a6, a7, a8, a9, a10, a11, a12, al⟩ := acO_facts HG.out
                  obtain ⟨f0, f1, f2, f3, fl⟩ := itO_facts HF.out
                  obtain ⟨z0, z1, z2, z3, zl⟩ := itO_facts HZ_.out
                  by_cases hx : imay a.f5 = false
                  · rw [hx]
                    have hres : amay a bs = false := by rw [← rmay_eq]; unfold rmayB; rw [if_neg (by rw [HBM.out]; decide), if_neg (not_not_intro HL.out), if_neg (by have := H0.out; omega), if_neg (by have := H9.out; omega), if_neg (by rw [HHM.out]; decide), if_neg HZ.out, if_neg (by rw [HI4.out]; decide), if_pos hx]
                    have HRES := Lib.hid hres
                    clear hres hx
                    go_wp2_with fail
                    go_ret
                    exact ⟨by rw [HRES.out]; rfl, HX0.out⟩
                  · have HI5 := Lib.hid (bne_t hx)
                    rw [bne_t hx]
                    clear hx
                    by_cases hx : ¬ a.f4.f0 = a.f5.f0
                    · have hds : (a.f4.f0 != a.f5.f0) = true := bne_iff_ne.2 hx
                      have hres : amay a bs = false := by rw [← rmay_eq]; unfold rmayB; rw [if_neg (by rw [HBM.out]; decide), if_neg (not_not_intro HL.out), if_neg (by have := H0.out; omega), if_neg (by have := H9.out; omega), if_neg (by rw [HHM.out]; decide), if_neg HZ.out, if_neg (by rw [HI4.out]; decide), if_neg (by rw [HI5.out]; decide), if_pos hx]
                      have HRES := Lib.hid hres
                      clear hres hx
                      go_wp2_with fail
                      go_ret
                      exact ⟨by rw [HRES.out]; rfl, HX0.out⟩
                    · have HS := Lib.hid (Classical.not_not.1 hx)
                      have hds : (a.f4.f0 != a.f5.f0) = false := bne_eq_false_iff_eq.2 (Classical.not_not.1 hx)
                      clear hx
                      go_wp2_with fail
                      refine (bef_any a.f5 a.f4 _).mono ?_
                      rintro e w7 ⟨rfl, hb⟩
                      replace HG := Lib.hid (blk_below HG.out hb)
                      replace HF := Lib.hid (blk_below HF.out hb)
                      replace HZ_ := Lib.hid (blk_below HZ_.out hb)
                      replace HX0 := Lib.hid (HX0.out.trans (hb.mono HX0.out.size))
                      clear hb a0 a1 a2 a3 a4 a5 a6 a7 a8 a9 a10 a11 a12 al f0 f1 f2 f3 fl z0 z1 z2 z3 zl
                      obtain ⟨a0, a1, a2, a3, a4, a5, a6, a7, a8, a9, a10, a11, a12, al⟩ := acO_facts HG.out
                      obtain ⟨f0, f1, f2, f3, fl⟩ := itO_facts HF.out
                      obtain ⟨z0, z1, z2, z3, zl⟩ := itO_facts HZ_.out
                      by_cases hx : bef a.f5 a.f4 = true
                      · rw [hx]
                        have hres : amay a bs = false := by rw [← rmay_eq]; unfold rmayB; rw [if_neg (by rw [HBM.out]; decide), if_neg (not_not_intro HL.out), if_neg (by have := H0.out; omega), if_neg (by have := H9.out; omega), if_neg (by rw [HHM.out]; decide), if_neg HZ.out, if_neg (by rw [HI4.out]; decide), if_neg (by rw [HI5.out]; decide), if_neg (not_not_intro HS.out), if_pos hx]
                        have HRES := Lib.hid hres
                        clear hres hx
                        go_wp2_with fail
                        go_ret
                        exact ⟨by rw [HRES.out]; rfl, HX0.out⟩
                      · have HO := Lib.hid (bne_ hx)
                        rw [bne_ hx]
                        clear hx
                        go_wp2_with fail
                        refine (rwm_any a.f2 _).mono ?_
                        rintro e w8 ⟨rfl, hb⟩
                        replace HG := Lib.hid (blk_below HG.out hb)
                        replace HF := Lib.hid (blk_below HF.out hb)
                        replace HZ_ := Lib.hid (blk_below HZ_.out hb)
                        replace HX0 := Lib.hid (HX0.out.trans (hb.mono HX0.out.size))
                        clear hb a0 a1 a2 a3 a4 a5 a6 a7 a8 a9 a10 a11 a12 al f0 f1 f2 f3 fl z0 z1 z2 z3 zl
                        obtain ⟨a0, a1, a2, a3, a4, a5, a6, a7, a8, a9, a10, a11, a12, al⟩ := acO_facts HG.out
                        obtain ⟨f0, f1, f2, f3, fl⟩ := itO_facts HF.out
                        obtain ⟨z0, z1, z2, z3, zl⟩ := itO_facts HZ_.out
                        by_cases hx : wm a.f2 = false
                        · rw [hx]
                          have hres : amay a bs = false := by rw [← rmay_eq]; unfold rmayB; rw [if_neg (by rw [HBM.out]; decide), if_neg (not_not_intro HL.out), if_neg (by have := H0.out; omega), if_neg (by have := H9.out; omega), if_neg (by rw [HHM.out]; decide), if_neg HZ.out, if_neg (by rw [HI4.out]; decide), if_neg (by rw [HI5.out]; decide), if_neg (not_not_intro HS.out), if_neg (by rw [HO.out]; decide), if_pos hx]
                          have HRES := Lib.hid hres
                          clear hres hx
                          go_wp2_with fail
                          go_ret
                          exact ⟨by rw [HRES.out]; rfl, HX0.out⟩
                        · have HW2 := Lib.hid (bne_t hx)
                          rw [bne_t hx]
                          clear hx
                          go_wp2_with fail
                          refine (rwm_any a.f3 _).mono ?_
                          rintro e w9 ⟨rfl, hb⟩
                          replace HG := Lib.hid (blk_below HG.out hb)
                          replace HF := Lib.hid (blk_below HF.out hb)
                          replace HZ_ := Lib.hid (blk_below HZ_.out hb)
                          replace HX0 := Lib.hid (HX0.out.trans (hb.mono HX0.out.size))
                          clear hb a0 a1 a2 a3 a4 a5 a6 a7 a8 a9 a10 a11 a12 al f0 f1 f2 f3 fl z0 z1 z2 z3 zl
                          obtain ⟨a0, a1, a2, a3, a4, a5, a6, a7, a8, a9, a10, a11, a12, al⟩ := acO_facts HG.out
                          obtain ⟨f0, f1, f2, f3, fl⟩ := itO_facts HF.out
                          obtain ⟨z0, z1, z2, z3, zl⟩ := itO_facts HZ_.out
                          by_cases hx : wm a.f3 = false
                          · rw [hx]
                            have hres : amay a bs = false := by rw [← rmay_eq]; unfold rmayB; rw [if_neg (by rw [HBM.out]; decide), if_neg (not_not_intro HL.out), if_neg (by have := H0.out; omega), if_neg (by have := H9.out; omega), if_neg (by rw [HHM.out]; decide), if_neg HZ.out, if_neg (by rw [HI4.out]; decide), if_neg (by rw [HI5.out]; decide), if_neg (not_not_intro HS.out), if_neg (by rw [HO.out]; decide), if_neg (by rw [HW2.out]; decide), if_pos hx]
                            have HRES := Lib.hid hres
                            clear hres hx
                            go_wp2_with fail
                            go_ret
                            exact ⟨by rw [HRES.out]; rfl, HX0.out⟩
                          · have HW3 := Lib.hid (bne_t hx)
                            rw [bne_t hx]
                            clear hx
                            have HWW := Lib.hid (And.intro (wm_iff HW2.out) (wm_iff HW3.out))
                            obtain ⟨m1, m2⟩ := mul_bound HCN.out.1 HCN.out.2 HWW.out.1.1 HWW.out.1.2
                            obtain ⟨m3, m4⟩ := mul_bound HCN.out.1 HCN.out.2 HWW.out.2.1 HWW.out.2.2
                            have hv1 : wrap64 (a.f0 * a.f2) = a.f0 * a.f2 := by unfold wrap64; omega
                            have hv2 : wrap64 (a.f0 * a.f3) = a.f0 * a.f3 := by unfold wrap64; omega
                            have hv3 : IntKind.i64.wrap (a.f0 * a.f2) = a.f0 * a.f2 := by rw [IntKind.wrap_i64]; omega
                            have hv4 : IntKind.i64.wrap (a.f0 * a.f3) = a.f0 * a.f3 := by rw [IntKind.wrap_i64]; omega
                            clear m1 m2 m3 m4
                            by_cases hx : a.f1 < a.f0 * a.f2
                            · have hd1 : decide (a.f1 < a.f0 * a.f2) = true := decide_eq_true hx
                              have hres : amay a bs = false := by rw [← rmay_eq]; unfold rmayB; rw [if_neg (by rw [HBM.out]; decide), if_neg (not_not_intro HL.out), if_neg (by have := H0.out; omega), if_neg (by have := H9.out; omega), if_neg (by rw [HHM.out]; decide), if_neg HZ.out, if_neg (by rw [HI4.out]; decide), if_neg (by rw [HI5.out]; decide), if_neg (not_not_intro HS.out), if_neg (by rw [HO.out]; decide), if_neg (by rw [HW2.out]; decide), if_neg (by rw [HW3.out]; decide), if_pos hx]
                              have HRES := Lib.hid hres
                              clear hres hx
                              go_wp2_with fail
                              go_ret
                              exact ⟨by rw [HRES.out]; rfl, HX0.out⟩
                            · have HP := Lib.hid (hx)
                              have hd1 : decide (a.f1 < a.f0 * a.f2) = false := decide_eq_false hx
                              clear hx
                              by_cases hx : a.f0 * a.f3 < a.f1
                              · have hd2 : decide (a.f0 * a.f3 < a.f1) = true := decide_eq_true hx
                                have hres : amay a bs = false := by rw [← rmay_eq]; unfold rmayB; rw [if_neg (by rw [HBM.out]; decide), if_neg (not_not_intro HL.out), if_neg (by have := H0.out; omega), if_neg (by have := H9.out; omega), if_neg (by rw [HHM.out]; decide), if_neg HZ.out, if_neg (by rw [HI4.out]; decide), if_neg (by rw [HI5.out]; decide), if_neg (not_not_intro HS.out), if_neg (by rw [HO.out]; decide), if_neg (by rw [HW2.out]; decide), if_neg (by rw [HW3.out]; decide), if_neg (by have := HP.out; omega), if_pos hx]
                                have HRES := Lib.hid hres
                                clear hres hx
                                go_wp2_with fail
                                go_ret
                                exact ⟨by rw [HRES.out]; rfl, HX0.out⟩
                              · have HQ := Lib.hid (hx)
                                have hd2 : decide (a.f0 * a.f3 < a.f1) = false := decide_eq_false hx
                                clear hx
                                by_cases hx : ¬ a.f2 ≤ a.f4.f3
                                · have hd : decide (a.f2 ≤ a.f4.f3) = false := decide_eq_false hx
                                  have hres : amay a bs = false := by rw [← rmay_eq]; unfold rmayB; rw [if_neg (by rw [HBM.out]; decide), if_neg (not_not_intro HL.out), if_neg (by have := H0.out; omega), if_neg (by have := H9.out; omega), if_neg (by rw [HHM.out]; decide), if_neg HZ.out, if_neg (by rw [HI4.out]; decide), if_neg (by rw [HI5.out]; decide), if_neg (not_not_intro HS.out), if_neg (by rw [HO.out]; decide), if_neg (by rw [HW2.out]; decide), if_neg (by rw [HW3.out]; decide), if_neg (by have := HP.out; omega), if_neg (by have := HQ.out; omega), if_pos hx]
                                  have HRES := Lib.hid hres
                                  clear hres hx
                                  go_wp2_with fail
                                  go_ret
                                  exact ⟨by rw [HRES.out]; rfl, HX0.out⟩
                                · have HA1 := Lib.hid (Classical.not_not.1 hx)
                                  have hdHA1 : decide (a.f2 ≤ a.f4.f3) = true := decide_eq_true (Classical.not_not.1 hx)
                                  clear hx
                                  by_cases hx : ¬ a.f4.f3 ≤ a.f3
                                  · have hd : decide (a.f4.f3 ≤ a.f3) = false := decide_eq_false hx
                                    have hres : amay a bs = false := by rw [← rmay_eq]; unfold rmayB; rw [if_neg (by rw [HBM.out]; decide), if_neg (not_not_intro HL.out), if_neg (by have := H0.out; omega), if_neg (by have := H9.out; omega), if_neg (by rw [HHM.out]; decide), if_neg HZ.out, if_neg (by rw [HI4.out]; decide), if_neg (by rw [HI5.out]; decide), if_neg (not_not_intro HS.out), if_neg (by rw [HO.out]; decide), if_neg (by rw [HW2.out]; decide), if_neg (by rw [HW3.out]; decide), if_neg (by have := HP.out; omega), if_neg (by have := HQ.out; omega), if_neg (not_not_intro HA1.out), if_pos hx]
                                    have HRES := Lib.hid hres
                                    clear hres hx
                                    go_wp2_with fail
                                    go_ret
                                    exact ⟨by rw [HRES.out]; rfl, HX0.out⟩
                                  · have HA2 := Lib.hid (Classical.not_not.1 hx)
                                    have hdHA2 : decide (a.f4.f3 ≤ a.f3) = true := decide_eq_true (Classical.not_not.1 hx)
                                    clear hx
                                    by_cases hx : ¬ a.f2 ≤ a.f5.f3
                                    · have hd : decide (a.f2 ≤ a.f5.f3) = false := decide_eq_false hx
                                      have hres : amay a bs = false := by rw [← rmay_eq]; unfold rmayB; rw [if_neg (by rw [HBM.out]; decide), if_neg (not_not_intro HL.out), if_neg (by have := H0.out; omega), if_neg (by have := H9.out; omega), if_neg (by rw [HHM.out]; decide), if_neg HZ.out, if_neg (by rw [HI4.out]; decide), if_neg (by rw [HI5.out]; decide), if_neg (not_not_intro HS.out), if_neg (by rw [HO.out]; decide), if_neg (by rw [HW2.out]; decide), if_neg (by rw [HW3.out]; decide), if_neg (by have := HP.out; omega), if_neg (by have := HQ.out; omega), if_neg (not_not_intro HA1.out), if_neg (not_not_intro HA2.out), if_pos hx]
                                      have HRES := Lib.hid hres
                                      clear hres hx
                                      go_wp2_with fail
                                      go_ret
                                      exact ⟨by rw [HRES.out]; rfl, HX0.out⟩
                                    · have HA3 := Lib.hid (Classical.not_not.1 hx)
                                      have hdHA3 : decide (a.f2 ≤ a.f5.f3) = true := decide_eq_true (Classical.not_not.1 hx)
                                      clear hx
                                      by_cases hx : ¬ a.f5.f3 ≤ a.f3
                                      · have hd : decide (a.f5.f3 ≤ a.f3) = false := decide_eq_false hx
                                        have hres : amay a bs = false := by rw [← rmay_eq]; unfold rmayB; rw [if_neg (by rw [HBM.out]; decide), if_neg (not_not_intro HL.out), if_neg (by have := H0.out; omega), if_neg (by have := H9.out; omega), if_neg (by rw [HHM.out]; decide), if_neg HZ.out, if_neg (by rw [HI4.out]; decide), if_neg (by rw [HI5.out]; decide), if_neg (not_not_intro HS.out), if_neg (by rw [HO.out]; decide), if_neg (by rw [HW2.out]; decide), if_neg (by rw [HW3.out]; decide), if_neg (by have := HP.out; omega), if_neg (by have := HQ.out; omega), if_neg (not_not_intro HA1.out), if_neg (not_not_intro HA2.out), if_neg (not_not_intro HA3.out), if_pos hx]
                                        have HRES := Lib.hid hres
                                        clear hres hx
                                        go_wp2_with fail
                                        go_ret
                                        exact ⟨by rw [HRES.out]; rfl, HX0.out⟩
                                      · have HA4 := Lib.hid (Classical.not_not.1 hx)
                                        have hdHA4 : decide (a.f5.f3 ≤ a.f3) = true := decide_eq_true (Classical.not_not.1 hx)
                                        clear hx
                                        have hres : amay a bs = true := by rw [← rmay_eq]; unfold rmayB; rw [if_neg (by rw [HBM.out]; decide), if_neg (not_not_intro HL.out), if_neg (by have := H0.out; omega), if_neg (by have := H9.out; omega), if_neg (by rw [HHM.out]; decide), if_neg HZ.out, if_neg (by rw [HI4.out]; decide), if_neg (by rw [HI5.out]; decide), if_neg (not_not_intro HS.out), if_neg (by rw [HO.out]; decide), if_neg (by rw [HW2.out]; decide), if_neg (by rw [HW3.out]; decide), if_neg (by have := HP.out; omega), if_neg (by have := HQ.out; omega), if_neg (not_not_intro HA1.out), if_neg (not_not_intro HA2.out), if_neg (not_not_intro HA3.out), if_neg (not_not_intro HA4.out)]
                                        have HRES := Lib.hid hres
                                        clear hres
                                        go_wp2_with fail
                                        go_ret
                                        exact ⟨by rw [HRES.out]; rfl, HX0.out⟩)
end Go.Proofs.Ytggaefklcpbfnaa.My

/-! RefJ -/
namespace Go.Proofs.Ytggaefklcpbfnaa.My
open Go.RowKit Pa Go.Proofs.YtggaefklcpbfnaaW.PrintWords
attribute [local go_sem high] eqA26
set_option linter.unusedSimpArgs false

theorem own_of_r {w : World} {base : Nat} {ok : Nat → Prop} {v : Value} {h : List Int} (hr : Kd.R (Kd.int .i64) 3 w base ok v h) : Own w base v h := by
  have := Kd.own_of_R hr
  rwa [show encs (Value.int .i64) h = h.map (Value.int .i64) from rfl] at this
/-- Another one of it. -/
theorem rcopy_any (a : S28) (A : Option Addr) (c : Nat) (w : World) (hr : RdI w A a.f6) (hc : a.f6.length ≤ c) (hl : a.f6.length ≤ 17592186044415) :
    Calls Try.prog 52 #[acV a (.slice A a.f6.length c)] w fun e w' => ∃ v, e = .returned (acV a v) ∧ Own w' w.heap.size v a.f6 ∧ Below w.heap.size w w' :=
  (bourneref1_copyAcc.calls _ _ _ _ _ _ _ _ _ _ _ _ A c a.f6 a.f0 a.f1 a.f2 a.f3 a.f4.f0 a.f4.f1 a.f4.f2 a.f4.f3 a.f5.f0 a.f5.f1 a.f5.f2 a.f5.f3 a.f6 w hr hc (by
    unfold bourneref1_copyAcc.f
    rw [Option.bind_some, if_pos (by simp; omega)]
    rfl)).mono fun e w' ⟨v, he, ho, hb⟩ => ⟨v, he, own_of_r ho, hb⟩
theorem blk_drew1 {w : World} {g : Nat} {o : Obj} (h : w.heap[g]? = some o) : (World.drew w).heap[g]? = some o := h
structure CurA (w0 w : World) (g : Nat) (c : S28) (A : Option Addr) (cap : Nat) : Prop where
  blk : w.heap[g]? = some (acO c (.slice A c.f6.length cap))
  own : Own w w0.heap.size (.slice A c.f6.length cap) c.f6
  bel : Below w0.heap.size w0 w
  new : w0.heap.size ≤ g
theorem CurA.rd {w0 w : World} {g : Nat} {c : S28} {A : Option Addr} {cap : Nat} (h : CurA w0 w g c A cap) : c.f6.length ≤ cap ∧ RdI w A c.f6 := by
  obtain ⟨A', c', e, hl, hr⟩ := h.own.reads
  injection e with e1 e2 e3
  subst e1 e3
  exact ⟨hl, hr⟩
theorem CurA.below {w0 w w1 : World} {g : Nat} {c : S28} {A : Option Addr} {cap : Nat} (h : CurA w0 w g c A cap) (hb : Below w.heap.size w w1) : CurA w0 w1 g c A cap :=
  ⟨blk_below h.blk hb, h.own.below hb, h.bel.trans (hb.mono h.bel.size), h.new⟩
theorem CurA.put {w0 w w1 : World} {g : Nat} {c d : S28} {A B : Option Addr} {cap cb : Nat} (h : CurA w0 w g c A cap) (hb : Below w.heap.size w w1) (ho : Own w1 w.heap.size (.slice B d.f6.length cb) d.f6) : CurA w0 (putA w1 g d (.slice B d.f6.length cb)) g d B cb := by
  have hg := blk_below h.blk hb
  have hch := putA_chg w1 g d (.slice B d.f6.length cb)
  refine ⟨putA_blk hg, own_weaken (ho.keep hch (fun k hk e => own_no ho hg (by rw [hk, e]))) h.bel.size, ?_, h.new⟩
  exact Chg.base (h.bel.trans (hb.mono h.bel.size)) hch (Nat.le_trans h.bel.size hb.size) (fun i hi => by rw [hi]; exact h.new)

set_option maxHeartbeats 16000000 in
set_option maxRecDepth 100000 in
theorem rjoin_any (bs : List Int) (xs : List S28) (A1 : Option Addr) (c1 : Nat) (A : Option Addr) (c : Nat) (w : World) (hr : RdI w A1 bs) (hc : bs.length ≤ c1) (ha : RdA w A xs) (hl : xs.length ≤ 17592186044415) :
    Calls Try.prog 31 #[.slice A1 bs.length c1, .slice A xs.length c] w fun e w' => ∃ v, e = .returned (.tuple #[acV (joinRes bs xs).1 v, .int .i64 (joinRes bs xs).2]) ∧ Own w' w.heap.size v (joinRes bs xs).1.f6 ∧ Below w.heap.size w w' := by
  have hB : Below w.heap.size w (w.alloc (acO z28 (.slice none 0 0))) := (Below.refl w.heap.size w).alloc (Nat.le_refl _) _
  have hz : (w.alloc (acO z28 (.slice none 0 0))).heap[w.heap.size]? = some (acO z28 (.slice none 0 0)) := heap_alloc_new w _
  have HR := Lib.hid hr
  have HC := Lib.hid hc
  have HA := Lib.hid ha
  have HX := Lib.hid hB
  have HZ := Lib.hid hz
  clear hr hc ha hB hz
  go_enter Try.func31, Try.ntmps31
  go_wp2_with fail
  show Calls _ _ _ (w.alloc (acO z28 (.slice none 0 0))) _
  generalize w.alloc (acO z28 (.slice none 0 0)) = w1 at *
  refine (rbm_any bs A1 c1 _ (Kd.C_below HR.out HX.out) HC.out (by have := HR.out.2.1; unfold maxLen at this; exact this)).mono ?_
  rintro e w2 ⟨rfl, hb⟩
  replace HZ := Lib.hid (blk_below HZ.out hb)
  replace HX := Lib.hid (HX.out.trans (hb.mono HX.out.size))
  clear hb
  by_cases hbm : bmay bs = true
  · have HBM := Lib.hid hbm
    rw [hbm]
    clear hbm
    have hb8 := bmay_len HBM.out
    go_wp2_with fail
    go_loopw [6, 7] (fun s i wr => ∃ (k : Nat) (at_ f : Int), i = .int .i64 k ∧ s = .int .i64 at_ ∧ k ≤ xs.length ∧ Below w.heap.size w wr ∧ wr.heap[w.heap.size]? = some (acO z28 (.slice none 0 0)) ∧ Rel (AtOk xs k at_ f) ∧ Rel (allm bs (-1) xs = allm bs f (xs.drop k))) (fun _ i _ => xs.length - (intOf i).toNat)
    case atStart => exact ⟨0, -1, -1, rfl, rfl, by omega, HX.out, HZ.out, .inl ⟨rfl, rfl⟩, by show _ = _; rw [List.drop_zero]⟩
    case round =>
      obtain ⟨k, at_, f, rfl, rfl, hk, hb, hz, hat, hal⟩ := hrel
      have HB1 := Lib.hid hb
      have HZ1 := Lib.hid hz
      have HAT := Lib.hid hat
      have HAL := Lib.hid hal
      clear hb hz hat hal HX HZ
      by_cases hlt : k < xs.length
      · obtain ⟨b, o, rfl, hbs, hcells⟩ := HA.out (by omega)
        have HCELLS := Lib.hid hcells
        have hcx := hcells k hlt
        have hdr := drop_cons hlt
        have HDR := Lib.hid hdr
        clear hdr hcells
        obtain ⟨x, hx⟩ : ∃ x, x = xs.getD k z28 := ⟨_, rfl⟩
        have HXK := Lib.hid hx
        rw [← hx] at hcx
        clear hx
        have HAC := Lib.hid (hcx.below HB1.out)
        obtain ⟨Ah, ch, e0, e1, e2, e3, e4, e5, e6, e7, e8, e9, e10, e11, e12, hlh, hrh⟩ := hcx.below HB1.out
        have HRH := Lib.hid (And.intro hlh hrh)
        clear hlh hrh hcx
        go_wp2_with fail
        refine (rmay_any x bs Ah ch A1 c1 _ HRH.out.2 HRH.out.1 (Kd.C_below HR.out HB1.out) HC.out).mono ?_
        rintro e w3 ⟨rfl, hb⟩
        replace HZ1 := Lib.hid (blk_below HZ1.out hb)
        replace HB1 := Lib.hid (HB1.out.trans (hb.mono HB1.out.size))
        replace HAC := Lib.hid (HAC.out.below hb)
        clear hb e0 e1 e2 e3 e4 e5 e6 e7 e8 e9 e10 e11 e12
        by_cases hm : amay x bs = true
        · have HM := Lib.hid hm
          rw [hm]
          clear hm
          obtain ⟨Ah, ch, e0, e1, e2, e3, e4, e5, e6, e7, e8, e9, e10, e11, e12, hlh, hrh⟩ := HAC.out
          clear e1 e2 e3 e5 e6 e7 e8 e9 e10 e11 e12 hlh hrh
          obtain ⟨hc0, hc9⟩ := amay_c HM.out
          by_cases h0 : x.f0 = 0
          · have hd : (x.f0 == 0) = true := beq_iff_eq.2 h0
            have HH0 := Lib.hid h0
            clear h0
            go_wp2_with fail
            refine ⟨⟨k + 1, at_, f, by go_num, rfl, by omega, HB1.out, HZ1.out, ?_, ?_⟩, by simp [intOf]; omega⟩
            · rcases HAT.out with h | ⟨j, hj, h⟩
              · exact .inl h
              · exact .inr ⟨j, by omega, h⟩
            · have := HAL.out
              rw [HDR.out, ← HXK.out] at this
              rw [this]
              show allm bs f (x :: xs.drop (k + 1)) = _
              unfold allm
              rw [if_pos HM.out, if_neg (by have := HH0.out; omega)]
              cases xs.drop (k + 1) <;> rfl
          · have hd : (x.f0 == 0) = false := beq_eq_false_iff_ne.2 h0
            have HN0 := Lib.hid h0
            clear h0
            rcases HAT.out with ⟨h1, h2⟩ | ⟨j, hj, h1, h2, h3⟩
            · subst h1 h2
              have hda : decide ((0 : Int) ≤ -1) = false := by decide
              go_wp2_with fail
              have HZD := Lib.hid (show (World.drew w3).heap[w.heap.size]? = some (acO z28 (.slice none 0 0)) from HZ1.out)
              have HBD := Lib.hid HB1.out.drew
              clear HZ1 HB1
              refine Txt.wp_region_text (by kernel_rfl) (by kernel_rfl) ?_
              repeat (first
                | (refine Txt.text_p (by rfl) rfl (fun K hK => ?_); go_big_quiet_op; refine hK _ ?_; clear hK K)
                | (refine Txt.text_r (by rfl) rfl (fun K hK => ?_); go_big_quiet_op; refine hK _ ?_; clear hK K)
                | (refine Txt.text_pass (by rfl) (by rfl) ?_; simp only [List.set_cons_succ, List.set_cons_zero]))
              refine Txt.text_nil ?_
              go_wp2_with fail
              refine ⟨⟨k + 1, (k : Int), x.f4.f0, by go_num, rfl, by omega, HBD.out, HZD.out, .inr ⟨k, by omega, rfl, by rw [← HXK.out], ser_pos HM.out HN0.out⟩, ?_⟩, by simp [intOf]; omega⟩
              have := HAL.out
              rw [HDR.out, ← HXK.out] at this
              rw [this]
              show allm bs _ (x :: xs.drop (k + 1)) = _
              unfold allm
              rw [if_pos HM.out, if_pos (by have := HN0.out; omega), if_neg (by omega)]
              cases xs.drop (k + 1) <;> rfl
            · subst h1
              have hda : decide ((0 : Int) ≤ (j : Int)) = true := decide_eq_true (by omega)
              obtain ⟨Ah2, ch2, g0, g1, g2, g3, g4, g5, g6, g7, g8, g9, g10, g11, g12, glh, grh⟩ := (HCELLS.out j (by omega)).below HB1.out
              clear g0 g1 g2 g3 g5 g6 g7 g8 g9 g10 g11 g12 glh grh
              rw [← h2] at g4
              by_cases hs : x.f4.f0 = f
              · have hds : (x.f4.f0 != f) = false := bne_eq_false_iff_eq.2 hs
                have HS := Lib.hid hs
                clear hs h2
                go_wp2_with fail
                have HZD := Lib.hid (show (World.drew w3).heap[w.heap.size]? = some (acO z28 (.slice none 0 0)) from HZ1.out)
                have HBD := Lib.hid HB1.out.drew
                clear HZ1 HB1
                refine Txt.wp_region_text (by kernel_rfl) (by kernel_rfl) ?_
                repeat (first
                  | (refine Txt.text_p (by rfl) rfl (fun K hK => ?_); go_big_quiet_op; refine hK _ ?_; clear hK K)
                  | (refine Txt.text_r (by rfl) rfl (fun K hK => ?_); go_big_quiet_op; refine hK _ ?_; clear hK K)
                  | (refine Txt.text_pass (by rfl) (by rfl) ?_; simp only [List.set_cons_succ, List.set_cons_zero]))
                refine Txt.text_nil ?_
                go_wp2_with fail
                refine ⟨⟨k + 1, (k : Int), x.f4.f0, by go_num, rfl, by omega, HBD.out, HZD.out, .inr ⟨k, by omega, rfl, by rw [← HXK.out], ser_pos HM.out HN0.out⟩, ?_⟩, by simp [intOf]; omega⟩
                have := HAL.out
                rw [HDR.out, ← HXK.out] at this
                rw [this]
                show allm bs _ (x :: xs.drop (k + 1)) = _
                unfold allm
                rw [if_pos HM.out, if_pos (by have := HN0.out; omega), if_neg (fun h => h.2 HS.out)]
                cases xs.drop (k + 1) <;> rfl
              · have hds : (x.f4.f0 != f) = true := bne_iff_ne.2 hs
                have HS := Lib.hid hs
                clear hs h2
                go_wp2_with fail
                have hres : joinRes bs xs = (z28, 100) := by
                  unfold joinRes
                  rw [if_neg ?_]
                  have := HAL.out
                  rw [HDR.out, ← HXK.out] at this
                  rw [this]
                  show ¬ allm bs f (x :: xs.drop (k + 1)) = true
                  unfold allm
                  rw [if_pos HM.out, if_pos (by have := HN0.out; omega), if_pos ⟨h3, HS.out⟩]
                  decide
                have HRES := Lib.hid hres
                clear hres
                refine Txt.wp_region_text (by kernel_rfl) (by kernel_rfl) ?_
                repeat (first
                  | (refine Txt.text_p (by rfl) rfl (fun K hK => ?_); go_big_quiet_op; refine hK _ ?_; clear hK K)
                  | (refine Txt.text_r (by rfl) rfl (fun K hK => ?_); go_big_quiet_op; refine hK _ ?_; clear hK K)
                  | (refine Txt.text_pass (by rfl) (by rfl) ?_; simp only [List.set_cons_succ, List.set_cons_zero]))
                refine Txt.text_nil ?_
                obtain ⟨z0, z1, z2, z3, z4, z5, z6, z7, z8, z9, z10, z11, z12, zl⟩ := acO_facts HZ1.out
                have hf := fun j => blk_free HZ1.out j
                go_wp2_with fail
                show bodyPost _ _ _ _ _ (World.drew (putA w3 w.heap.size z28 (.slice none 0 0)))
                have hz2 := blk_drew1 (putA_blk (a := z28) (v := .slice none 0 0) HZ1.out)
                have hch := (putA_chg w3 w.heap.size z28 (.slice none 0 0)).drew
                refine bodyPost_ret (results_acc rfl _ _ w.heap.size z28 (.slice none 0 0) rfl hz2) rfl ?_
                refine ⟨.slice none 0 0, ?_, ?_, ?_⟩
                · rw [HRES.out]; rfl
                · rw [HRES.out]; exact Own.nil _ _
                · exact Chg.base HB1.out hch HB1.out.size (fun i hi => by omega)
        · have hm' := bne_ hm
          rw [hm']
          have hres : joinRes bs xs = (z28, 100) := by
            unfold joinRes
            rw [if_neg ?_]
            have := HAL.out
            rw [HDR.out, ← HXK.out] at this
            rw [this]
            show ¬ allm bs f (x :: xs.drop (k + 1)) = true
            unfold allm
            rw [if_neg hm]
            decide
          have HRES := Lib.hid hres
          clear hres hm hm'
          obtain ⟨z0, z1, z2, z3, z4, z5, z6, z7, z8, z9, z10, z11, z12, zl⟩ := acO_facts HZ1.out
          have hf := fun j => blk_free HZ1.out j
          go_wp2_with fail
          show bodyPost _ _ _ _ _ (putA w3 w.heap.size z28 (.slice none 0 0))
          have hz2 := putA_blk (a := z28) (v := .slice none 0 0) HZ1.out
          have hch := putA_chg w3 w.heap.size z28 (.slice none 0 0)
          refine bodyPost_ret (results_acc rfl _ _ w.heap.size z28 (.slice none 0 0) rfl hz2) rfl ?_
          refine ⟨.slice none 0 0, ?_, ?_, ?_⟩
          · rw [HRES.out]; rfl
          · rw [HRES.out]; exact Own.nil _ _
          · exact Chg.base HB1.out hch HB1.out.size (fun i hi => by omega)
      · obtain rfl : k = xs.length := by omega
        have hal : allm bs (-1) xs = true := by
          have := HAL.out
          rw [List.drop_length] at this
          rw [this]
          exact HBM.out
        obtain ⟨s, hs⟩ := allm_ser hal
        have HALL := Lib.hid (allm_all hal)
        have HS := Lib.hid hs
        have H1 := Lib.hid hal
        clear hs hal HAL HAT
        go_wp2_with (refine wp_make_ints rfl _ _ rfl (bs.length + 1) (by omega) _ rfl rfl (by omega) ?_)
        have hlj : (join0 bs).f6.length = bs.length + 1 := by simp [join0]
        generalize wr = wb at *
        have hal1 : Below wb.heap.size wb ((wb.alloc (.cells (Array.replicate (bs.length + 1) (.int .i64 0)) 3)).alloc (acO (join0 bs) (.slice (some ⟨wb.heap.size, 0, none⟩) (bs.length + 1) (bs.length + 1)))) := ((Below.refl wb.heap.size wb).alloc (Nat.le_refl _) _).alloc (by simp) _
        have hrow := blk_below (heap_alloc_new wb (.cells (Array.replicate (bs.length + 1) (.int .i64 0)) 3)) ((Below.refl (wb.alloc (.cells (Array.replicate (bs.length + 1) (.int .i64 0)) 3)).heap.size (wb.alloc (.cells (Array.replicate (bs.length + 1) (.int .i64 0)) 3))).alloc (Nat.le_refl _) (acO (join0 bs) (.slice (some ⟨wb.heap.size, 0, none⟩) (bs.length + 1) (bs.length + 1))))
        have hblk : ((wb.alloc (.cells (Array.replicate (bs.length + 1) (.int .i64 0)) 3)).alloc (acO (join0 bs) (.slice (some ⟨wb.heap.size, 0, none⟩) (bs.length + 1) (bs.length + 1)))).heap[wb.heap.size + 1]? = some (acO (join0 bs) (.slice (some ⟨wb.heap.size, 0, none⟩) (bs.length + 1) (bs.length + 1))) := by
          have := heap_alloc_new (wb.alloc (.cells (Array.replicate (bs.length + 1) (.int .i64 0)) 3)) (acO (join0 bs) (.slice (some ⟨wb.heap.size, 0, none⟩) (bs.length + 1) (bs.length + 1)))
          simpa using this
        have hcur : CurA wb ((wb.alloc (.cells (Array.replicate (bs.length + 1) (.int .i64 0)) 3)).alloc (acO (join0 bs) (.slice (some ⟨wb.heap.size, 0, none⟩) (bs.length + 1) (bs.length + 1)))) (wb.heap.size + 1) (join0 bs) (some ⟨wb.heap.size, 0, none⟩) (bs.length + 1) := by
          refine ⟨by rw [hlj]; exact hblk, ?_, hal1, by omega⟩
          rw [hlj]
          exact made_own (bs.length + 1) (by omega) _ wb.heap.size hrow wb.heap.size (Nat.le_refl _)
        show Code.wp _ _ _ _ ((wb.alloc (.cells (Array.replicate (bs.length + 1) (.int .i64 0)) 3)).alloc (acO (join0 bs) (.slice (some ⟨wb.heap.size, 0, none⟩) (bs.length + 1) (bs.length + 1))))
        have HCUR := Lib.hid hcur
        clear hal1 hrow hblk hcur hlj
        generalize ((wb.alloc (.cells (Array.replicate (bs.length + 1) (.int .i64 0)) 3)).alloc (acO (join0 bs) (.slice (some ⟨wb.heap.size, 0, none⟩) (bs.length + 1) (bs.length + 1)))) = w5 at *
        go_loopw [9] (fun i wx => ∃ (k : Nat) (B : Option Addr) (cap : Nat), i = .int .i64 k ∧ k ≤ xs.length ∧ CurA wb wx (wb.heap.size + 1) (joinA bs (xs.take k)) B cap ∧ Rel (Zs bs s (joinA bs (xs.take k))) ∧ Rel ((joinA bs (xs.take k)).f0 = cnt (xs.take k) ∧ cnt (xs.take k) ≤ 8192)) (fun i _ => xs.length - (intOf i).toNat)
        case atStart => exact ⟨0, _, _, rfl, by omega, HCUR.out, .inl rfl, by rw [List.take_zero]; exact ⟨rfl, by decide⟩⟩
        case round =>
          obtain ⟨k, B, cap, rfl, hk, hcu, hzs, hcn⟩ := hrel
          have HCU := Lib.hid hcu
          have HZS := Lib.hid hzs
          have HCN := Lib.hid (id (α := _ ∧ _) hcn)
          clear hcu hzs hcn HCUR
          by_cases hlt : k < xs.length
          · obtain ⟨b, o, rfl, hbs, hcells⟩ := HA.out (by omega)
            have hm := HALL.out _ (getD_mem28 hlt)
            have hs := HS.out _ (getD_mem28 hlt)
            have hac := ((hcells k hlt).below HB1.out).below HCU.out.bel
            have hsn := join_snoc (bs := bs) hlt
            have hcs := cnt_snoc hlt
            obtain ⟨hre, hzn⟩ := rstep_eq hm HZS.out hs
            have hc8 := amay_c hm
            have hlen : (xs.getD k z28).f6.length = bs.length + 1 := (amay_fit hm).len
            generalize xs.getD k z28 = x at *
            generalize joinA bs (xs.take k) = cj at *
            generalize cnt (xs.take k) = cc at *
            have HSN := Lib.hid hsn
            have HCS := Lib.hid hcs
            have HRE := Lib.hid hre
            have HZN := Lib.hid hzn
            have HM := Lib.hid hm
            have HSX := Lib.hid hs
            have HLN := Lib.hid hlen
            have hcj : cj.f0 ≤ 8192 := by have := HCN.out; omega
            obtain ⟨Ah, ch, e0, e1, e2, e3, e4, e5, e6, e7, e8, e9, e10, e11, e12, hlh, hrh⟩ := hac
            have HRH := Lib.hid (And.intro hlh hrh)
            obtain ⟨a0, a1, a2, a3, a4, a5, a6, a7, a8, a9, a10, a11, a12, al⟩ := acO_facts HCU.out.blk
            clear hsn hcs hre hzn hm hs hlen hlh hrh hcells
            by_cases h0 : x.f0 = 0
            · have hd : (x.f0 == 0) = true := beq_iff_eq.2 h0
              have hd8 : decide (8192 < cj.f0) = false := decide_eq_false (by omega)
              have e : stepA cj x = cj := if_neg (by omega)
              have HE := Lib.hid e
              have HX0 := Lib.hid h0
              clear h0 e
              go_wp2_with fail
              refine ⟨⟨k + 1, B, cap, by go_num, by omega, ?_, ?_, ?_⟩, by simp [intOf]; omega⟩
              · rw [HSN.out, HE.out]; exact HCU.out
              · show Zs _ _ _
                rw [HSN.out, HE.out]; exact HZS.out
              · show _ ∧ _
                rw [HSN.out, HE.out, HCS.out, HX0.out, Int.add_zero]; exact HCN.out
            · have hd : (x.f0 == 0) = false := beq_eq_false_iff_ne.2 h0
              have HN0 := Lib.hid h0
              by_cases h1 : cj.f0 = 0
              · have hd1 : (cj.f0 == 0) = true := beq_iff_eq.2 h1
                have hd8 : decide (8192 < x.f0) = false := decide_eq_false (by omega)
                have e : stepA cj x = x := by rw [← HRE.out]; unfold rstep; rw [if_neg h0, if_pos h1]
                have HE := Lib.hid e
                have HC0 := Lib.hid h1
                clear h0 h1 e
                go_wp2_with fail
                refine (rcopy_any x Ah ch _ HRH.out.2 HRH.out.1 (by have := HLN.out; omega)).mono ?_
                rintro e w6 ⟨v, rfl, how, hb⟩
                obtain ⟨A6, c6, rfl, hl6, hr6⟩ := how.reads
                have hnew := HCU.out.put hb how
                have HNEW := Lib.hid hnew
                have hblk := blk_below HCU.out.blk hb
                clear a0 a1 a2 a3 a4 a5 a6 a7 a8 a9 a10 a11 a12 al e0 e1 e2 e3 e4 e5 e6 e7 e8 e9 e10 e11 e12 hnew
                obtain ⟨a0, a1, a2, a3, a4, a5, a6, a7, a8, a9, a10, a11, a12, al⟩ := acO_facts hblk
                have hf := fun j => blk_free hblk j
                clear hblk how hb hl6 hr6
                simp only [acV]
                go_wp2_with fail
                refine ⟨⟨k + 1, A6, c6, by go_num, by omega, ?_, ?_, ?_⟩, by simp [intOf]; omega⟩
                · rw [HSN.out, HE.out]; exact HNEW.out
                · show Zs _ _ _
                  rw [HSN.out]
                  exact HZN.out (by have := HC0.out; omega)
                · show _ ∧ _
                  have := HCN.out
                  have := HC0.out
                  rw [HSN.out, HE.out, HCS.out]
                  exact ⟨by omega, by omega⟩
              · have hd1 : (cj.f0 == 0) = false := beq_eq_false_iff_ne.2 h1
                have e : stepA cj x = twoA cj x := by rw [← HRE.out]; unfold rstep; rw [if_neg h0, if_neg h1]
                have HE := Lib.hid e
                have HOK := Lib.hid (rstep_ok HM.out h0 HZS.out h1)
                have h2c : (twoA cj x).f0 = cj.f0 + x.f0 := (tw_parts cj x).1
                have H2C := Lib.hid h2c
                clear h0 h1 e h2c
                go_wp2_with fail
                refine Txt.wp_region_mix (by kernel_rfl) (by kernel_rfl) (fun HB => ?_)
                repeat (first
                  | (refine Txt.mix_p (by rfl) rfl rfl (fun K hK => ?_); go_big_quiet_op; refine hK _ ?_; clear hK K)
                  | (refine Txt.mix_re (by rfl) (by decide +kernel) (by rfl) (by rfl) (by go_simp) HB (fun K hK => ?_); go_big_quiet_op; refine hK _ ?_; clear hK K)
                  | (refine Txt.mix_rl (by rfl) (by decide +kernel) (by rfl) (by rfl) (by go_simp) HB (fun K hK => ?_); go_big_quiet_op; refine hK _ ?_; clear hK K)
                  | (refine Txt.mix_pass (by rfl) (by rfl) ?_; simp only [List.set_cons_succ, List.set_cons_zero]))
                refine Txt.mix_c (by rfl) (by decide +kernel) HB ?_
                intro w5' hw5 K hK
                replace HB := HB.trans hw5
                have HCU5 := Lib.hid (HCU.out.below HB.undrew)
                have HRH5 := Lib.hid (RdI.below HRH.out.2 HB.undrew)
                clear hw5
                go_wp2_with fail
                refine (two_any cj x B cap Ah ch _ HCU5.out.rd.2 HRH5.out HOK.out).mono ?_
                rintro e w6 ⟨v, rfl, how, hb⟩
                refine hK _ _ ⟨hb, ?_⟩
                replace HB := HB.trans hb
                obtain ⟨A6, c6, rfl, hl6, hr6⟩ := how.reads
                have hnew := HCU5.out.put hb how
                have HNEW := Lib.hid hnew
                have hblk := blk_below HCU5.out.blk hb
                clear a0 a1 a2 a3 a4 a5 a6 a7 a8 a9 a10 a11 a12 al e0 e1 e2 e3 e4 e5 e6 e7 e8 e9 e10 e11 e12 hnew hK K
                obtain ⟨a0, a1, a2, a3, a4, a5, a6, a7, a8, a9, a10, a11, a12, al⟩ := acO_facts hblk
                have hf := fun j => blk_free hblk j
                clear hblk how hb hl6 hr6
                simp only [acV]
                repeat (first
                  | (refine Txt.mix_p (by rfl) rfl rfl (fun K hK => ?_); go_big_quiet_op; refine hK _ ?_; clear hK K)
                  | (refine Txt.mix_re (by rfl) (by decide +kernel) (by rfl) (by rfl) (by go_simp) HB (fun K hK => ?_); go_big_quiet_op; refine hK _ ?_; clear hK K)
                  | (refine Txt.mix_rl (by rfl) (by decide +kernel) (by rfl) (by rfl) (by go_simp) HB (fun K hK => ?_); go_big_quiet_op; refine hK _ ?_; clear hK K)
                  | (refine Txt.mix_pass (by rfl) (by rfl) ?_; simp only [List.set_cons_succ, List.set_cons_zero]))
                refine Txt.mix_a (by rfl) (by decide +kernel) (fun K hK => ?_)
                go_wp2_with fail
                clear a0 a1 a2 a3 a4 a5 a6 a7 a8 a9 a10 a11 a12 al hf
                show Txt.wpMix _ _ _ _ _ _ _ (putA w6 (wb.heap.size + 1) (twoA cj x) (.slice A6 (twoA cj x).f6.length c6))
                clear HB
                generalize putA w6 (wb.heap.size + 1) (twoA cj x) (.slice A6 (twoA cj x).f6.length c6) = w7 at *
                refine Txt.mix_nil ?_
                obtain ⟨a0, a1, a2, a3, a4, a5, a6, a7, a8, a9, a10, a11, a12, al⟩ := acO_facts HNEW.out.blk
                by_cases h8 : 8192 < (twoA cj x).f0
                · have hd8 : decide (8192 < (twoA cj x).f0) = true := decide_eq_true h8
                  have hres : joinRes bs xs = (z28, 101) := by
                    unfold joinRes
                    rw [if_pos H1.out, if_pos ?_]
                    have h3 := (cnt_take HALL.out (k + 1)).2.1
                    have := HCN.out
                    have := HCS.out
                    have := H2C.out
                    omega
                  have HRES := Lib.hid hres
                  have HZ3 := Lib.hid (blk_below HZ1.out HNEW.out.bel)
                  have HB3 := Lib.hid (HB1.out.trans (HNEW.out.bel.mono HB1.out.size))
                  clear hres h8
                  obtain ⟨z0, z1, z2, z3, z4, z5, z6, z7, z8, z9, z10, z11, z12, zl⟩ := acO_facts HZ3.out
                  have hf := fun j => blk_free HZ3.out j
                  go_wp2_with fail
                  show bodyPost _ _ _ _ _ (putA w7 w.heap.size z28 (.slice none 0 0))
                  have hz2 := putA_blk (a := z28) (v := .slice none 0 0) HZ3.out
                  have hch := putA_chg w7 w.heap.size z28 (.slice none 0 0)
                  refine bodyPost_ret (results_acc rfl _ _ w.heap.size z28 (.slice none 0 0) rfl hz2) rfl ?_
                  refine ⟨.slice none 0 0, ?_, ?_, ?_⟩
                  · rw [HRES.out]; rfl
                  · rw [HRES.out]; exact Own.nil _ _
                  · exact Chg.base HB3.out hch HB3.out.size (fun i hi => by omega)
                · have hd8 : decide (8192 < (twoA cj x).f0) = false := decide_eq_false h8
                  have H8 := Lib.hid h8
                  clear h8
                  go_wp2_with fail
                  refine ⟨⟨k + 1, A6, c6, by go_num, by omega, ?_, ?_, ?_⟩, by simp [intOf]; omega⟩
                  · rw [HSN.out, HE.out]; exact HNEW.out
                  · show Zs _ _ _
                    rw [HSN.out]
                    exact HZN.out (by have := H8.out; have := H2C.out; omega)
                  · show _ ∧ _
                    have := HCN.out
                    have := H2C.out
                    have := H8.out
                    rw [HSN.out, HE.out, HCS.out]
                    exact ⟨by omega, by omega⟩
          · obtain rfl : k = xs.length := by omega
            have hres : joinRes bs xs = (joinA bs xs, 0) := by
              unfold joinRes
              rw [if_pos H1.out, if_neg ?_]
              have := HCN.out.2
              rw [List.take_length] at this
              omega
            have HRES := Lib.hid hres
            have hcu := HCU.out
            rw [List.take_length] at hcu
            generalize joinA bs xs = oj at *
            have HZ3 := Lib.hid (blk_below HZ1.out hcu.bel)
            have HB3 := Lib.hid (HB1.out.trans (hcu.bel.mono HB1.out.size))
            have hsz := blk_lt HZ1.out
            obtain ⟨a0, a1, a2, a3, a4, a5, a6, a7, a8, a9, a10, a11, a12, al⟩ := acO_facts hcu.blk
            obtain ⟨z0, z1, z2, z3, z4, z5, z6, z7, z8, z9, z10, z11, z12, zl⟩ := acO_facts HZ3.out
            have hf := fun j => blk_free HZ3.out j
            have HOC := Lib.hid hcu
            clear hcu hres HCU
            go_wp2_with fail
            show bodyPost _ _ _ _ _ (putA wr w.heap.size oj (.slice B oj.f6.length cap))
            have hz2 := putA_blk (a := oj) (v := .slice B oj.f6.length cap) HZ3.out
            have hch := putA_chg wr w.heap.size oj (.slice B oj.f6.length cap)
            refine bodyPost_ret (results_acc rfl _ _ w.heap.size oj (.slice B oj.f6.length cap) rfl hz2) rfl ?_
            refine ⟨.slice B oj.f6.length cap, ?_, ?_, ?_⟩
            · rw [HRES.out]; rfl
            · rw [HRES.out]
              exact own_weaken (HOC.out.own.keep hch (fun k hk e => own_no HOC.out.own HZ3.out (by rw [hk, e]))) HB1.out.size
            · exact Chg.base HB3.out hch HB3.out.size (fun i hi => by omega)
  · have h1' := bne_ hbm
    have hres : joinRes bs xs = (z28, 100) := by unfold joinRes; rw [if_neg (fun h => hbm (allm_bm h))]
    have HRES := Lib.hid hres
    rw [h1']
    clear hres hbm h1'
    obtain ⟨z0, z1, z2, z3, z4, z5, z6, z7, z8, z9, z10, z11, z12, zl⟩ := acO_facts HZ.out
    have hf := fun j => blk_free HZ.out j
    go_wp2_with fail
    show bodyPost _ _ _ _ _ (putA w2 w.heap.size z28 (.slice none 0 0))
    have hz2 := putA_blk (a := z28) (v := .slice none 0 0) HZ.out
    have hch := putA_chg w2 w.heap.size z28 (.slice none 0 0)
    refine bodyPost_ret (results_acc rfl _ _ w.heap.size z28 (.slice none 0 0) rfl hz2) rfl ?_
    refine ⟨.slice none 0 0, ?_, ?_, ?_⟩
    · rw [HRES.out]; rfl
    · rw [HRES.out]; exact Own.nil _ _
    · exact Chg.base HX.out hch HX.out.size (fun i hi => by omega)
end Go.Proofs.Ytggaefklcpbfnaa.My

/-! AccsM -/
namespace Go.Proofs.Ytggaefklcpbfnaa.My
open Go.RowKit Pa Go.Proofs.YtggaefklcpbfnaaW.PrintWords
set_option linter.unusedSimpArgs false

theorem spot_none {w : World} {a : Addr} {v : Value} (h : w.cell? a = some v) : a.spot = none := by
  unfold World.cell? at h
  split at h
  · split at h
    · cases h
    · rename_i hs
      cases e : a.spot with
      | none => rfl
      | some s => rw [e] at hs; exact absurd rfl hs
  · cases h
theorem kd_of_rdA {w : World} {A : Option Addr} {xs : List S28} (h : RdA w A xs) (hl : xs.length ≤ 9223372036854775807) : Kd.C k28 w A xs.length xs := by
  refine ⟨rfl, hl, fun hp => ?_⟩
  obtain ⟨b, o, rfl, hb, hc⟩ := h hp
  refine ⟨_, rfl, fun j p hj => ?_⟩
  have hjl := (List.getElem?_eq_some_iff.1 hj).1
  obtain ⟨Ah, ch, e0, e1, e2, e3, e4, e5, e6, e7, e8, e9, e10, e11, e12, hl2, hr⟩ := hc j hjl
  have e : xs.getD j z28 = p := by rw [List.getD_eq_getElem?_getD, hj]; rfl
  rw [e] at e0 e1 e2 e3 e4 e5 e6 e7 e8 e9 e10 e11 e12 hl2 hr
  refine ⟨_, rfl, k28_mk w p hl2 hr, fun i u hu => ?_⟩
  have ha : (⟨b, o, none⟩ : Addr).add (j * 13 + i) = ⟨b, o + j * 13 + i, none⟩ := by simp [Addr.add, Nat.add_assoc]
  rw [show k28.sz = 13 from rfl, ha]
  match i, hu with
  | 0, hu => injection hu with hu; subst hu; exact e0
  | 1, hu => injection hu with hu; subst hu; exact e1
  | 2, hu => injection hu with hu; subst hu; exact e2
  | 3, hu => injection hu with hu; subst hu; exact e3
  | 4, hu => injection hu with hu; subst hu; exact e4
  | 5, hu => injection hu with hu; subst hu; exact e5
  | 6, hu => injection hu with hu; subst hu; exact e6
  | 7, hu => injection hu with hu; subst hu; exact e7
  | 8, hu => injection hu with hu; subst hu; exact e8
  | 9, hu => injection hu with hu; subst hu; exact e9
  | 10, hu => injection hu with hu; subst hu; exact e10
  | 11, hu => injection hu with hu; subst hu; exact e11
  | 12, hu => injection hu with hu; subst hu; exact e12
  | i + 13, hu => cases hu
theorem rdA_of_kd {w : World} {A : Option Addr} {xs : List S28} (h : Kd.C k28 w A xs.length xs) : RdA w A xs := fun hp => by
  obtain ⟨ad, e, hc⟩ := h.2.2 hp
  have hcell : ∀ j p, xs[j]? = some p → ∃ A12 c12, (∀ i u, [Value.int .i64 p.f0, .int .i64 p.f1, .int .i64 p.f2, .int .i64 p.f3, .int .i64 p.f4.f0, .int .i64 p.f4.f1, .int .i64 p.f4.f2, .int .i64 p.f4.f3, .int .i64 p.f5.f0, .int .i64 p.f5.f1, .int .i64 p.f5.f2, .int .i64 p.f5.f3, .slice A12 p.f6.length c12][i]? = some u → w.cell? (ad.add (j * 13 + i)) = some u) ∧ p.f6.length ≤ c12 ∧ RdI w A12 p.f6 := fun j p hj => by
    obtain ⟨c, _, hk, hu⟩ := hc j p hj
    obtain ⟨A12, c12, rfl, hl, hr⟩ := k28_open hk
    exact ⟨A12, c12, hu, hl, hr⟩
  obtain ⟨_, _, h0, _, _⟩ := hcell 0 _ (List.getElem?_eq_getElem hp)
  have h00 := h0 0 _ rfl
  have hs : ad.spot = none := by
    have := spot_none h00
    simpa [Addr.add] using this
  obtain ⟨b, o, sp⟩ := ad
  simp only at hs
  subst hs
  subst e
  refine ⟨b, o, rfl, by have := block_lt_of_cell h00; simpa [Addr.add] using this, fun i hi => ?_⟩
  obtain ⟨A12, c12, hu, hl, hr⟩ := hcell i _ (List.getElem?_eq_getElem hi)
  have e : xs.getD i z28 = xs[i] := by rw [List.getD_eq_getElem?_getD, List.getElem?_eq_getElem hi]; rfl
  rw [e]
  have ha : ∀ j, (⟨b, o, none⟩ : Addr).add (i * 13 + j) = ⟨b, o + i * 13 + j, none⟩ := fun j => by simp [Addr.add, Nat.add_assoc]
  simp only [ha] at hu
  exact ⟨A12, c12, hu 0 _ rfl, hu 1 _ rfl, hu 2 _ rfl, hu 3 _ rfl, hu 4 _ rfl, hu 5 _ rfl, hu 6 _ rfl, hu 7 _ rfl, hu 8 _ rfl, hu 9 _ rfl, hu 10 _ rfl, hu 11 _ rfl, hu 12 _ rfl, hl, hr⟩
theorem rdT {xs : List S28} {k : Nat} : rd_T28 xs (k : Int) = xs.getD k z28 := rfl
theorem copyA_f (a : S28) (hl : a.f6.length ≤ 17592186044415) : bournelaw0_CopyAcc.f a.f0 a.f1 a.f2 a.f3 a.f4.f0 a.f4.f1 a.f4.f2 a.f4.f3 a.f5.f0 a.f5.f1 a.f5.f2 a.f5.f3 a.f6 = some (a.f0, a.f1, a.f2, a.f3, a.f4.f0, a.f4.f1, a.f4.f2, a.f4.f3, a.f5.f0, a.f5.f1, a.f5.f2, a.f5.f3, a.f6) := by
  unfold bournelaw0_CopyAcc.f
  rw [Option.bind_some, if_pos (by simp; omega)]
  rfl
theorem copies_loop (xs : List S28) (hl : xs.length ≤ 1172812402960) (hh : ∀ x ∈ xs, x.f6.length ≤ 17592186044415) : ∀ n i k, i + n = xs.length → n < k → bournelaw0_CopyAccs.l0 k xs (xs.take i) i = some xs
  | 0, i, k, hi, hk => by
    obtain ⟨k, rfl⟩ : ∃ m, k = m + 1 := ⟨k - 1, by omega⟩
    obtain rfl : i = xs.length := by omega
    unfold bournelaw0_CopyAccs.l0
    rw [if_neg (by omega), List.take_length]
  | n + 1, i, k, hi, hk => by
    obtain ⟨k, rfl⟩ : ∃ m, k = m + 1 := ⟨k - 1, by omega⟩
    have hlt : i < xs.length := by omega
    have hx := hh _ (getD_mem28 hlt)
    have hs := take_snoc hlt
    unfold bournelaw0_CopyAccs.l0
    rw [if_pos (by omega), if_pos (by omega), rdT]
    generalize xs.getD i z28 = x at *
    rw [copyA_f x hx, Option.bind_some, if_pos (by rw [List.length_take]; omega), wrap_up (by omega)]
    have := copies_loop xs hl hh n (i + 1) k (by omega) (by omega)
    rwa [hs] at this
/-- Aggregates are copied. -/
theorem copies_any (xs : List S28) (A : Option Addr) (c : Nat) (w : World) (hr : RdA w A xs) (hc : xs.length ≤ c) (hl : xs.length ≤ 1172812402960) (hh : ∀ x ∈ xs, x.f6.length ≤ 17592186044415) :
    Calls Try.prog 27 #[.slice A xs.length c] w fun e w' => ∃ B d, e = .returned (.slice B xs.length d) ∧ xs.length ≤ d ∧ RdA w' B xs ∧ Below w.heap.size w w' :=
  (bournelaw0_CopyAccs.calls (xs.length + 1) A c xs xs w (kd_of_rdA hr (by omega)) hc (by
    have := copies_loop xs hl hh xs.length 0 (xs.length + 1) (by omega) (by omega)
    rw [List.take_zero] at this
    exact this)).mono fun e w' ⟨v, he, hs, hb⟩ => by
      obtain ⟨B, d, rfl, hd, hk⟩ := Kd.S_reads hs
      exact ⟨B, d, he, hd, rdA_of_kd hk, hb⟩
theorem sames_loop (xs : List S28) (hl : xs.length ≤ 1172812402960) (hh : ∀ x ∈ xs, x.f6.length ≤ 17592186044415) (m : Nat) (hm : ∀ x ∈ xs, x.f6.length < m) : ∀ n i k, i + n = xs.length → n + m < k → bournelaw0_SameAccs.l0 k xs xs i = some true
  | 0, i, k, hi, hk => by
    obtain ⟨k, rfl⟩ : ∃ m, k = m + 1 := ⟨k - 1, by omega⟩
    obtain rfl : i = xs.length := by omega
    unfold bournelaw0_SameAccs.l0
    rw [if_neg (by omega)]
  | n + 1, i, k, hi, hk => by
    obtain ⟨k, rfl⟩ : ∃ m, k = m + 1 := ⟨k - 1, by omega⟩
    have hlt : i < xs.length := by omega
    have hx := hh _ (getD_mem28 hlt)
    have hx2 := hm _ (getD_mem28 hlt)
    unfold bournelaw0_SameAccs.l0
    rw [if_pos (by omega), if_pos (by omega), if_pos (by omega), rdT]
    generalize xs.getD i z28 = x at *
    have hf : ∀ d, bournelaw0_SameAcc.f (x.f6.length + 1 + d) x.f0 x.f1 x.f2 x.f3 x.f4.f0 x.f4.f1 x.f4.f2 x.f4.f3 x.f5.f0 x.f5.f1 x.f5.f2 x.f5.f3 x.f6 x.f0 x.f1 x.f2 x.f3 x.f4.f0 x.f4.f1 x.f4.f2 x.f4.f3 x.f5.f0 x.f5.f1 x.f5.f2 x.f5.f3 x.f6 = some true := fun d => by
      induction d with
      | zero => exact same_f x hx
      | succ d ih => exact bournelaw0_SameAcc.mono _ _ _ _ _ _ _ _ _ _ _ _ _ _ _ _ _ _ _ _ _ _ _ _ _ _ _ _ ih
    have := hf (k - (x.f6.length + 1))
    rw [show x.f6.length + 1 + (k - (x.f6.length + 1)) = k by omega] at this
    rw [this, Option.bind_some, if_pos rfl, wrap_up (by omega)]
    exact sames_loop xs hl hh m hm n (i + 1) k (by omega) (by omega)
theorem len_bound : ∀ (xs : List S28), ∃ m, ∀ x ∈ xs, x.f6.length < m
  | [] => ⟨0, fun x hx => by cases hx⟩
  | a :: r => by
    obtain ⟨m, hm⟩ := len_bound r
    refine ⟨max m (a.f6.length + 1), fun x hx => ?_⟩
    rcases List.mem_cons.1 hx with rfl | hx
    · omega
    · have := hm x hx
      omega
/-- Like aggregates are told as like. -/
theorem sames_any (xs : List S28) (A B : Option Addr) (c d : Nat) (w : World) (hA : RdA w A xs) (hc : xs.length ≤ c) (hB : RdA w B xs) (hd : xs.length ≤ d) (hl : xs.length ≤ 1172812402960) (hh : ∀ x ∈ xs, x.f6.length ≤ 17592186044415) :
    Calls Try.prog 34 #[.slice A xs.length c, .slice B xs.length d] w fun e w' => e = .returned (.bool true) ∧ Below w.heap.size w w' := by
  obtain ⟨m, hm⟩ := len_bound xs
  refine (bournelaw0_SameAccs.calls (xs.length + m + 1) A c xs B d xs true w (kd_of_rdA hA (by omega)) hc (kd_of_rdA hB (by omega)) hd ?_).mono fun e w' h => ⟨h.1, ?_⟩
  · unfold bournelaw0_SameAccs.f
    rw [if_pos rfl]
    exact sames_loop xs hl hh m hm xs.length 0 _ (by omega) (by omega)
  · first | exact h.2 | exact h.2.below
/-- Whole numbers are copied. -/
theorem copyI_any (l : List Int) (A : Option Addr) (c : Nat) (w : World) (hr : RdI w A l) (hc : l.length ≤ c) (hl : l.length ≤ 17592186044415) :
    Calls Try.prog 44 #[.slice A l.length c] w fun e w' => ∃ v, e = .returned v ∧ Own w' w.heap.size v l ∧ Below w.heap.size w w' :=
  (bournelaw0_CopyInts.calls A c l l w hr hc (by
    unfold bournelaw0_CopyInts.f
    rw [Option.bind_some, if_pos (by simp; omega)]
    rfl)).mono fun e w' ⟨v, he, ho, hb⟩ => ⟨v, he, own_of_r ho, hb⟩
def marks (l : List Int) : List Int := l ++ [-7777, -8888]
theorem marks_len (l : List Int) : (marks l).length = l.length + 2 := by simp [marks]
/-- What is lent: a row of one's own, with the marks behind it. -/
def Lent (w : World) (base b cap : Nat) (l : List Int) : Prop := Own w base (.slice (some ⟨b, 0, none⟩) (l.length + 2) cap) (marks l)
theorem Own.cap {w : World} {base b n cap : Nat} {l : List Int} (h : Own w base (.slice (some ⟨b, 0, none⟩) n cap) l) : l.length ≤ cap ∧ cap ≤ maxLen := by
  obtain ⟨A, c, e, _, _⟩ := h.reads
  injection e with e1 e2 e3
  subst e2
  exact row_cap h
theorem Lent.rd {w : World} {base b cap : Nat} {l : List Int} (h : Lent w base b cap l) : RdI w (some ⟨b, 0, none⟩) l ∧ l.length + 2 ≤ cap := by
  obtain ⟨A, c, e, hl, hr⟩ := Own.reads h
  injection e with e1 e2 e3
  subst e1 e3
  rw [marks_len] at hl
  refine ⟨⟨rfl, by have := hr.2.1; rw [marks_len] at this; omega, fun hp => ?_⟩, hl⟩
  obtain ⟨ad, e, hc⟩ := hr.2.2 (by rw [marks_len]; omega)
  refine ⟨ad, e, fun j p hj => hc j p ?_⟩
  have hjl := (List.getElem?_eq_some_iff.1 hj).1
  unfold marks
  rw [List.getElem?_append_left hjl]
  exact hj
set_option maxHeartbeats 4000000 in
set_option maxRecDepth 100000 in
theorem lendI_any (l : List Int) (A : Option Addr) (c : Nat) (w : World) (hr : RdI w A l) (hc : l.length ≤ c) (hl : l.length ≤ 17592186043904) :
    Calls Try.prog 26 #[.slice A l.length c] w fun e w' => ∃ b cap, e = .returned (.slice (some ⟨b, 0, none⟩) l.length cap) ∧ Lent w' w.heap.size b cap l ∧ Below w.heap.size w w' := by
  have HR := Lib.hid hr
  have HC := Lib.hid hc
  clear hr hc
  go_enter Try.func26, Try.ntmps26
  go_wp2_with fail
  refine (copyI_any l A c w HR.out HC.out (by omega)).mono ?_
  rintro e w1 ⟨v1, rfl, ho1, hb1⟩
  have HO1 := Lib.hid ho1
  have HB1 := Lib.hid hb1
  clear ho1 hb1
  go_wp2_with (at_builtin; refine at_append _ _ _ rfl ?_)
  unfold AtAppend
  refine wpList_plain rfl fun K hK => ?_
  show Oper.wp _ _ _ (w1.alloc (.cells #[.int .i64 (-7777), .int .i64 (-8888)] 3)) _ _
  have hal : Below w1.heap.size w1 (w1.alloc (.cells #[.int .i64 (-7777), .int .i64 (-8888)] 3)) := (Below.refl _ _).alloc (Nat.le_refl _) _
  have hbk := heap_alloc_new w1 (.cells #[.int .i64 (-7777), .int .i64 (-8888)] 3)
  have ho2 := Own.below HO1.out hal
  refine wp_append (.tmp 5) (.tmp 6) 22 3 (.int .i64 0) 1 8 w.heap.size rfl Try.underlying22 info_int rfl (by decide) v1 l.length 2 (l.map (Value.int .i64)) [.int .i64 (-7777), .int .i64 (-8888)] w1.heap.size 2 rfl rfl ho2 (Nat.le_trans HB1.out.size hal.size) rfl ?_ ?_ (by omega) (by omega) ?_
  · intro j u hu
    rw [blk_cell hbk]
    exact (List.getElem?_toArray).trans hu
  · intro u hu
    simp only [List.mem_cons, List.not_mem_nil, or_false] at hu
    rcases hu with rfl | rfl <;> rfl
  intro v2 w3 hown hgr hat
  refine hK _ _ ?_
  clear hK K
  have hown2 : Own w3 w.heap.size v2 (marks l) := by
    unfold Own
    rw [marks_len]
    unfold marks
    rw [List.map_append]
    exact hown
  have hb3 : Below w.heap.size w w3 := (HB1.out.trans (hal.mono HB1.out.size)).grown hgr (Nat.le_trans HB1.out.size hal.size) (fun b hb' => own_base ho2 b hb')
  obtain ⟨b, cap, rfl, _, _⟩ := hown.form (by omega)
  have hcap := (row_cap hown).1
  have HOWN := Lib.hid hown2
  have HB3 := Lib.hid hb3
  clear hown hown2 hb3 hgr hat ho2 hbk hal HO1 HB1
  simp only [Act.put, List.setIfInBounds_toArray, List.set_cons_succ, List.set_cons_zero]
  go_wp2_with fail
  go_ret
  exact ⟨b, cap, rfl, HOWN.out, HB3.out⟩
theorem ints_same (l : List Int) (A B : Option Addr) (c d : Nat) (w : World) (hA : RdI w A l) (hc : l.length ≤ c) (hB : RdI w B l) (hd : l.length ≤ d) (hl : l.length ≤ 17592186044415) :
    Calls Try.prog 39 #[.slice A l.length c, .slice B l.length d] w fun e w' => e = .returned (.bool true) ∧ Below w.heap.size w w' := ints_yes l A B c d w hA hc hB hd hl
set_option maxHeartbeats 4000000 in
set_option maxRecDepth 100000 in
theorem keptI_any (l : List Int) (base b cap : Nat) (B : Option Addr) (d : Nat) (w : World) (h : Lent w base b cap l) (hB : RdI w B l) (hd : l.length ≤ d) (hl : l.length ≤ 17592186043904) :
    Calls Try.prog 35 #[.slice (some ⟨b, 0, none⟩) l.length cap, .slice B l.length d] w fun e w' => e = .returned (.bool true) ∧ Below w.heap.size w w' := by
  have HL := Lib.hid h
  have HB := Lib.hid hB
  have HD := Lib.hid hd
  have hcp := h.rd.2
  clear h hB hd
  go_enter Try.func35, Try.ntmps35
  go_wp2_with fail
  refine (ints_same l (some ⟨b, 0, none⟩) B cap d w HL.out.rd.1 (by omega) HB.out HD.out (by omega)).mono ?_
  rintro e w1 ⟨rfl, hb⟩
  have hr1 : Own w1 base (.slice (some ⟨b, 0, none⟩) (l.length + 2) cap) (marks l) := Own.below HL.out hb
  obtain ⟨cur, hcur⟩ : ∃ cur, w1.heap[b]? = some (.cells cur 3 (0, 0)) := by
    have := hr1
    unfold Own at this
    rw [marks_len] at this
    exact row_blk this
  have hbl := blk_lt hcur
  obtain ⟨A', c', e', _, hrd⟩ := Own.reads hr1
  injection e' with e1 e2 e3
  subst e1
  have hg : ∀ j, j < l.length + 2 → w1.cell? ⟨b, j, none⟩ = some (.int .i64 ((marks l).getD j 0)) := fun j hj => by
    obtain ⟨ad, e, hc⟩ := RdI.at_ hrd (i := j) (by rw [marks_len]; exact hj)
    cases e
    rwa [add_plain] at hc
  have g0 := hg l.length (by omega)
  have g1 := hg (l.length + 1) (by omega)
  rw [show (marks l).getD l.length 0 = -7777 from by simp [marks, List.getD_eq_getElem?_getD]] at g0
  rw [show (marks l).getD (l.length + 1) 0 = -8888 from by simp [marks, List.getD_eq_getElem?_getD]] at g1
  have HX := Lib.hid hb
  clear hr1 hcur hb hg hrd e2 e3
  go_wp2_with fail
  go_ret
  exact ⟨rfl, HX.out⟩
theorem spoil_len : ∀ (l : List Int) (n k i : Nat), i + n = l.length → n < k → l.length ≤ 17592186044415 → ∃ r, bournelaw0_SpoilInts.l0 k l i = some r
  | l, 0, k, i, hi, hk, hl => by
    obtain ⟨k, rfl⟩ : ∃ m, k = m + 1 := ⟨k - 1, by omega⟩
    unfold bournelaw0_SpoilInts.l0
    rw [if_neg (by omega)]
    exact ⟨_, rfl⟩
  | l, n + 1, k, i, hi, hk, hl => by
    obtain ⟨k, rfl⟩ : ∃ m, k = m + 1 := ⟨k - 1, by omega⟩
    unfold bournelaw0_SpoilInts.l0
    rw [if_pos (by omega), if_pos (by omega), wrap_up (by omega)]
    exact spoil_len _ n k (i + 1) (by rw [List.length_set]; omega) (by omega) (by rw [List.length_set]; exact hl)
/-- What is one's own is written over: what was there before stays. -/
theorem spoilI_any (l : List Int) (v : Value) (w0 w : World) (hb : Below w0.heap.size w0 w) (ho : Own w w0.heap.size v l) (hl : l.length ≤ 17592186044415) :
    Calls Try.prog 21 #[v] w fun e w' => e = .returned (.tuple #[]) ∧ Below w0.heap.size w0 w' ∧ Kept w w' (fun k => some k = v.ownBlock) := by
  obtain ⟨r, hr⟩ := spoil_len l l.length (l.length + 1) 0 (by omega) (by omega) hl
  exact (bournelaw0_SpoilInts.calls (l.length + 1) (fun k => some k = v.ownBlock) v l r w0 w hb (Kd.R_of_own ho (fun k hk => hk.symm)) hr).mono fun e w' ⟨he, _, hb, hk⟩ => ⟨he, hb, hk⟩
end Go.Proofs.Ytggaefklcpbfnaa.My

/-! AccFormsP -/
namespace Go.Proofs.Ytggaefklcpbfnaa.My
open Go.RowKit Pa Go.Proofs.YtggaefklcpbfnaaW.PrintWords
set_option linter.unusedSimpArgs false

theorem and_bound (x : Int) (m : Nat) (hm : m < 9223372036854775808) : 0 ≤ bits .and .i64 x m ∧ bits .and .i64 x m ≤ m := by
  have e : bits .and .i64 x m = IntKind.i64.wrap ((BitVec.ofInt 64 x &&& BitVec.ofInt 64 m).toNat : Int) := rfl
  rw [e, BitVec.toNat_and]
  have h1 : (BitVec.ofInt 64 x).toNat &&& (BitVec.ofInt 64 (m : Int)).toNat ≤ (BitVec.ofInt 64 (m : Int)).toNat := Nat.and_le_right
  have h2 : (BitVec.ofInt 64 (m : Int)).toNat = m := by
    rw [BitVec.ofInt_natCast, BitVec.toNat_ofNat]
    exact Nat.mod_eq_of_lt (by omega)
  rw [h2] at h1 ⊢
  generalize (BitVec.ofInt 64 x).toNat &&& m = n at *
  rw [IntKind.wrap_i64]
  omega

theorem u64_nonneg (t : Int) : 0 ≤ IntKind.u64.wrap t := by
  rw [IntKind.wrap_u64]
  omega
theorem RdI.take2 {w : World} {A : Option Addr} {a b c : Int} (h : RdI w A [a, b, c]) : RdI w A [a, b] := by
  obtain ⟨_, _, h2⟩ := h
  refine ⟨rfl, by simp, fun _ => ?_⟩
  obtain ⟨ad, e, hc⟩ := h2 (by simp)
  refine ⟨ad, e, fun j p hp => hc j p ?_⟩
  match j, hp with
  | 0, hp => exact hp
  | 1, hp => exact hp
  | j + 2, hp => simp at hp
/-- A variable that holds an item. -/
def IVar (w : World) (b : Nat) (x : S26) : Prop := w.heap[b]? = some (itO x)
theorem IVar.below {w w1 : World} {b : Nat} {x : S26} (h : IVar w b x) (hb : Below w.heap.size w w1) : IVar w1 b x := blk_below h hb
/-- The walk stops ahead of this operation. -/
structure AtOp (ops : Array Oper) (Q : Exit → Act → World → Prop) (o : Oper) (rest : List Oper) (a : Act) (w : World) : Prop where
  mk :: (out : wpList Try.prog ops Q (o :: rest) a w)
theorem at_load {ops : Array Oper} {Q : Exit → Act → World → Prop} {o : Oper} {rest : List Oper} {a : Act} {w : World} (s : Tmp) (_ : o.op = Op.load 28 (.tmp s)) (h : AtOp ops Q o rest a w) : wpList Try.prog ops Q (o :: rest) a w := h.out
theorem at_store {ops : Array Oper} {Q : Exit → Act → World → Prop} {o : Oper} {rest : List Oper} {a : Act} {w : World} (s x : Tmp) (_ : o.op = Op.store 28 (.tmp s) (.tmp x)) (h : AtOp ops Q o rest a w) : wpList Try.prog ops Q (o :: rest) a w := h.out
theorem join_bad {a : S28} {bs : List Int} (h : amay a bs = false) : joinRes bs [a] = (z28, 100) := by
  have hall : ¬ allm bs (-1) [a] = true := by
    unfold allm
    rw [h]
    simp
  unfold joinRes
  rw [if_neg hall]
theorem one_bad {x : S26} {bs : List Int} (h : imay x = false) : oneRes x bs = (z28, 100) := by
  unfold oneRes
  rw [h]
  rfl
theorem imay_bad1 {d : Int} (h : 1 ≤ d) : imay ⟨-d, 0, 1, 0⟩ = false := by
  unfold imay
  rw [decide_eq_false_iff_not]
  simp only []
  omega
theorem imay_bad2 {d : Int} (h : 1 ≤ d) : imay ⟨0, 0, 1 - d, 0⟩ = false := by
  unfold imay
  rw [decide_eq_false_iff_not]
  simp only []
  omega
/-- The one that may be, with one part of it turned. -/
def frm (d : Int) : Nat → S28
  | 0 => ⟨2 + d, 12, 3, 9, ⟨1, 4, 2, 3⟩, ⟨1, 5, 3, 9⟩, [0, 1, 1]⟩
  | 1 => ⟨1, 12, 3, 9, ⟨1, 4, 2, 3⟩, ⟨1, 5, 3, 9⟩, [0, 1, 1]⟩
  | 2 => ⟨2, 18 + d, 3, 9, ⟨1, 4, 2, 3⟩, ⟨1, 5, 3, 9⟩, [0, 1, 1]⟩
  | 3 => ⟨2, 6 - d, 3, 9, ⟨1, 4, 2, 3⟩, ⟨1, 5, 3, 9⟩, [0, 1, 1]⟩
  | 4 => ⟨2, 12, 3 + d, 9, ⟨1, 4, 2, 3⟩, ⟨1, 5, 3, 9⟩, [0, 1, 1]⟩
  | 5 => ⟨2, 12, 3, 9 - d, ⟨1, 4, 2, 3⟩, ⟨1, 5, 3, 9⟩, [0, 1, 1]⟩
  | 6 => ⟨2, 12, 3, 1099511627776 + d, ⟨1, 4, 2, 3⟩, ⟨1, 5, 3, 9⟩, [0, 1, 1]⟩
  | 7 => ⟨2, 12, 3, 9, ⟨2, 4, 2, 3⟩, ⟨1, 5, 3, 9⟩, [0, 1, 1]⟩
  | 8 => ⟨2, 12, 3, 9, ⟨1, 5 + d, 2, 3⟩, ⟨1, 5, 3, 9⟩, [0, 1, 1]⟩
  | 9 => ⟨2, 12, 3, 9, ⟨1, 4, 2, 3⟩, ⟨1, 5, 0, 9⟩, [0, 1, 1]⟩
  | 10 => ⟨2, 12, 3, 9, ⟨1, 4, 2, 3⟩, ⟨1, 5, 3, 9 + d⟩, [0, 1, 1]⟩
  | 11 => ⟨2, 12, 3, 9, ⟨1, 4, 2, 3⟩, ⟨1, 5, 3, 9⟩, [d, 1, 1]⟩
  | 12 => ⟨2, 12, 3, 9, ⟨1, 4, 2, 3⟩, ⟨1, 5, 3, 9⟩, [-1, 1, 1]⟩
  | 13 => ⟨2, 12, 3, 9, ⟨1, 4, 2, 3⟩, ⟨1, 5, 3, 9⟩, [0, 1]⟩
  | 14 => ⟨0, d, 0, 0, ⟨0, 0, 0, 0⟩, ⟨0, 0, 0, 0⟩, [0, 0, 0]⟩
  | 15 => ⟨0, 0, 0, 0, ⟨1, 4, 2, 3⟩, ⟨0, 0, 0, 0⟩, [0, 0, 0]⟩
  | 16 => ⟨2, 12, 3, 9, ⟨1, -1099511627776 - d, 2, 3⟩, ⟨1, 5, 3, 9⟩, [0, 1, 1]⟩
  | _ => ⟨-d, 12, 3, 9, ⟨1, 4, 2, 3⟩, ⟨1, 5, 3, 9⟩, [0, 1, 1]⟩
theorem frm_bad {d : Int} (h : 1 ≤ d) (n : Nat) : amay (frm d n) [0, 5] = false := by
  have hb : bmay [0, 5] = true := by kernel_rfl
  unfold frm
  split <;> (unfold amay; rw [hb])
  all_goals
    simp [hmay, nok, emay, iok, imay, wm, ord, bareB, isz]
  all_goals
    try omega
end Go.Proofs.Ytggaefklcpbfnaa.My

/-! AccsW -/
namespace Go.Proofs.Ytggaefklcpbfnaa.My
open Go.RowKit Pa Go.Proofs.YtggaefklcpbfnaaW.PrintWords
set_option linter.unusedSimpArgs false

theorem oneRes_len (x : S26) (bs : List Int) : (oneRes x bs).1.f6.length ≤ 9 := by
  unfold oneRes
  split
  · rename_i h
    have := bmay_len (by simpa using (Bool.and_eq_true_iff.1 h).2)
    show (one x bs).f6.length ≤ 9
    simp [one]
    omega
  · simp [z28]
theorem joinRes_len9 (bs : List Int) (xs : List S28) : (joinRes bs xs).1.f6.length ≤ 9 := by
  by_cases h : allm bs (-1) xs = true
  · by_cases h8 : 8192 < cnt xs
    · unfold joinRes
      rw [if_pos h, if_pos h8]
      simp [z28]
    · have e : joinRes bs xs = (joinA bs xs, 0) := by unfold joinRes; rw [if_pos h, if_neg h8]
      rw [e]
      exact joinRes_len e (allm_bm h)
  · unfold joinRes
    rw [if_neg h]
    simp [z28]
theorem AVar.kept {w w1 : World} {b : Nat} {a : S28} {A : Option Addr} {c : Nat} {S : Nat → Prop} (h : AVar w b a A c) (hk : Kept w w1 S) (hb : ¬ S b) (hr : RdI w1 A a.f6) : AVar w1 b a A c := ⟨(hk.2 b (blk_lt h.1) hb).trans h.1, h.2.1, hr⟩
theorem own_kept {w w1 : World} {base : Nat} {v : Value} {l : List Int} {S : Nat → Prop} (h : Own w base v l) (hk : Kept w w1 S) (hb : ∀ k, v.ownBlock = some k → ¬ S k) : Own w1 base v l :=
  own_move h (fun k hkk => hk.2 k (own_lt h k hkk) (hb k hkk))

set_option maxHeartbeats 16000000 in
set_option maxRecDepth 100000 in
theorem accs_any (x : S26) (A : Option Addr) (xs : List S28) (c : Nat) (B : Option Addr) (bs : List Int) (d : Nat) (w : World) (hA : RdA w A xs) (hc : xs.length ≤ c) (hl : xs.length ≤ 1172812402960) (hh : ∀ y ∈ xs, y.f6.length ≤ 17592186044415) (hB : RdI w B bs) (hd : bs.length ≤ d) (hbl : bs.length ≤ 17592186043904) :
    Calls Try.prog 9 #[.agg #[.int .i64 x.f0, .int .i64 x.f1, .int .i64 x.f2, .int .i64 x.f3], .slice A xs.length c, .slice B bs.length d] w fun e w' => e = .returned (.bool true) ∧ Below w.heap.size w w' := by
  have hal := (Below.refl w.heap.size w).alloc (Nat.le_refl _) (itO x)
  have hx := heap_alloc_new w (itO x)
  have HA := Lib.hid (hA.below hal)
  have HC := Lib.hid hc
  have HL := Lib.hid hl
  have HH := Lib.hid hh
  have HBS := Lib.hid (RdI.below hB hal)
  have HD := Lib.hid hd
  have HBL := Lib.hid hbl
  have HX := Lib.hid hx
  have HW := Lib.hid hal
  clear hA hc hh hB hd hl hbl hal hx
  go_enter Try.func9, Try.ntmps9
  go_wp2_with fail
  show Calls _ _ _ (w.alloc (itO x)) _
  generalize w.alloc (itO x) = w0 at *
  refine (lendI_any bs B d w0 HBS.out HD.out HBL.out).mono ?_
  rintro e w1 ⟨lb, lcap, rfl, hlent, hb⟩
  replace HA := Lib.hid (HA.out.below hb)
  replace HX := Lib.hid (blk_below HX.out hb)
  replace HBS := Lib.hid (RdI.below HBS.out hb)
  replace HW := Lib.hid (HW.out.trans (hb.mono HW.out.size))
  have HLT := Lib.hid hlent
  clear hb hlent
  go_wp2_with fail
  refine (copies_any xs A c w1 HA.out HC.out HL.out HH.out).mono ?_
  rintro e w2 ⟨B2, d2, rfl, hd2, hr2, hb⟩
  replace HA := Lib.hid (HA.out.below hb)
  replace HX := Lib.hid (blk_below HX.out hb)
  replace HBS := Lib.hid (RdI.below HBS.out hb)
  replace HW := Lib.hid (HW.out.trans (hb.mono HW.out.size))
  replace HLT := Lib.hid (show Lent w2 _ _ _ _ from Own.below HLT.out hb)
  have HR2 := Lib.hid hr2
  have HD2 := Lib.hid hd2
  have HZ := Lib.hid (Below.refl w2.heap.size w2)
  clear hb hr2 hd2
  obtain ⟨x0, x1, x2, x3, xl⟩ := itO_facts HX.out
  go_wp2_with fail
  clear x0 x1 x2 x3 xl
  have hp := one_any x bs (some ⟨lb, 0, none⟩) lcap w2 (RdI.below HLT.out.rd.1 HZ.out) (by have := HLT.out.rd.2; omega)
  have hl9 : (oneRes x bs).1.f6.length ≤ 9 := oneRes_len _ _
  generalize hq : oneRes x bs = q3 at *
  obtain ⟨o3, e3⟩ := q3
  have HQ3 := Lib.hid hq
  have L3 := Lib.hid (show o3.f6.length ≤ 9 from hl9)
  clear hq hl9
  refine hp.mono ?_
  clear hp
  rintro e w3 ⟨v3, rfl, how, hb⟩
  obtain ⟨A3, c3, rfl, hlj, hrj⟩ := how.reads
  have hal : Below w3.heap.size w3 (w3.alloc (acO o3 (.slice A3 o3.f6.length c3))) := (Below.refl _ _).alloc (Nat.le_refl _) _
  have hbb := hb.trans (hal.mono hb.size)
  replace HZ := Lib.hid (HZ.out.trans (hbb.mono HZ.out.size))
  replace HX := Lib.hid (blk_below HX.out hbb)
  have V3 := Lib.hid (AVar.new (w := w3) (a := o3) hlj hrj)
  have G3 := Lib.hid (show w2.heap.size ≤ w3.heap.size from hb.size)
  have O3 := Lib.hid (Own.below how hal)
  clear how hb hal hlj hrj hbb
  simp only [acV]
  obtain ⟨x0, x1, x2, x3, xl⟩ := itO_facts HX.out
  unfold acO at x0 x1 x2 x3 xl
  go_wp2_with fail
  clear x0 x1 x2 x3 xl
  show Calls _ _ _ (w3.alloc (acO o3 (.slice A3 o3.f6.length c3))) _
  change Hid (AVar (w3.alloc (acO o3 (.slice A3 o3.f6.length c3))) _ _ _ _) at V3
  generalize (w3.alloc (acO o3 (.slice A3 o3.f6.length c3))) = y3 at *
  generalize w3.heap.size = b3 at *
  clear w3
  have hp := rone_any x bs B d y3 (RdI.below HBS.out HZ.out) HD.out
  rw [HQ3.out] at hp
  refine hp.mono ?_
  clear hp
  rintro e w4 ⟨v4, rfl, how, hb⟩
  obtain ⟨A4, c4, rfl, hlj, hrj⟩ := how.reads
  have hal : Below w4.heap.size w4 (w4.alloc (acO o3 (.slice A4 o3.f6.length c4))) := (Below.refl _ _).alloc (Nat.le_refl _) _
  have hbb := hb.trans (hal.mono hb.size)
  replace HZ := Lib.hid (HZ.out.trans (hbb.mono HZ.out.size))
  replace HX := Lib.hid (blk_below HX.out hbb)
  replace V3 := Lib.hid (V3.out.below hbb)
  replace O3 := Lib.hid (Own.below O3.out hbb)
  have V4 := Lib.hid (AVar.new (w := w4) (a := o3) hlj hrj)
  have G4 := Lib.hid (show y3.heap.size ≤ w4.heap.size from hb.size)
  clear how hb hal hlj hrj hbb
  simp only [acV]
  go_wp2_with fail
  show Calls _ _ _ (w4.alloc (acO o3 (.slice A4 o3.f6.length c4))) _
  change Hid (AVar (w4.alloc (acO o3 (.slice A4 o3.f6.length c4))) _ _ _ _) at V4
  generalize (w4.alloc (acO o3 (.slice A4 o3.f6.length c4))) = y4 at *
  generalize w4.heap.size = b4 at *
  clear w4
  have HLT3 := Lib.hid (fun k hk => own_lt O3.out k hk)
  have H24 := Lib.hid HZ.out.size
  have hp := join_any bs xs (some ⟨lb, 0, none⟩) lcap B2 d2 y4 (RdI.below HLT.out.rd.1 HZ.out) (by have := HLT.out.rd.2; omega) (HR2.out.below HZ.out) (by have := HL.out; omega)
  have hl9 : (joinRes bs xs).1.f6.length ≤ 9 := joinRes_len9 _ _
  generalize hq : joinRes bs xs = q5 at *
  obtain ⟨o5, e5⟩ := q5
  have HQ5 := Lib.hid hq
  have L5 := Lib.hid (show o5.f6.length ≤ 9 from hl9)
  clear hq hl9
  refine hp.mono ?_
  clear hp
  rintro e w5 ⟨v5, rfl, how, hb⟩
  obtain ⟨A5, c5, rfl, hlj, hrj⟩ := how.reads
  have hal : Below w5.heap.size w5 (w5.alloc (acO o5 (.slice A5 o5.f6.length c5))) := (Below.refl _ _).alloc (Nat.le_refl _) _
  have hbb := hb.trans (hal.mono hb.size)
  replace HZ := Lib.hid (HZ.out.trans (hbb.mono HZ.out.size))
  replace HX := Lib.hid (blk_below HX.out hbb)
  replace V3 := Lib.hid (V3.out.below hbb)
  replace O3 := Lib.hid (Own.below O3.out hbb)
  replace V4 := Lib.hid (V4.out.below hbb)
  have V5 := Lib.hid (AVar.new (w := w5) (a := o5) hlj hrj)
  have G5 := Lib.hid (show y4.heap.size ≤ w5.heap.size from hb.size)
  have O5 := Lib.hid (Own.below how hal)
  clear how hb hal hlj hrj hbb
  simp only [acV]
  go_wp2_with fail
  show Calls _ _ _ (w5.alloc (acO o5 (.slice A5 o5.f6.length c5))) _
  change Hid (AVar (w5.alloc (acO o5 (.slice A5 o5.f6.length c5))) _ _ _ _) at V5
  generalize (w5.alloc (acO o5 (.slice A5 o5.f6.length c5))) = y5 at *
  generalize w5.heap.size = b5 at *
  clear w5
  have hp := rjoin_any bs xs B d A c y5 (RdI.below HBS.out HZ.out) HD.out (HA.out.below HZ.out) (by have := HL.out; omega)
  rw [HQ5.out] at hp
  refine hp.mono ?_
  clear hp
  rintro e w6 ⟨v6, rfl, how, hb⟩
  obtain ⟨A6, c6, rfl, hlj, hrj⟩ := how.reads
  have hal : Below w6.heap.size w6 (w6.alloc (acO o5 (.slice A6 o5.f6.length c6))) := (Below.refl _ _).alloc (Nat.le_refl _) _
  have hbb := hb.trans (hal.mono hb.size)
  replace HZ := Lib.hid (HZ.out.trans (hbb.mono HZ.out.size))
  replace HX := Lib.hid (blk_below HX.out hbb)
  replace V3 := Lib.hid (V3.out.below hbb)
  replace O3 := Lib.hid (Own.below O3.out hbb)
  replace V4 := Lib.hid (V4.out.below hbb)
  replace V5 := Lib.hid (V5.out.below hbb)
  replace O5 := Lib.hid (Own.below O5.out hbb)
  have V6 := Lib.hid (AVar.new (w := w6) (a := o5) hlj hrj)
  have G6 := Lib.hid (show y5.heap.size ≤ w6.heap.size from hb.size)
  clear how hb hal hlj hrj hbb
  simp only [acV]
  go_wp2_with (refine at_load _ rfl ?_)
  show AtOp _ _ _ _ _ (w6.alloc (acO o5 (.slice A6 o5.f6.length c6)))
  change Hid (AVar (w6.alloc (acO o5 (.slice A6 o5.f6.length c6))) _ _ _ _) at V6
  generalize (w6.alloc (acO o5 (.slice A6 o5.f6.length c6))) = y6 at *
  generalize w6.heap.size = b6 at *
  clear w6
  obtain ⟨m0, m1, m2, m3, m4, m5, m6, m7, m8, m9, m10, m11, m12, ml⟩ := acO_facts V3.out.1
  obtain ⟨n0, n1, n2, n3, n4, n5, n6, n7, n8, n9, n10, n11, n12, nl⟩ := acO_facts V4.out.1
  refine ⟨?_⟩
  go_wp2_with fail
  clear m0 m1 m2 m3 m4 m5 m6 m7 m8 m9 m10 m11 m12 ml
  clear n0 n1 n2 n3 n4 n5 n6 n7 n8 n9 n10 n11 n12 nl
  refine (same_yes o3 A3 A4 c3 c4 _ V3.out.2.2 V3.out.2.1 V4.out.2.2 V4.out.2.1 (by have := L3.out; omega)).mono ?_
  rintro e w' ⟨rfl, hb⟩
  replace HZ := Lib.hid (HZ.out.trans (hb.mono HZ.out.size))
  replace V3 := Lib.hid (V3.out.below hb)
  replace O3 := Lib.hid (Own.below O3.out hb)
  replace V5 := Lib.hid (V5.out.below hb)
  replace O5 := Lib.hid (Own.below O5.out hb)
  replace V6 := Lib.hid (V6.out.below hb)
  clear hb
  have hne : (e3 != e3) = false := bne_self_eq_false e3
  go_wp2_with fail
  refine (num_any _ _).mono ?_
  rintro e w' ⟨rfl, rfl⟩
  obtain ⟨m0, m1, m2, m3, m4, m5, m6, m7, m8, m9, m10, m11, m12, ml⟩ := acO_facts V5.out.1
  obtain ⟨n0, n1, n2, n3, n4, n5, n6, n7, n8, n9, n10, n11, n12, nl⟩ := acO_facts V6.out.1
  go_wp2_with fail
  clear m0 m1 m2 m3 m4 m5 m6 m7 m8 m9 m10 m11 m12 ml
  clear n0 n1 n2 n3 n4 n5 n6 n7 n8 n9 n10 n11 n12 nl
  refine (same_yes o5 A5 A6 c5 c6 _ V5.out.2.2 V5.out.2.1 V6.out.2.2 V6.out.2.1 (by have := L5.out; omega)).mono ?_
  rintro e yE ⟨rfl, hb⟩
  replace HZ := Lib.hid (HZ.out.trans (hb.mono HZ.out.size))
  replace V3 := Lib.hid (V3.out.below hb)
  replace O3 := Lib.hid (Own.below O3.out hb)
  replace V5 := Lib.hid (V5.out.below hb)
  replace O5 := Lib.hid (Own.below O5.out hb)
  clear hb
  have hne5 : (e5 != e5) = false := bne_self_eq_false e5
  go_wp2_with fail
  refine (num_any _ _).mono ?_
  rintro e w' ⟨rfl, rfl⟩
  have hxl := HL.out
  go_wp2_with fail
  clear HX HQ3 HQ5 G3 G4 V4 V6 G6 hne hne5
  go_loopw [17] (fun i wr => ∃ k : Nat, i = .int .i64 k ∧ k ≤ xs.length ∧ Below yE.heap.size yE wr) (fun i _ => xs.length - (intOf i).toNat)
  case atStart => exact ⟨0, rfl, by omega, Below.refl _ _⟩
  case round =>
    obtain ⟨k, rfl, hk, hb⟩ := hrel
    have HE := Lib.hid hb
    clear hb
    by_cases hlt : k < xs.length
    · obtain ⟨b, o, rfl, hbs, hcells⟩ := ((HA.out.below HZ.out).below HE.out) (by omega)
      obtain ⟨b2, o2, rfl, hbs2, hcells2⟩ := ((HR2.out.below HZ.out).below HE.out) (by omega)
      obtain ⟨Ah, ch, g0, g1, g2, g3, g4, g5, g6, g7, g8, g9, g10, g11, g12, glh, grh⟩ := hcells k hlt
      obtain ⟨Ai, ci, i0, i1, i2, i3, i4, i5, i6, i7, i8, i9, i10, i11, i12, ilh, irh⟩ := hcells2 k hlt
      generalize xs.getD k z28 = y at *
      have HG := Lib.hid (And.intro glh (And.intro grh irh))
      have heq : (!(amay y bs == amay y bs)) = false := by simp
      clear hcells hcells2 glh grh ilh irh
      go_wp2_with fail
      refine Txt.wp_region_mix (by kernel_rfl) (by kernel_rfl) (fun HB => ?_)
      repeat (first
        | (refine Txt.mix_p (by rfl) rfl rfl (fun K hK => ?_); go_big_quiet_op; refine hK _ ?_; clear hK K)
        | (refine Txt.mix_re (by rfl) (by decide +kernel) (by rfl) (by rfl) (by go_simp) HB (fun K hK => ?_); go_big_quiet_op; refine hK _ ?_; clear hK K)
        | (refine Txt.mix_rl (by rfl) (by decide +kernel) (by rfl) (by rfl) (by go_simp) HB (fun K hK => ?_); go_big_quiet_op; refine hK _ ?_; clear hK K)
        | (refine Txt.mix_pass (by rfl) (by rfl) ?_; simp only [List.set_cons_succ, List.set_cons_zero]))
      refine Txt.mix_c (by rfl) (by decide +kernel) HB ?_
      intro w5' hw5 K hK
      replace HB := HB.trans hw5
      clear hw5
      go_wp2_with fail
      refine (may_any y bs Ai ci (some ⟨lb, 0, none⟩) lcap _ (RdI.below HG.out.2.2 HB.undrew) (RdI.below (RdI.below (RdI.below HLT.out.rd.1 HZ.out) HE.out) HB.undrew) (by have := HLT.out.rd.2; omega)).mono ?_
      rintro e w6 ⟨rfl, hb⟩
      refine hK _ _ ⟨hb, ?_⟩
      replace HB := HB.trans hb
      clear hK K hb
      repeat (first
        | (refine Txt.mix_p (by rfl) rfl rfl (fun K hK => ?_); go_big_quiet_op; refine hK _ ?_; clear hK K)
        | (refine Txt.mix_re (by rfl) (by decide +kernel) (by rfl) (by rfl) (by go_simp) HB (fun K hK => ?_); go_big_quiet_op; refine hK _ ?_; clear hK K)
        | (refine Txt.mix_rl (by rfl) (by decide +kernel) (by rfl) (by rfl) (by go_simp) HB (fun K hK => ?_); go_big_quiet_op; refine hK _ ?_; clear hK K)
        | (refine Txt.mix_pass (by rfl) (by rfl) ?_; simp only [List.set_cons_succ, List.set_cons_zero]))
      refine Txt.mix_c (by rfl) (by decide +kernel) HB ?_
      intro w7' hw7 K hK
      replace HB := HB.trans hw7
      clear hw7
      go_wp2_with fail
      refine (rmay_any y bs Ah ch B d _ (RdI.below HG.out.2.1 HB.undrew) HG.out.1 (RdI.below (RdI.below (RdI.below HBS.out HZ.out) HE.out) HB.undrew) HD.out).mono ?_
      rintro e w8 ⟨rfl, hb⟩
      refine hK _ _ ⟨hb, ?_⟩
      replace HB := HB.trans hb
      clear hK K hb
      repeat (first
        | (refine Txt.mix_p (by rfl) rfl rfl (fun K hK => ?_); go_big_quiet_op; refine hK _ ?_; clear hK K)
        | (refine Txt.mix_re (by rfl) (by decide +kernel) (by rfl) (by rfl) (by go_simp) HB (fun K hK => ?_); go_big_quiet_op; refine hK _ ?_; clear hK K)
        | (refine Txt.mix_rl (by rfl) (by decide +kernel) (by rfl) (by rfl) (by go_simp) HB (fun K hK => ?_); go_big_quiet_op; refine hK _ ?_; clear hK K)
        | (refine Txt.mix_pass (by rfl) (by rfl) ?_; simp only [List.set_cons_succ, List.set_cons_zero]))
      refine Txt.mix_nil ?_
      have HB9 := Lib.hid (HE.out.trans (HB.undrew.mono HE.out.size))
      clear HB HE g0 g1 g2 g3 g4 g5 g6 g7 g8 g9 g10 g11 g12 i0 i1 i2 i3 i4 i5 i6 i7 i8 i9 i10 i11 i12
      go_wp2_with fail
      exact ⟨⟨k + 1, by go_num, by omega, HB9.out⟩, by simp [intOf]; omega⟩
    · obtain rfl : k = xs.length := by omega
      replace V3 := Lib.hid (V3.out.below HE.out)
      replace V5 := Lib.hid (V5.out.below HE.out)
      replace O3 := Lib.hid (Own.below O3.out HE.out)
      replace O5 := Lib.hid (Own.below O5.out HE.out)
      have HZ2 := Lib.hid (HZ.out.trans (HE.out.mono HZ.out.size))
      have HY4 := Lib.hid (show w2.heap.size ≤ y4.heap.size from H24.out)
      clear HE HZ
      obtain ⟨m0, m1, m2, m3, m4, m5, m6, m7, m8, m9, m10, m11, m12, ml⟩ := acO_facts V3.out.1
      go_wp2_with fail
      clear m0 m1 m2 m3 m4 m5 m6 m7 m8 m9 m10 m11 m12 ml
      refine (spoilI_any o3.f6 (.slice A3 o3.f6.length c3) w2 wr HZ2.out O3.out (by have := L3.out; omega)).mono ?_
      rintro e z1 ⟨rfl, hb, hk⟩
      have ho5 := own_kept O5.out hk (fun k hk e => by
        have h1 := own_base O5.out k hk
        have h2 := HLT3.out k e.symm
        omega)
      have hr5 := Own.reads ho5
      obtain ⟨A5', c5', he5, hl5, hrd5⟩ := hr5
      injection he5 with he1 he2 he3
      subst he1 he3
      replace V5 := Lib.hid (V5.out.kept hk (fun e => by
        have h2 := HLT3.out _ e.symm
        have := G5.out
        omega) hrd5)
      replace O5 := Lib.hid ho5
      replace HZ2 := Lib.hid hb
      clear hb hk ho5 hl5 hrd5 he2 V3 O3
      obtain ⟨m0, m1, m2, m3, m4, m5, m6, m7, m8, m9, m10, m11, m12, ml⟩ := acO_facts V5.out.1
      go_wp2_with fail
      clear m0 m1 m2 m3 m4 m5 m6 m7 m8 m9 m10 m11 m12 ml
      refine (spoilI_any o5.f6 (.slice A5 o5.f6.length c5) w2 z1 HZ2.out (own_weaken O5.out HY4.out) (by have := L5.out; omega)).mono ?_
      rintro e z2 ⟨rfl, hb, hk⟩
      replace HZ2 := Lib.hid hb
      clear hb hk V5 O5
      go_wp2_with fail
      refine (sames_any xs B2 A d2 c z2 (HR2.out.below HZ2.out) HD2.out (HA.out.below HZ2.out) HC.out HL.out HH.out).mono ?_
      rintro e z3 ⟨rfl, hb⟩
      replace HZ2 := Lib.hid (HZ2.out.trans (hb.mono HZ2.out.size))
      clear hb
      go_wp2_with fail
      refine (keptI_any bs _ lb lcap B d z3 (Own.below HLT.out HZ2.out) (RdI.below HBS.out HZ2.out) HD.out HBL.out).mono ?_
      rintro e z4 ⟨rfl, hb⟩
      replace HZ2 := Lib.hid (HZ2.out.trans (hb.mono HZ2.out.size))
      clear hb
      go_wp2_with fail
      refine (awake_any _).mono ?_
      rintro e z5 ⟨rfl, hb⟩
      replace HZ2 := Lib.hid (HZ2.out.trans (hb.mono HZ2.out.size))
      clear hb
      go_wp2_with fail
      go_ret
      exact ⟨rfl, HW.out.trans (HZ2.out.mono HW.out.size)⟩
theorem accs_walk (x : S26) (A : Option Addr) (xs : List S28) (c : Nat) (B : Option Addr) (bs : List Int) (d : Nat) (w : World) (hA : RdA w A xs) (hc : xs.length ≤ c) (hl : xs.length * 120 ≤ 140737488351232) (hh : ∀ y ∈ xs, y.f6.length ≤ 17592186044415) (hB : RdI w B bs) (hd : bs.length ≤ d) (hbl : bs.length * 8 ≤ 140737488351232) :
    Calls Try.prog 9 #[.agg #[.int .i64 x.f0, .int .i64 x.f1, .int .i64 x.f2, .int .i64 x.f3], .slice A xs.length c, .slice B bs.length d] w fun e w' => e = .returned (.bool true) ∧ Below w.heap.size w w' := accs_any x A xs c B bs d w hA hc (by omega) hh hB hd (by omega)
end Go.Proofs.Ytggaefklcpbfnaa.My

/-! RowI -/
namespace Go.Proofs.Ytggaefklcpbfnaa.My
open Go.RowKit Pa Go.Proofs.YtggaefklcpbfnaaW.PrintWords

theorem rd_of_row {w : World} {x : Addr} {len cap : Nat} {zs : List Int} (hl : len ≤ cap) (hm : cap ≤ maxLen) (hz : zs.length = cap)
    (hc : ∀ i, i < zs.length → w.cell? (x.add i) = some (.int .i64 (zs.getD i 0))) (hw : ∀ n ∈ zs, (Lit.int .i64 n).wf = true) :
    ∃ l : List Int, len = l.length ∧ RdI w (some x) l ∧ ∀ n ∈ l, (Lit.int .i64 n).wf = true := by
  refine ⟨zs.take len, by rw [List.length_take]; omega, ⟨rfl, ?_, fun _ => ⟨x, rfl, fun j p hp => ⟨[.int .i64 p], rfl, rfl, fun i u hu => ?_⟩⟩⟩, fun n hn => hw n (List.mem_of_mem_take hn)⟩
  · rw [List.length_take]
    have h : maxLen = 9223372036854775807 := by simp [maxLen]
    omega
  · rw [show j * (Kd.int .i64).sz + i = j + i by rw [show (Kd.int .i64).sz = 1 from rfl, Nat.mul_one]]
    cases i with
    | zero =>
      simp at hu
      subst hu
      have hj := (List.getElem?_eq_some_iff.1 hp).1
      rw [List.length_take] at hj
      have h1 := hc j (by omega)
      rw [List.getElem?_take] at hp
      split at hp
      · rw [List.getD_eq_getElem?_getD, hp] at h1
        exact h1
      · cases hp
    | succ i => simp at hu
end Go.Proofs.Ytggaefklcpbfnaa.My

/-! Open -/
namespace Go.Proofs.Ytggaefklcpbfnaa.My
open Go.RowKit Go.ChangeShapes Go.WideShapes Go.Deep Go.Joins Pa Go.Proofs.YtggaefklcpbfnaaW.PrintWords

section
variable {H : Type} {enc : TypeId × Value → H} {W : World} {fuel base : Nat} {spare : Nat → Bool} {held : Bool} {x : DataW H × List MemPlace}

theorem open_int {cs : List Value} (h : DataW.trod enc Try.prog W base spare held fuel 3 cs = some x) : ∃ n, cs = [.int .i64 n] ∧ (Lit.int .i64 n).wf = true := by
  obtain ⟨n, e, _, hw⟩ := DataW.trod_int Try.underlying3 h
  exact ⟨n, e, hw⟩
/-- All its numbers are in range. -/
def Wf26 (a : S26) : Prop := (Lit.int .i64 a.f0).wf = true ∧ (Lit.int .i64 a.f1).wf = true ∧ (Lit.int .i64 a.f2).wf = true ∧ (Lit.int .i64 a.f3).wf = true
theorem one_cell {cs : List Value} {k : Nat} {v : Value} (h : (cs.drop k).take 1 = [v]) : cs[k]? = some v := by
  have e : ((cs.drop k).take 1)[0]? = some v := by rw [h]; rfl
  rw [List.getElem?_take, if_pos (by decide), List.getElem?_drop] at e
  simpa using e
theorem list4 {cs : List Value} {a b c d : Value} (hl : cs.length = 4) (h0 : cs[0]? = some a) (h1 : cs[1]? = some b) (h2 : cs[2]? = some c) (h3 : cs[3]? = some d) : cs = [a, b, c, d] := by
  match cs, hl with
  | [_, _, _, _], _ => simp_all
theorem open_item {cs : List Value} (h : DataW.trod enc Try.prog W base spare held fuel 26 cs = some x) : ∃ a : S26, cs = [.int .i64 a.f0, .int .i64 a.f1, .int .i64 a.f2, .int .i64 a.f3] ∧ Wf26 a := by
  obtain ⟨y0, y1, y2, y3, n', _, hcl, t0, t1, t2, t3⟩ := trod_struct4 Try.underlying26 h
  obtain ⟨z0, e0, w0⟩ := open_int t0
  obtain ⟨z1, e1, w1⟩ := open_int t1
  obtain ⟨z2, e2, w2⟩ := open_int t2
  obtain ⟨z3, e3, w3⟩ := open_int t3
  have hc4 : Try.prog.cellsOf 26 = 4 := by kernel_rfl
  have hci : Try.prog.cellsOf 3 = 1 := by kernel_rfl
  rw [hc4] at hcl
  simp only [hci] at e0 e1 e2 e3
  exact ⟨⟨z0, z1, z2, z3⟩, list4 hcl (one_cell e0) (one_cell e1) (one_cell e2) (one_cell e3), w0, w1, w2, w3⟩
theorem open_row {A : Option Addr} {len cap : Nat} (h : DataW.trod enc Try.prog W base spare held fuel 22 [.slice A len cap] = some x) : ∃ l : List Int, len = l.length ∧ RdI W A l ∧ len ≤ cap ∧ ∀ n ∈ l, (Lit.int .i64 n).wf = true := by
  rcases open_ints Try.underlying22 Try.underlying3 (by kernel_rfl) h with ⟨hcs, _⟩ | ⟨x, l, c, zs, hcs, _, hl, hm, hz, _, hcell, hwz⟩
  · simp at hcs
    obtain ⟨rfl, rfl, rfl⟩ := hcs
    exact ⟨[], rfl, rdI_nil _, Nat.le_refl _, by simp⟩
  · simp at hcs
    obtain ⟨rfl, rfl, rfl⟩ := hcs
    have hzl : len ≤ zs.length := by rw [hz]; split <;> omega
    have hzc : zs.length ≤ cap := by rw [hz]; split <;> omega
    obtain ⟨l, e, hr, hw⟩ := rd_of_row hzl (Nat.le_trans hzc hm) rfl hcell hwz
    exact ⟨l, e, hr, hl, hw⟩
end
end Go.Proofs.Ytggaefklcpbfnaa.My

/-! OpenA -/
namespace Go.Proofs.Ytggaefklcpbfnaa.My
open Go.RowKit Go.ChangeShapes Go.WideShapes Go.Deep Go.Joins Pa Go.Proofs.YtggaefklcpbfnaaW.PrintWords

theorem add_none (b o k : Nat) : (⟨b, o, none⟩ : Addr).add k = ⟨b, o + k, none⟩ := by unfold Addr.add; split <;> simp_all
theorem weightsAll_mem {H : Type} {P : Program} {e : TypeId} : ∀ {ds : List (DataW H)} {d : DataW H}, d ∈ ds → ∀ n ∈ d.weights P e, n ∈ DataW.weightsAll P e ds
  | a :: r, d, hd, n, hn => by
    simp only [DataW.weightsAll, List.mem_append]
    rcases List.mem_cons.1 hd with rfl | h
    · exact .inl hn
    · exact .inr (weightsAll_mem h n hn)
theorem trod_struct7 {H : Type} {enc : TypeId × Value → H} {P : Program} {w : World} {base : Nat} {spare : Nat → Bool} {held : Bool} {t : TypeId} {f0 f1 f2 f3 f4 f5 f6 : Field} {fuel : Nat} {cs : List Value} {x : DataW H × List MemPlace} (ht : P.underlying t = some (.struct #[f0, f1, f2, f3, f4, f5, f6])) (h : DataW.trod enc P w base spare held fuel t cs = some x) :
    ∃ y0 y1 y2 y3 y4 y5 y6 n, x.1 = .agg [y0.1, y1.1, y2.1, y3.1, y4.1, y5.1, y6.1] ∧ cs.length = P.cellsOf t ∧ DataW.trod enc P w base spare held n f0.type ((cs.drop f0.offset).take (P.cellsOf f0.type)) = some y0 ∧
      DataW.trod enc P w base spare held n f1.type ((cs.drop f1.offset).take (P.cellsOf f1.type)) = some y1 ∧ DataW.trod enc P w base spare held n f2.type ((cs.drop f2.offset).take (P.cellsOf f2.type)) = some y2 ∧
      DataW.trod enc P w base spare held n f3.type ((cs.drop f3.offset).take (P.cellsOf f3.type)) = some y3 ∧ DataW.trod enc P w base spare held n f4.type ((cs.drop f4.offset).take (P.cellsOf f4.type)) = some y4 ∧
      DataW.trod enc P w base spare held n f5.type ((cs.drop f5.offset).take (P.cellsOf f5.type)) = some y5 ∧ DataW.trod enc P w base spare held n f6.type ((cs.drop f6.offset).take (P.cellsOf f6.type)) = some y6 := by
  obtain ⟨xs, n, _, rfl, hl, hlen, hf⟩ := DataW.trod_struct ht h
  match xs, hlen with
  | [y0, y1, y2, y3, y4, y5, y6], _ => exact ⟨y0, y1, y2, y3, y4, y5, y6, n, by simp, hl, by simpa using hf 0 f0 rfl, by simpa using hf 1 f1 rfl, by simpa using hf 2 f2 rfl, by simpa using hf 3 f3 rfl, by simpa using hf 4 f4 rfl, by simpa using hf 5 f5 rfl, by simpa using hf 6 f6 rfl⟩
theorem four_cells {cs : List Value} {k : Nat} {a b c d : Value} (h : (cs.drop k).take 4 = [a, b, c, d]) : cs[k]? = some a ∧ cs[k + 1]? = some b ∧ cs[k + 2]? = some c ∧ cs[k + 3]? = some d := by
  have e : ∀ j, j < 4 → cs[k + j]? = [a, b, c, d][j]? := fun j hj => by rw [← h, List.getElem?_take, if_pos hj, List.getElem?_drop]
  exact ⟨e 0 (by decide), e 1 (by decide), e 2 (by decide), e 3 (by decide)⟩
section
variable {H : Type} {enc : TypeId × Value → H} {W : World} {fuel base : Nat} {spare : Nat → Bool} {held : Bool} {x : DataW H × List MemPlace}

/-- An aggregate as a row lays it out. -/
theorem open_acc {cs : List Value} (h : DataW.trod enc Try.prog W base spare held fuel 28 cs = some x) (hw : ∀ n ∈ x.1.weights Try.prog 28, n ≤ reachBytes) :
    ∃ (a : S28) (A : Option Addr) (c : Nat), a.f6.length ≤ c ∧ RdI W A a.f6 ∧ a.f6.length ≤ 17592186044415 ∧ cs.length = 13 ∧ ∀ j, j < 13 → cs[j]? = (accC a (.slice A a.f6.length c))[j]? := by
  obtain ⟨y0, y1, y2, y3, y4, y5, y6, n', hx, hcl, t0, t1, t2, t3, t4, t5, t6⟩ := trod_struct7 Try.underlying28 h
  obtain ⟨z0, e0, _⟩ := open_int t0
  obtain ⟨z1, e1, _⟩ := open_int t1
  obtain ⟨z2, e2, _⟩ := open_int t2
  obtain ⟨z3, e3, _⟩ := open_int t3
  obtain ⟨i4, e4, _⟩ := open_item t4
  obtain ⟨i5, e5, _⟩ := open_item t5
  have hci : Try.prog.cellsOf 3 = 1 := by kernel_rfl
  have hc4 : Try.prog.cellsOf 26 = 4 := by kernel_rfl
  have hcs : Try.prog.cellsOf 22 = 1 := by kernel_rfl
  have hca : Try.prog.cellsOf 28 = 13 := by kernel_rfl
  simp only [hci] at e0 e1 e2 e3
  simp only [hc4] at e4 e5
  rw [hca] at hcl
  obtain ⟨A, len, cap, e6, elems, spare', hy6, hel⟩ : ∃ A len cap, (cs.drop 12).take (Try.prog.cellsOf 22) = [.slice A len cap] ∧ ∃ elems spare', (y6.1 = .nil ∧ len = 0 ∨ y6.1 = DataW.slice elems spare') ∧ (y6.1 = DataW.slice elems spare' → elems.length = len) := by
    rcases open_slice Try.underlying22 t6 with ⟨e, e'⟩ | ⟨q, l, c, m, n, D, Pl, e, _, _, _, _, e', _⟩
    · exact ⟨none, 0, 0, e, [], [], .inl ⟨by rw [e'], rfl⟩, fun h => by rw [e'] at h; cases h⟩
    · exact ⟨some q, l, c, e, _, _, .inr (by rw [e']), fun h => by simp⟩
  have t6' : DataW.trod enc Try.prog W base spare held n' 22 [.slice A len cap] = some y6 := by rw [← e6]; exact t6
  obtain ⟨l, hl, hr, hcap, _⟩ := open_row t6'
  have hb : len ≤ 17592186044415 := by
    rcases hy6 with ⟨_, h0⟩ | hy
    · omega
    · have h1 := hw ((elems.length + spare'.length) * Try.prog.bytesOf 3) (by
        rw [hx]
        have hu := Try.underlying28
        have hu2 := Try.underlying22
        simp only [DataW.weights, hu]
        refine DataW.weights_mem_each (j := 6) (t := 22) (d := y6.1) rfl rfl _ ?_
        rw [hy]
        simp [DataW.weights, hu2])
      rw [show Try.prog.bytesOf 3 = 8 from by kernel_rfl, hel hy, show reachBytes = 140737488351232 from rfl] at h1
      omega
  subst hl
  obtain ⟨c4, c5, c6, c7⟩ := four_cells e4
  obtain ⟨c8, c9, c10, c11⟩ := four_cells e5
  rw [hcs] at e6
  have c0 := one_cell (k := 0) e0
  have c1 := one_cell (k := 1) e1
  have c2 := one_cell (k := 2) e2
  have c3 := one_cell (k := 3) e3
  have c12 := one_cell (k := 12) e6
  refine ⟨⟨z0, z1, z2, z3, i4, i5, l⟩, A, cap, hcap, hr, hb, hcl, fun j hj => ?_⟩
  match j, hj with
  | 0, _ => exact c0
  | 1, _ => exact c1
  | 2, _ => exact c2
  | 3, _ => exact c3
  | 4, _ => exact c4
  | 5, _ => exact c5
  | 6, _ => exact c6
  | 7, _ => exact c7
  | 8, _ => exact c8
  | 9, _ => exact c9
  | 10, _ => exact c10
  | 11, _ => exact c11
  | 12, _ => exact c12
theorem open_accs {A : Option Addr} {len cap : Nat} (h : DataW.trod enc Try.prog W base spare held fuel 51 [.slice A len cap] = some x) (hw : ∀ n ∈ x.1.weights Try.prog 51, n ≤ reachBytes) :
    ∃ l : List S28, len = l.length ∧ RdA W A l ∧ len ≤ cap ∧ (∀ y ∈ l, y.f6.length ≤ 17592186044415) ∧ len * 120 ≤ 140737488351232 := by
  rcases open_slice Try.underlying51 h with ⟨hcs, _⟩ | ⟨q, l, c, m, n, D, Pl, hcs, _, hl, hm, hme, hx, hel⟩
  · simp at hcs
    obtain ⟨rfl, rfl, rfl⟩ := hcs
    exact ⟨[], rfl, rdA_nil _ _, Nat.le_refl _, by simp, by simp⟩
  · simp at hcs
    obtain ⟨rfl, rfl, rfl⟩ := hcs
    have hlm : len ≤ m := by rw [hme]; split <;> omega
    have hu := Try.underlying51
    have hca : Try.prog.cellsOf 28 = 13 := by kernel_rfl
    rw [hca] at hel
    have hsz : len * 120 ≤ 140737488351232 := by
      have h1 := hw ((((List.range len).map D).length + ((List.range (m - len)).map fun j => D (len + j)).length) * Try.prog.bytesOf 28) (by
        rw [hx]
        simp [DataW.weights, hu])
      rw [show Try.prog.bytesOf 28 = 120 from by kernel_rfl, show reachBytes = 140737488351232 from rfl] at h1
      simp only [List.length_map, List.length_range] at h1
      exact Nat.le_trans (Nat.mul_le_mul_right _ (Nat.le_add_right _ _)) h1
    have hone : ∀ i, i < len → ∃ z : S28, z.f6.length ≤ 17592186044415 ∧ ∃ (A : Option Addr) (c : Nat), z.f6.length ≤ c ∧ RdI W A z.f6 ∧ ∀ j u, (accC z (.slice A z.f6.length c))[j]? = some u → W.cell? ((q.add (i * 13)).add j) = some u := fun i hi => by
      obtain ⟨cs, h1, h2⟩ := hel i (by omega)
      obtain ⟨z, A, c, hlc, hr, hb, hlen, hj⟩ := open_acc h2 (fun n hn => hw n (by
        rw [hx]
        simp only [DataW.weights, hu, List.mem_cons, List.mem_append]
        refine .inr (.inl (weightsAll_mem (d := D i) ?_ n hn))
        exact List.mem_map.2 ⟨i, List.mem_range.2 hi, rfl⟩))
      obtain ⟨_, _, hc⟩ := World.cells?_some h1
      refine ⟨z, hb, A, c, hlc, hr, fun j u hu => ?_⟩
      have hjl : j < 13 := by
        have := (List.getElem?_eq_some_iff.1 hu).1
        rwa [accC_len] at this
      exact (hc j hjl).trans ((hj j hjl).trans hu)
    have : Inhabited S28 := ⟨z28⟩
    obtain ⟨Z, hZ⟩ := choose_lt hone
    refine ⟨(List.range len).map Z, by simp, fun hp => ?_, hl, fun y hy => ?_, hsz⟩
    · have hlen : ((List.range len).map Z).length = len := by simp
      rw [hlen] at hp
      obtain ⟨_, A0, c0, _, _, h0⟩ := hZ 0 (by omega)
      have h00 := h0 0 _ rfl
      have hs : q.spot = none := by
        have := spot_none h00
        simpa [Addr.add] using this
      obtain ⟨b, o, sp⟩ := q
      simp only at hs
      subst hs
      refine ⟨b, o, rfl, by have := block_lt_of_cell h00; simpa [Addr.add] using this, fun i hi => ?_⟩
      rw [hlen] at hi
      obtain ⟨_, Ai, ci, hlc, hr, hc⟩ := hZ i hi
      have e : ((List.range len).map Z).getD i z28 = Z i := by simp [List.getD_eq_getElem?_getD, hi]
      rw [e]
      have ha : ∀ j, ((⟨b, o, none⟩ : Addr).add (i * 13)).add j = ⟨b, o + i * 13 + j, none⟩ := fun j => by rw [add_none, add_none]
      simp only [ha] at hc
      exact ⟨Ai, ci, hc 0 _ rfl, hc 1 _ rfl, hc 2 _ rfl, hc 3 _ rfl, hc 4 _ rfl, hc 5 _ rfl, hc 6 _ rfl, hc 7 _ rfl, hc 8 _ rfl, hc 9 _ rfl, hc 10 _ rfl, hc 11 _ rfl, hc 12 _ rfl, hlc, hr⟩
    · obtain ⟨i, hi, rfl⟩ := List.mem_map.1 hy
      exact (hZ i (List.mem_range.1 hi)).1
end
end Go.Proofs.Ytggaefklcpbfnaa.My
