/- 'awake' of the law's package for acc: a run without inputs; it returns true. No statement of the seed is proved here. -/
import Derived.Test.YtggaefklcpbfnaaAccJ
namespace Go.Proofs.Ytggaefklcpbfnaa.My
open Go.RowKit Pa Go.Proofs.YtggaefklcpbfnaaW.PrintWords

set_option linter.unusedSimpArgs false

set_option maxHeartbeats 8000000 in
set_option maxRecDepth 100000 in
theorem awake_any (w : World) : Calls Try.prog 36 #[] w fun e w' => e = .returned (.bool true) ∧ Below w.heap.size w w' := by
  have hb : Below w.heap.size w (w.alloc (.cells #[.int .i64 0, .int .i64 5] 3)) := (Below.refl w.heap.size w).alloc (Nat.le_refl _) _
  have hrb : RdI (w.alloc (.cells #[.int .i64 0, .int .i64 5] 3)) (some ⟨w.heap.size, 0, none⟩) [0, 5] := rdI_blk (heap_alloc_new w (.cells #[.int .i64 0, .int .i64 5] 3)) (by decide)
  have HW := Lib.hid hb
  have RB := Lib.hid hrb
  clear hb hrb
  go_enter Try.func36, Try.ntmps36
  go_wp2_with fail
  generalize w.alloc (.cells #[.int .i64 0, .int .i64 5] 3) = w0 at *
  obtain ⟨bb, hbb⟩ : ∃ bb, w.heap.size = bb := ⟨_, rfl⟩
  rw [hbb] at RB ⊢
  clear hbb
  refine (item_any 1 4 (2) (5) _).mono ?_
  rintro e w1 ⟨rfl, hb⟩
  replace HW := Lib.hid (HW.out.trans (hb.mono HW.out.size))
  replace RB := Lib.hid (Kd.C_below RB.out hb)
  clear hb
  go_wp2_with fail
  refine (one_any ⟨1, 4, 2, 5⟩ [0, 5] (some ⟨bb, 0, none⟩) 2 _ RB.out (by decide)).mono ?_
  rintro e w2 ⟨v, rfl, how, hb⟩
  replace HW := Lib.hid (HW.out.trans (hb.mono HW.out.size))
  replace RB := Lib.hid (Kd.C_below RB.out hb)
  clear hb
  rw [show oneRes ⟨1, 4, 2, 5⟩ [0, 5] = ((⟨1, 5, 5, 5, ⟨1, 4, 2, 5⟩, ⟨1, 4, 2, 5⟩, [0, 1, 0]⟩ : S28), (0 : Int)) from by kernel_rfl] at how ⊢
  obtain ⟨Ax, cx, rfl, hl, hr⟩ := how.reads
  simp only [acV, List.length_cons, List.length_nil, Nat.zero_add, Nat.reduceAdd]
  clear how
  have Vx := Lib.hid (AVar.new (w := w2) (a := ⟨1, 5, 5, 5, ⟨1, 4, 2, 5⟩, ⟨1, 4, 2, 5⟩, [0, 1, 0]⟩) hl hr)
  have hb : Below w2.heap.size w2 (w2.alloc (acO ⟨1, 5, 5, 5, ⟨1, 4, 2, 5⟩, ⟨1, 4, 2, 5⟩, [0, 1, 0]⟩ (.slice Ax 3 cx))) := (Below.refl _ _).alloc (Nat.le_refl _) _
  clear hl hr
  replace HW := Lib.hid (HW.out.trans (hb.mono HW.out.size))
  replace RB := Lib.hid (Kd.C_below RB.out hb)
  clear hb
  go_wp2_with fail
  show Calls _ _ _ (w2.alloc (acO ⟨1, 5, 5, 5, ⟨1, 4, 2, 5⟩, ⟨1, 4, 2, 5⟩, [0, 1, 0]⟩ (.slice Ax 3 cx))) _
  change Hid (AVar (w2.alloc (acO ⟨1, 5, 5, 5, ⟨1, 4, 2, 5⟩, ⟨1, 4, 2, 5⟩, [0, 1, 0]⟩ (.slice Ax 3 cx))) _ _ _ _) at Vx
  generalize w2.alloc (acO ⟨1, 5, 5, 5, ⟨1, 4, 2, 5⟩, ⟨1, 4, 2, 5⟩, [0, 1, 0]⟩ (.slice Ax 3 cx)) = w3 at *
  generalize w2.heap.size = bkx at *
  refine (item_any 1 3 (9) (-7) _).mono ?_
  rintro e w4 ⟨rfl, hb⟩
  replace HW := Lib.hid (HW.out.trans (hb.mono HW.out.size))
  replace RB := Lib.hid (Kd.C_below RB.out hb)
  replace Vx := Lib.hid (Vx.out.below hb)
  clear hb
  go_wp2_with fail
  refine (one_any ⟨1, 3, 9, -7⟩ [0, 5] (some ⟨bb, 0, none⟩) 2 _ RB.out (by decide)).mono ?_
  rintro e w5 ⟨v, rfl, how, hb⟩
  replace HW := Lib.hid (HW.out.trans (hb.mono HW.out.size))
  replace RB := Lib.hid (Kd.C_below RB.out hb)
  replace Vx := Lib.hid (Vx.out.below hb)
  clear hb
  rw [show oneRes ⟨1, 3, 9, -7⟩ [0, 5] = ((⟨1, -7, -7, -7, ⟨1, 3, 9, -7⟩, ⟨1, 3, 9, -7⟩, [1, 0, 0]⟩ : S28), (0 : Int)) from by kernel_rfl] at how ⊢
  obtain ⟨Ay, cy, rfl, hl, hr⟩ := how.reads
  simp only [acV, List.length_cons, List.length_nil, Nat.zero_add, Nat.reduceAdd]
  clear how
  have Vy := Lib.hid (AVar.new (w := w5) (a := ⟨1, -7, -7, -7, ⟨1, 3, 9, -7⟩, ⟨1, 3, 9, -7⟩, [1, 0, 0]⟩) hl hr)
  have hb : Below w5.heap.size w5 (w5.alloc (acO ⟨1, -7, -7, -7, ⟨1, 3, 9, -7⟩, ⟨1, 3, 9, -7⟩, [1, 0, 0]⟩ (.slice Ay 3 cy))) := (Below.refl _ _).alloc (Nat.le_refl _) _
  clear hl hr
  replace HW := Lib.hid (HW.out.trans (hb.mono HW.out.size))
  replace RB := Lib.hid (Kd.C_below RB.out hb)
  replace Vx := Lib.hid (Vx.out.below hb)
  clear hb
  change Hid (AVar (w5.alloc (acO ⟨1, -7, -7, -7, ⟨1, 3, 9, -7⟩, ⟨1, 3, 9, -7⟩, [1, 0, 0]⟩ (.slice Ay 3 cy))) _ _ _ _) at Vy
  obtain ⟨x0, x1, x2, x3, x4, x5, x6, x7, x8, x9, x10, x11, x12, xl⟩ := acO_facts Vx.out.1
  simp only [acO, List.length_cons, List.length_nil, Nat.zero_add, Nat.reduceAdd] at x0 x1 x2 x3 x4 x5 x6 x7 x8 x9 x10 x11 x12 xl
  obtain ⟨y0, y1, y2, y3, y4, y5, y6, y7, y8, y9, y10, y11, y12, yl⟩ := acO_facts Vy.out.1
  simp only [acO, List.length_cons, List.length_nil, Nat.zero_add, Nat.reduceAdd] at y0 y1 y2 y3 y4 y5 y6 y7 y8 y9 y10 y11 y12 yl
  go_wp2_with fail
  show Calls _ _ _ ((w5.alloc (acO ⟨1, -7, -7, -7, ⟨1, 3, 9, -7⟩, ⟨1, 3, 9, -7⟩, [1, 0, 0]⟩ (.slice Ay 3 cy))).alloc (.cells #[.int .i64 (1), .int .i64 (5), .int .i64 (5), .int .i64 (5), .int .i64 (1), .int .i64 (4), .int .i64 (2), .int .i64 (5), .int .i64 (1), .int .i64 (4), .int .i64 (2), .int .i64 (5), .slice Ax 3 cx, .int .i64 (1), .int .i64 (-7), .int .i64 (-7), .int .i64 (-7), .int .i64 (1), .int .i64 (3), .int .i64 (9), .int .i64 (-7), .int .i64 (1), .int .i64 (3), .int .i64 (9), .int .i64 (-7), .slice Ay 3 cy] 28)) _
  clear x0 x1 x2 x3 x4 x5 x6 x7 x8 x9 x10 x11 x12 xl y0 y1 y2 y3 y4 y5 y6 y7 y8 y9 y10 y11 y12 yl
  have hsz : (w5.alloc (acO ⟨1, -7, -7, -7, ⟨1, 3, 9, -7⟩, ⟨1, 3, 9, -7⟩, [1, 0, 0]⟩ (.slice Ay 3 cy))).heap.size = w5.heap.size + 1 := by simp
  have hp := heap_alloc_new (w5.alloc (acO ⟨1, -7, -7, -7, ⟨1, 3, 9, -7⟩, ⟨1, 3, 9, -7⟩, [1, 0, 0]⟩ (.slice Ay 3 cy))) (.cells #[.int .i64 (1), .int .i64 (5), .int .i64 (5), .int .i64 (5), .int .i64 (1), .int .i64 (4), .int .i64 (2), .int .i64 (5), .int .i64 (1), .int .i64 (4), .int .i64 (2), .int .i64 (5), .slice Ax 3 cx, .int .i64 (1), .int .i64 (-7), .int .i64 (-7), .int .i64 (-7), .int .i64 (1), .int .i64 (3), .int .i64 (9), .int .i64 (-7), .int .i64 (1), .int .i64 (3), .int .i64 (9), .int .i64 (-7), .slice Ay 3 cy] 28)
  have hb : Below (w5.alloc (acO ⟨1, -7, -7, -7, ⟨1, 3, 9, -7⟩, ⟨1, 3, 9, -7⟩, [1, 0, 0]⟩ (.slice Ay 3 cy))).heap.size (w5.alloc (acO ⟨1, -7, -7, -7, ⟨1, 3, 9, -7⟩, ⟨1, 3, 9, -7⟩, [1, 0, 0]⟩ (.slice Ay 3 cy))) ((w5.alloc (acO ⟨1, -7, -7, -7, ⟨1, 3, 9, -7⟩, ⟨1, 3, 9, -7⟩, [1, 0, 0]⟩ (.slice Ay 3 cy))).alloc (.cells #[.int .i64 (1), .int .i64 (5), .int .i64 (5), .int .i64 (5), .int .i64 (1), .int .i64 (4), .int .i64 (2), .int .i64 (5), .int .i64 (1), .int .i64 (4), .int .i64 (2), .int .i64 (5), .slice Ax 3 cx, .int .i64 (1), .int .i64 (-7), .int .i64 (-7), .int .i64 (-7), .int .i64 (1), .int .i64 (3), .int .i64 (9), .int .i64 (-7), .int .i64 (1), .int .i64 (3), .int .i64 (9), .int .i64 (-7), .slice Ay 3 cy] 28)) := (Below.refl _ _).alloc (Nat.le_refl _) _
  rw [hsz] at hp
  clear hsz
  generalize w5.alloc (acO ⟨1, -7, -7, -7, ⟨1, 3, 9, -7⟩, ⟨1, 3, 9, -7⟩, [1, 0, 0]⟩ (.slice Ay 3 cy)) = w6 at *
  replace HW := Lib.hid (HW.out.trans (hb.mono HW.out.size))
  replace RB := Lib.hid (Kd.C_below RB.out hb)
  replace Vx := Lib.hid (Vx.out.below hb)
  replace Vy := Lib.hid (Vy.out.below hb)
  clear hb
  generalize w6.alloc (.cells #[.int .i64 (1), .int .i64 (5), .int .i64 (5), .int .i64 (5), .int .i64 (1), .int .i64 (4), .int .i64 (2), .int .i64 (5), .int .i64 (1), .int .i64 (4), .int .i64 (2), .int .i64 (5), .slice Ax 3 cx, .int .i64 (1), .int .i64 (-7), .int .i64 (-7), .int .i64 (-7), .int .i64 (1), .int .i64 (3), .int .i64 (9), .int .i64 (-7), .int .i64 (1), .int .i64 (3), .int .i64 (9), .int .i64 (-7), .slice Ay 3 cy] 28) = w7 at *
  obtain ⟨pbz, hpb⟩ : ∃ pb, w5.heap.size + 1 = pb := ⟨_, rfl⟩
  rw [hpb] at hp ⊢
  clear hpb
  generalize w5.heap.size = bky at *
  refine (join_any [0, 5] [⟨1, 5, 5, 5, ⟨1, 4, 2, 5⟩, ⟨1, 4, 2, 5⟩, [0, 1, 0]⟩, ⟨1, -7, -7, -7, ⟨1, 3, 9, -7⟩, ⟨1, 3, 9, -7⟩, [1, 0, 0]⟩] (some ⟨bb, 0, none⟩) 2 (some ⟨pbz, 0, none⟩) 2 _ RB.out (by decide) (rdA_two (x := ⟨1, 5, 5, 5, ⟨1, 4, 2, 5⟩, ⟨1, 4, 2, 5⟩, [0, 1, 0]⟩) (y := ⟨1, -7, -7, -7, ⟨1, 3, 9, -7⟩, ⟨1, 3, 9, -7⟩, [1, 0, 0]⟩) hp Vx.out.2.1 Vx.out.2.2 Vy.out.2.1 Vy.out.2.2) (by decide)).mono ?_
  rintro e w8 ⟨v, rfl, how, hb⟩
  clear hp
  replace HW := Lib.hid (HW.out.trans (hb.mono HW.out.size))
  replace RB := Lib.hid (Kd.C_below RB.out hb)
  replace Vx := Lib.hid (Vx.out.below hb)
  replace Vy := Lib.hid (Vy.out.below hb)
  clear hb
  rw [show joinRes [0, 5] [⟨1, 5, 5, 5, ⟨1, 4, 2, 5⟩, ⟨1, 4, 2, 5⟩, [0, 1, 0]⟩, ⟨1, -7, -7, -7, ⟨1, 3, 9, -7⟩, ⟨1, 3, 9, -7⟩, [1, 0, 0]⟩] = ((⟨2, -2, -7, 5, ⟨1, 3, 9, -7⟩, ⟨1, 4, 2, 5⟩, [1, 1, 0]⟩ : S28), (0 : Int)) from by kernel_rfl] at how ⊢
  obtain ⟨Az, cz, rfl, hl, hr⟩ := how.reads
  simp only [acV, List.length_cons, List.length_nil, Nat.zero_add, Nat.reduceAdd]
  clear how
  have Vz := Lib.hid (AVar.new (w := w8) (a := ⟨2, -2, -7, 5, ⟨1, 3, 9, -7⟩, ⟨1, 4, 2, 5⟩, [1, 1, 0]⟩) hl hr)
  have hb : Below w8.heap.size w8 (w8.alloc (acO ⟨2, -2, -7, 5, ⟨1, 3, 9, -7⟩, ⟨1, 4, 2, 5⟩, [1, 1, 0]⟩ (.slice Az 3 cz))) := (Below.refl _ _).alloc (Nat.le_refl _) _
  clear hl hr
  replace HW := Lib.hid (HW.out.trans (hb.mono HW.out.size))
  replace RB := Lib.hid (Kd.C_below RB.out hb)
  replace Vx := Lib.hid (Vx.out.below hb)
  replace Vy := Lib.hid (Vy.out.below hb)
  clear hb
  go_wp2_with fail
  show Calls _ _ _ (w8.alloc (acO ⟨2, -2, -7, 5, ⟨1, 3, 9, -7⟩, ⟨1, 4, 2, 5⟩, [1, 1, 0]⟩ (.slice Az 3 cz))) _
  change Hid (AVar (w8.alloc (acO ⟨2, -2, -7, 5, ⟨1, 3, 9, -7⟩, ⟨1, 4, 2, 5⟩, [1, 1, 0]⟩ (.slice Az 3 cz))) _ _ _ _) at Vz
  generalize w8.alloc (acO ⟨2, -2, -7, 5, ⟨1, 3, 9, -7⟩, ⟨1, 4, 2, 5⟩, [1, 1, 0]⟩ (.slice Az 3 cz)) = w9 at *
  generalize w8.heap.size = bkz at *
  refine (one_any ⟨0, 0, 0, 0⟩ [0, 5] (some ⟨bb, 0, none⟩) 2 _ RB.out (by decide)).mono ?_
  rintro e w10 ⟨v, rfl, how, hb⟩
  replace HW := Lib.hid (HW.out.trans (hb.mono HW.out.size))
  replace RB := Lib.hid (Kd.C_below RB.out hb)
  replace Vx := Lib.hid (Vx.out.below hb)
  replace Vy := Lib.hid (Vy.out.below hb)
  replace Vz := Lib.hid (Vz.out.below hb)
  clear hb
  rw [show oneRes ⟨0, 0, 0, 0⟩ [0, 5] = ((⟨0, 0, 0, 0, ⟨0, 0, 0, 0⟩, ⟨0, 0, 0, 0⟩, []⟩ : S28), (100 : Int)) from by kernel_rfl] at how ⊢
  obtain ⟨Aq, cq, rfl, hl, hr⟩ := how.reads
  simp only [acV, List.length_cons, List.length_nil, Nat.zero_add, Nat.reduceAdd]
  clear how
  have Vq := Lib.hid (AVar.new (w := w10) (a := ⟨0, 0, 0, 0, ⟨0, 0, 0, 0⟩, ⟨0, 0, 0, 0⟩, []⟩) hl hr)
  have hb : Below w10.heap.size w10 (w10.alloc (acO ⟨0, 0, 0, 0, ⟨0, 0, 0, 0⟩, ⟨0, 0, 0, 0⟩, []⟩ (.slice Aq 0 cq))) := (Below.refl _ _).alloc (Nat.le_refl _) _
  clear hl hr
  replace HW := Lib.hid (HW.out.trans (hb.mono HW.out.size))
  replace RB := Lib.hid (Kd.C_below RB.out hb)
  replace Vx := Lib.hid (Vx.out.below hb)
  replace Vy := Lib.hid (Vy.out.below hb)
  replace Vz := Lib.hid (Vz.out.below hb)
  clear hb
  go_wp2_with fail
  show Calls _ _ _ (w10.alloc (acO ⟨0, 0, 0, 0, ⟨0, 0, 0, 0⟩, ⟨0, 0, 0, 0⟩, []⟩ (.slice Aq 0 cq))) _
  change Hid (AVar (w10.alloc (acO ⟨0, 0, 0, 0, ⟨0, 0, 0, 0⟩, ⟨0, 0, 0, 0⟩, []⟩ (.slice Aq 0 cq))) _ _ _ _) at Vq
  generalize w10.alloc (acO ⟨0, 0, 0, 0, ⟨0, 0, 0, 0⟩, ⟨0, 0, 0, 0⟩, []⟩ (.slice Aq 0 cq)) = w11 at *
  generalize w10.heap.size = bkq at *
  refine (join_any [0, 5] [] (some ⟨bb, 0, none⟩) 2 none 0 _ RB.out (by decide) (rdA_nil _ _) (by decide)).mono ?_
  rintro e w12 ⟨v, rfl, how, hb⟩
  replace HW := Lib.hid (HW.out.trans (hb.mono HW.out.size))
  replace RB := Lib.hid (Kd.C_below RB.out hb)
  replace Vx := Lib.hid (Vx.out.below hb)
  replace Vy := Lib.hid (Vy.out.below hb)
  replace Vz := Lib.hid (Vz.out.below hb)
  replace Vq := Lib.hid (Vq.out.below hb)
  clear hb
  rw [show joinRes [0, 5] [] = ((⟨0, 0, 0, 0, ⟨0, 0, 0, 0⟩, ⟨0, 0, 0, 0⟩, [0, 0, 0]⟩ : S28), (0 : Int)) from by kernel_rfl] at how ⊢
  obtain ⟨An, cn, rfl, hl, hr⟩ := how.reads
  simp only [acV, List.length_cons, List.length_nil, Nat.zero_add, Nat.reduceAdd]
  clear how
  have Vn := Lib.hid (AVar.new (w := w12) (a := ⟨0, 0, 0, 0, ⟨0, 0, 0, 0⟩, ⟨0, 0, 0, 0⟩, [0, 0, 0]⟩) hl hr)
  have hb : Below w12.heap.size w12 (w12.alloc (acO ⟨0, 0, 0, 0, ⟨0, 0, 0, 0⟩, ⟨0, 0, 0, 0⟩, [0, 0, 0]⟩ (.slice An 3 cn))) := (Below.refl _ _).alloc (Nat.le_refl _) _
  clear hl hr
  replace HW := Lib.hid (HW.out.trans (hb.mono HW.out.size))
  replace RB := Lib.hid (Kd.C_below RB.out hb)
  replace Vx := Lib.hid (Vx.out.below hb)
  replace Vy := Lib.hid (Vy.out.below hb)
  replace Vz := Lib.hid (Vz.out.below hb)
  replace Vq := Lib.hid (Vq.out.below hb)
  clear hb
  go_wp2_with fail
  show Calls _ _ _ (w12.alloc (acO ⟨0, 0, 0, 0, ⟨0, 0, 0, 0⟩, ⟨0, 0, 0, 0⟩, [0, 0, 0]⟩ (.slice An 3 cn))) _
  change Hid (AVar (w12.alloc (acO ⟨0, 0, 0, 0, ⟨0, 0, 0, 0⟩, ⟨0, 0, 0, 0⟩, [0, 0, 0]⟩ (.slice An 3 cn))) _ _ _ _) at Vn
  generalize w12.alloc (acO ⟨0, 0, 0, 0, ⟨0, 0, 0, 0⟩, ⟨0, 0, 0, 0⟩, [0, 0, 0]⟩ (.slice An 3 cn)) = w13 at *
  generalize w12.heap.size = bkn at *
  refine (item_any 2 3 (9) (-7) _).mono ?_
  rintro e w14 ⟨rfl, hb⟩
  replace HW := Lib.hid (HW.out.trans (hb.mono HW.out.size))
  replace RB := Lib.hid (Kd.C_below RB.out hb)
  replace Vx := Lib.hid (Vx.out.below hb)
  replace Vy := Lib.hid (Vy.out.below hb)
  replace Vz := Lib.hid (Vz.out.below hb)
  replace Vq := Lib.hid (Vq.out.below hb)
  replace Vn := Lib.hid (Vn.out.below hb)
  clear hb
  go_wp2_with fail
  refine (one_any ⟨2, 3, 9, -7⟩ [0, 5] (some ⟨bb, 0, none⟩) 2 _ RB.out (by decide)).mono ?_
  rintro e w15 ⟨v, rfl, how, hb⟩
  replace HW := Lib.hid (HW.out.trans (hb.mono HW.out.size))
  replace RB := Lib.hid (Kd.C_below RB.out hb)
  replace Vx := Lib.hid (Vx.out.below hb)
  replace Vy := Lib.hid (Vy.out.below hb)
  replace Vz := Lib.hid (Vz.out.below hb)
  replace Vq := Lib.hid (Vq.out.below hb)
  replace Vn := Lib.hid (Vn.out.below hb)
  clear hb
  rw [show oneRes ⟨2, 3, 9, -7⟩ [0, 5] = ((⟨1, -7, -7, -7, ⟨2, 3, 9, -7⟩, ⟨2, 3, 9, -7⟩, [1, 0, 0]⟩ : S28), (0 : Int)) from by kernel_rfl] at how ⊢
  obtain ⟨Aw, cw, rfl, hl, hr⟩ := how.reads
  simp only [acV, List.length_cons, List.length_nil, Nat.zero_add, Nat.reduceAdd]
  clear how
  have Vw := Lib.hid (AVar.new (w := w15) (a := ⟨1, -7, -7, -7, ⟨2, 3, 9, -7⟩, ⟨2, 3, 9, -7⟩, [1, 0, 0]⟩) hl hr)
  have hb : Below w15.heap.size w15 (w15.alloc (acO ⟨1, -7, -7, -7, ⟨2, 3, 9, -7⟩, ⟨2, 3, 9, -7⟩, [1, 0, 0]⟩ (.slice Aw 3 cw))) := (Below.refl _ _).alloc (Nat.le_refl _) _
  clear hl hr
  replace HW := Lib.hid (HW.out.trans (hb.mono HW.out.size))
  replace RB := Lib.hid (Kd.C_below RB.out hb)
  replace Vx := Lib.hid (Vx.out.below hb)
  replace Vy := Lib.hid (Vy.out.below hb)
  replace Vz := Lib.hid (Vz.out.below hb)
  replace Vq := Lib.hid (Vq.out.below hb)
  replace Vn := Lib.hid (Vn.out.below hb)
  clear hb
  change Hid (AVar (w15.alloc (acO ⟨1, -7, -7, -7, ⟨2, 3, 9, -7⟩, ⟨2, 3, 9, -7⟩, [1, 0, 0]⟩ (.slice Aw 3 cw))) _ _ _ _) at Vw
  obtain ⟨x0, x1, x2, x3, x4, x5, x6, x7, x8, x9, x10, x11, x12, xl⟩ := acO_facts Vx.out.1
  simp only [acO, List.length_cons, List.length_nil, Nat.zero_add, Nat.reduceAdd] at x0 x1 x2 x3 x4 x5 x6 x7 x8 x9 x10 x11 x12 xl
  obtain ⟨w0, w1, w2, w3, w4, w5, w6, w7, w8, w9, w10, w11, w12, wl⟩ := acO_facts Vw.out.1
  simp only [acO, List.length_cons, List.length_nil, Nat.zero_add, Nat.reduceAdd] at w0 w1 w2 w3 w4 w5 w6 w7 w8 w9 w10 w11 w12 wl
  go_wp2_with fail
  show Calls _ _ _ ((w15.alloc (acO ⟨1, -7, -7, -7, ⟨2, 3, 9, -7⟩, ⟨2, 3, 9, -7⟩, [1, 0, 0]⟩ (.slice Aw 3 cw))).alloc (.cells #[.int .i64 (1), .int .i64 (5), .int .i64 (5), .int .i64 (5), .int .i64 (1), .int .i64 (4), .int .i64 (2), .int .i64 (5), .int .i64 (1), .int .i64 (4), .int .i64 (2), .int .i64 (5), .slice Ax 3 cx, .int .i64 (1), .int .i64 (-7), .int .i64 (-7), .int .i64 (-7), .int .i64 (2), .int .i64 (3), .int .i64 (9), .int .i64 (-7), .int .i64 (2), .int .i64 (3), .int .i64 (9), .int .i64 (-7), .slice Aw 3 cw] 28)) _
  clear x0 x1 x2 x3 x4 x5 x6 x7 x8 x9 x10 x11 x12 xl w0 w1 w2 w3 w4 w5 w6 w7 w8 w9 w10 w11 w12 wl
  have hsz : (w15.alloc (acO ⟨1, -7, -7, -7, ⟨2, 3, 9, -7⟩, ⟨2, 3, 9, -7⟩, [1, 0, 0]⟩ (.slice Aw 3 cw))).heap.size = w15.heap.size + 1 := by simp
  have hp := heap_alloc_new (w15.alloc (acO ⟨1, -7, -7, -7, ⟨2, 3, 9, -7⟩, ⟨2, 3, 9, -7⟩, [1, 0, 0]⟩ (.slice Aw 3 cw))) (.cells #[.int .i64 (1), .int .i64 (5), .int .i64 (5), .int .i64 (5), .int .i64 (1), .int .i64 (4), .int .i64 (2), .int .i64 (5), .int .i64 (1), .int .i64 (4), .int .i64 (2), .int .i64 (5), .slice Ax 3 cx, .int .i64 (1), .int .i64 (-7), .int .i64 (-7), .int .i64 (-7), .int .i64 (2), .int .i64 (3), .int .i64 (9), .int .i64 (-7), .int .i64 (2), .int .i64 (3), .int .i64 (9), .int .i64 (-7), .slice Aw 3 cw] 28)
  have hb : Below (w15.alloc (acO ⟨1, -7, -7, -7, ⟨2, 3, 9, -7⟩, ⟨2, 3, 9, -7⟩, [1, 0, 0]⟩ (.slice Aw 3 cw))).heap.size (w15.alloc (acO ⟨1, -7, -7, -7, ⟨2, 3, 9, -7⟩, ⟨2, 3, 9, -7⟩, [1, 0, 0]⟩ (.slice Aw 3 cw))) ((w15.alloc (acO ⟨1, -7, -7, -7, ⟨2, 3, 9, -7⟩, ⟨2, 3, 9, -7⟩, [1, 0, 0]⟩ (.slice Aw 3 cw))).alloc (.cells #[.int .i64 (1), .int .i64 (5), .int .i64 (5), .int .i64 (5), .int .i64 (1), .int .i64 (4), .int .i64 (2), .int .i64 (5), .int .i64 (1), .int .i64 (4), .int .i64 (2), .int .i64 (5), .slice Ax 3 cx, .int .i64 (1), .int .i64 (-7), .int .i64 (-7), .int .i64 (-7), .int .i64 (2), .int .i64 (3), .int .i64 (9), .int .i64 (-7), .int .i64 (2), .int .i64 (3), .int .i64 (9), .int .i64 (-7), .slice Aw 3 cw] 28)) := (Below.refl _ _).alloc (Nat.le_refl _) _
  rw [hsz] at hp
  clear hsz
  generalize w15.alloc (acO ⟨1, -7, -7, -7, ⟨2, 3, 9, -7⟩, ⟨2, 3, 9, -7⟩, [1, 0, 0]⟩ (.slice Aw 3 cw)) = w16 at *
  replace HW := Lib.hid (HW.out.trans (hb.mono HW.out.size))
  replace RB := Lib.hid (Kd.C_below RB.out hb)
  replace Vx := Lib.hid (Vx.out.below hb)
  replace Vy := Lib.hid (Vy.out.below hb)
  replace Vz := Lib.hid (Vz.out.below hb)
  replace Vq := Lib.hid (Vq.out.below hb)
  replace Vn := Lib.hid (Vn.out.below hb)
  replace Vw := Lib.hid (Vw.out.below hb)
  clear hb
  generalize w16.alloc (.cells #[.int .i64 (1), .int .i64 (5), .int .i64 (5), .int .i64 (5), .int .i64 (1), .int .i64 (4), .int .i64 (2), .int .i64 (5), .int .i64 (1), .int .i64 (4), .int .i64 (2), .int .i64 (5), .slice Ax 3 cx, .int .i64 (1), .int .i64 (-7), .int .i64 (-7), .int .i64 (-7), .int .i64 (2), .int .i64 (3), .int .i64 (9), .int .i64 (-7), .int .i64 (2), .int .i64 (3), .int .i64 (9), .int .i64 (-7), .slice Aw 3 cw] 28) = w17 at *
  obtain ⟨pbr, hpb⟩ : ∃ pb, w15.heap.size + 1 = pb := ⟨_, rfl⟩
  rw [hpb] at hp ⊢
  clear hpb
  generalize w15.heap.size = bkw at *
  refine (join_any [0, 5] [⟨1, 5, 5, 5, ⟨1, 4, 2, 5⟩, ⟨1, 4, 2, 5⟩, [0, 1, 0]⟩, ⟨1, -7, -7, -7, ⟨2, 3, 9, -7⟩, ⟨2, 3, 9, -7⟩, [1, 0, 0]⟩] (some ⟨bb, 0, none⟩) 2 (some ⟨pbr, 0, none⟩) 2 _ RB.out (by decide) (rdA_two (x := ⟨1, 5, 5, 5, ⟨1, 4, 2, 5⟩, ⟨1, 4, 2, 5⟩, [0, 1, 0]⟩) (y := ⟨1, -7, -7, -7, ⟨2, 3, 9, -7⟩, ⟨2, 3, 9, -7⟩, [1, 0, 0]⟩) hp Vx.out.2.1 Vx.out.2.2 Vw.out.2.1 Vw.out.2.2) (by decide)).mono ?_
  rintro e w18 ⟨v, rfl, how, hb⟩
  clear hp
  replace HW := Lib.hid (HW.out.trans (hb.mono HW.out.size))
  replace RB := Lib.hid (Kd.C_below RB.out hb)
  replace Vx := Lib.hid (Vx.out.below hb)
  replace Vy := Lib.hid (Vy.out.below hb)
  replace Vz := Lib.hid (Vz.out.below hb)
  replace Vq := Lib.hid (Vq.out.below hb)
  replace Vn := Lib.hid (Vn.out.below hb)
  replace Vw := Lib.hid (Vw.out.below hb)
  clear hb
  rw [show joinRes [0, 5] [⟨1, 5, 5, 5, ⟨1, 4, 2, 5⟩, ⟨1, 4, 2, 5⟩, [0, 1, 0]⟩, ⟨1, -7, -7, -7, ⟨2, 3, 9, -7⟩, ⟨2, 3, 9, -7⟩, [1, 0, 0]⟩] = ((⟨0, 0, 0, 0, ⟨0, 0, 0, 0⟩, ⟨0, 0, 0, 0⟩, []⟩ : S28), (100 : Int)) from by kernel_rfl] at how ⊢
  obtain ⟨Ar, cr, rfl, hl, hr⟩ := how.reads
  simp only [acV, List.length_cons, List.length_nil, Nat.zero_add, Nat.reduceAdd]
  clear how
  have Vr := Lib.hid (AVar.new (w := w18) (a := ⟨0, 0, 0, 0, ⟨0, 0, 0, 0⟩, ⟨0, 0, 0, 0⟩, []⟩) hl hr)
  have hb : Below w18.heap.size w18 (w18.alloc (acO ⟨0, 0, 0, 0, ⟨0, 0, 0, 0⟩, ⟨0, 0, 0, 0⟩, []⟩ (.slice Ar 0 cr))) := (Below.refl _ _).alloc (Nat.le_refl _) _
  clear hl hr
  replace HW := Lib.hid (HW.out.trans (hb.mono HW.out.size))
  replace RB := Lib.hid (Kd.C_below RB.out hb)
  replace Vx := Lib.hid (Vx.out.below hb)
  replace Vy := Lib.hid (Vy.out.below hb)
  replace Vz := Lib.hid (Vz.out.below hb)
  replace Vq := Lib.hid (Vq.out.below hb)
  replace Vn := Lib.hid (Vn.out.below hb)
  replace Vw := Lib.hid (Vw.out.below hb)
  clear hb
  go_wp2_with fail
  show Code.wp _ _ _ _ (w18.alloc (acO ⟨0, 0, 0, 0, ⟨0, 0, 0, 0⟩, ⟨0, 0, 0, 0⟩, []⟩ (.slice Ar 0 cr)))
  change Hid (AVar (w18.alloc (acO ⟨0, 0, 0, 0, ⟨0, 0, 0, 0⟩, ⟨0, 0, 0, 0⟩, []⟩ (.slice Ar 0 cr))) _ _ _ _) at Vr
  generalize w18.alloc (acO ⟨0, 0, 0, 0, ⟨0, 0, 0, 0⟩, ⟨0, 0, 0, 0⟩, []⟩ (.slice Ar 0 cr)) = w19 at *
  generalize w18.heap.size = bkr at *
  obtain ⟨z0, z1, z2, z3, z4, z5, z6, z7, z8, z9, z10, z11, z12, zl⟩ := acO_facts Vz.out.1
  simp only [acO, List.length_cons, List.length_nil, Nat.zero_add, Nat.reduceAdd] at z0 z1 z2 z3 z4 z5 z6 z7 z8 z9 z10 z11 z12 zl
  obtain ⟨n0, n1, n2, n3, n4, n5, n6, n7, n8, n9, n10, n11, n12, nl⟩ := acO_facts Vn.out.1
  simp only [acO, List.length_cons, List.length_nil, Nat.zero_add, Nat.reduceAdd] at n0 n1 n2 n3 n4 n5 n6 n7 n8 n9 n10 n11 n12 nl
  refine Txt.wp_region_mix (by kernel_rfl) (by kernel_rfl) (fun HB => ?_)
  repeat (first
    | (refine Txt.mix_p (by rfl) rfl rfl (fun K hK => ?_); go_big_quiet_op; refine hK _ ?_; clear hK K)
    | (refine Txt.mix_re (by rfl) (by decide +kernel) (by rfl) (by rfl) (by go_simp) HB (fun K hK => ?_); go_big_quiet_op; refine hK _ ?_; clear hK K)
    | (refine Txt.mix_rl (by rfl) (by decide +kernel) (by rfl) (by rfl) (by go_simp) HB (fun K hK => ?_); go_big_quiet_op; refine hK _ ?_; clear hK K)
    | (refine Txt.mix_pass (by rfl) (by rfl) ?_; simp only [List.set_cons_succ, List.set_cons_zero]))
  refine Txt.mix_c (by rfl) (by decide +kernel) HB ?_
  intro w20 hw1 K hK
  replace HB := HB.trans hw1
  clear hw1
  go_wp2_with fail
  refine (item_any 1 3 9 (-7) _).mono ?_
  rintro e w21 ⟨rfl, hb⟩
  refine hK _ _ ⟨hb, ?_⟩
  replace HB := HB.trans hb
  clear hK K hb
  repeat (first
    | (refine Txt.mix_p (by rfl) rfl rfl (fun K hK => ?_); go_big_quiet_op; refine hK _ ?_; clear hK K)
    | (refine Txt.mix_re (by rfl) (by decide +kernel) (by rfl) (by rfl) (by go_simp) HB (fun K hK => ?_); go_big_quiet_op; refine hK _ ?_; clear hK K)
    | (refine Txt.mix_rl (by rfl) (by decide +kernel) (by rfl) (by rfl) (by go_simp) HB (fun K hK => ?_); go_big_quiet_op; refine hK _ ?_; clear hK K)
    | (refine Txt.mix_pass (by rfl) (by rfl) ?_; simp only [List.set_cons_succ, List.set_cons_zero]))
  refine Txt.mix_c (by rfl) (by decide +kernel) HB ?_
  intro w22 hw1 K hK
  replace HB := HB.trans hw1
  clear hw1
  go_wp2_with fail
  refine (item_any 1 4 2 5 _).mono ?_
  rintro e w23 ⟨rfl, hb⟩
  refine hK _ _ ⟨hb, ?_⟩
  replace HB := HB.trans hb
  clear hK K hb
  repeat (first
    | (refine Txt.mix_p (by rfl) rfl rfl (fun K hK => ?_); go_big_quiet_op; refine hK _ ?_; clear hK K)
    | (refine Txt.mix_re (by rfl) (by decide +kernel) (by rfl) (by rfl) (by go_simp) HB (fun K hK => ?_); go_big_quiet_op; refine hK _ ?_; clear hK K)
    | (refine Txt.mix_rl (by rfl) (by decide +kernel) (by rfl) (by rfl) (by go_simp) HB (fun K hK => ?_); go_big_quiet_op; refine hK _ ?_; clear hK K)
    | (refine Txt.mix_pass (by rfl) (by rfl) ?_; simp only [List.set_cons_succ, List.set_cons_zero]))
  refine Txt.mix_m (fun g => .slice (some ⟨g, 0, none⟩) 3 3) (.cells #[.int .i64 (1), .int .i64 (1), .int .i64 (0)] 3) (by rfl) (by decide +kernel) (fun w1 => by go_simp) HB ?_
  intro ga w24 hb2 hg2 ho2
  replace HB := HB.trans hb2
  simp only [Act.put, List.setIfInBounds_toArray, List.set_cons_succ, List.set_cons_zero]
  have Ga := Lib.hid (rdI_blk (l := [1, 1, 0]) ho2 (by decide))
  have WGa : Hid (Txt.Bw w24 w24) := Lib.hid (Txt.Bw.refl _)
  clear hb2 hg2 ho2
  repeat (first
    | (refine Txt.mix_p (by rfl) rfl rfl (fun K hK => ?_); go_big_quiet_op; refine hK _ ?_; clear hK K)
    | (refine Txt.mix_re (by rfl) (by decide +kernel) (by rfl) (by rfl) (by go_simp) HB (fun K hK => ?_); go_big_quiet_op; refine hK _ ?_; clear hK K)
    | (refine Txt.mix_rl (by rfl) (by decide +kernel) (by rfl) (by rfl) (by go_simp) HB (fun K hK => ?_); go_big_quiet_op; refine hK _ ?_; clear hK K)
    | (refine Txt.mix_pass (by rfl) (by rfl) ?_; simp only [List.set_cons_succ, List.set_cons_zero]))
  refine Txt.mix_c (by rfl) (by decide +kernel) HB ?_
  intro w25 hw1 K hK
  have hga := Kd.C_below Ga.out hw1
  replace HB := HB.trans hw1
  clear hw1
  go_wp2_with fail
  have hb0 := HB.undrew
  refine (same_yes ⟨2, -2, -7, 5, ⟨1, 3, 9, -7⟩, ⟨1, 4, 2, 5⟩, [1, 1, 0]⟩ Az (some ⟨ga, 0, none⟩) cz 3 _ (Kd.C_below Vz.out.2.2 hb0) Vz.out.2.1 hga (by decide) (by decide)).mono ?_
  rintro e w26 ⟨rfl, hb⟩
  refine hK _ _ ⟨hb, ?_⟩
  replace HB := HB.trans hb
  clear hK K hb hga hb0
  repeat (first
    | (refine Txt.mix_p (by rfl) rfl rfl (fun K hK => ?_); go_big_quiet_op; refine hK _ ?_; clear hK K)
    | (refine Txt.mix_re (by rfl) (by decide +kernel) (by rfl) (by rfl) (by go_simp) HB (fun K hK => ?_); go_big_quiet_op; refine hK _ ?_; clear hK K)
    | (refine Txt.mix_rl (by rfl) (by decide +kernel) (by rfl) (by rfl) (by go_simp) HB (fun K hK => ?_); go_big_quiet_op; refine hK _ ?_; clear hK K)
    | (refine Txt.mix_pass (by rfl) (by rfl) ?_; simp only [List.set_cons_succ, List.set_cons_zero]))
  refine Txt.mix_c (by rfl) (by decide +kernel) HB ?_
  intro w27 hw1 K hK
  replace HB := HB.trans hw1
  clear hw1
  go_wp2_with fail
  refine (num_any _ _).mono ?_
  rintro e w' ⟨rfl, rfl⟩
  refine hK _ _ ⟨Txt.Bw.refl _, ?_⟩
  clear hK K
  repeat (first
    | (refine Txt.mix_p (by rfl) rfl rfl (fun K hK => ?_); go_big_quiet_op; refine hK _ ?_; clear hK K)
    | (refine Txt.mix_re (by rfl) (by decide +kernel) (by rfl) (by rfl) (by go_simp) HB (fun K hK => ?_); go_big_quiet_op; refine hK _ ?_; clear hK K)
    | (refine Txt.mix_rl (by rfl) (by decide +kernel) (by rfl) (by rfl) (by go_simp) HB (fun K hK => ?_); go_big_quiet_op; refine hK _ ?_; clear hK K)
    | (refine Txt.mix_pass (by rfl) (by rfl) ?_; simp only [List.set_cons_succ, List.set_cons_zero]))
  refine Txt.mix_c (by rfl) (by decide +kernel) HB ?_
  intro w29 hw1 K hK
  replace HB := HB.trans hw1
  clear hw1
  go_wp2_with fail
  refine (num_any _ _).mono ?_
  rintro e w' ⟨rfl, rfl⟩
  refine hK _ _ ⟨Txt.Bw.refl _, ?_⟩
  clear hK K
  repeat (first
    | (refine Txt.mix_p (by rfl) rfl rfl (fun K hK => ?_); go_big_quiet_op; refine hK _ ?_; clear hK K)
    | (refine Txt.mix_re (by rfl) (by decide +kernel) (by rfl) (by rfl) (by go_simp) HB (fun K hK => ?_); go_big_quiet_op; refine hK _ ?_; clear hK K)
    | (refine Txt.mix_rl (by rfl) (by decide +kernel) (by rfl) (by rfl) (by go_simp) HB (fun K hK => ?_); go_big_quiet_op; refine hK _ ?_; clear hK K)
    | (refine Txt.mix_pass (by rfl) (by rfl) ?_; simp only [List.set_cons_succ, List.set_cons_zero]))
  refine Txt.mix_c (by rfl) (by decide +kernel) HB ?_
  intro w31 hw1 K hK
  replace HB := HB.trans hw1
  clear hw1
  go_wp2_with fail
  refine (num_any _ _).mono ?_
  rintro e w' ⟨rfl, rfl⟩
  refine hK _ _ ⟨Txt.Bw.refl _, ?_⟩
  clear hK K
  repeat (first
    | (refine Txt.mix_p (by rfl) rfl rfl (fun K hK => ?_); go_big_quiet_op; refine hK _ ?_; clear hK K)
    | (refine Txt.mix_re (by rfl) (by decide +kernel) (by rfl) (by rfl) (by go_simp) HB (fun K hK => ?_); go_big_quiet_op; refine hK _ ?_; clear hK K)
    | (refine Txt.mix_rl (by rfl) (by decide +kernel) (by rfl) (by rfl) (by go_simp) HB (fun K hK => ?_); go_big_quiet_op; refine hK _ ?_; clear hK K)
    | (refine Txt.mix_pass (by rfl) (by rfl) ?_; simp only [List.set_cons_succ, List.set_cons_zero]))
  refine Txt.mix_c (by rfl) (by decide +kernel) HB ?_
  intro w33 hw1 K hK
  replace HB := HB.trans hw1
  clear hw1
  go_wp2_with fail
  refine (num_any _ _).mono ?_
  rintro e w' ⟨rfl, rfl⟩
  refine hK _ _ ⟨Txt.Bw.refl _, ?_⟩
  clear hK K
  repeat (first
    | (refine Txt.mix_p (by rfl) rfl rfl (fun K hK => ?_); go_big_quiet_op; refine hK _ ?_; clear hK K)
    | (refine Txt.mix_re (by rfl) (by decide +kernel) (by rfl) (by rfl) (by go_simp) HB (fun K hK => ?_); go_big_quiet_op; refine hK _ ?_; clear hK K)
    | (refine Txt.mix_rl (by rfl) (by decide +kernel) (by rfl) (by rfl) (by go_simp) HB (fun K hK => ?_); go_big_quiet_op; refine hK _ ?_; clear hK K)
    | (refine Txt.mix_pass (by rfl) (by rfl) ?_; simp only [List.set_cons_succ, List.set_cons_zero]))
  refine Txt.mix_m (fun g => .slice (some ⟨g, 0, none⟩) 3 3) (.cells #[.int .i64 (0), .int .i64 (0), .int .i64 (0)] 3) (by rfl) (by decide +kernel) (fun w1 => by go_simp) HB ?_
  intro gb w35 hb2 hg2 ho2
  replace HB := HB.trans hb2
  simp only [Act.put, List.setIfInBounds_toArray, List.set_cons_succ, List.set_cons_zero]
  have Gb := Lib.hid (rdI_blk (l := [0, 0, 0]) ho2 (by decide))
  have WGb : Hid (Txt.Bw w35 w35) := Lib.hid (Txt.Bw.refl _)
  clear hb2 hg2 ho2
  repeat (first
    | (refine Txt.mix_p (by rfl) rfl rfl (fun K hK => ?_); go_big_quiet_op; refine hK _ ?_; clear hK K)
    | (refine Txt.mix_re (by rfl) (by decide +kernel) (by rfl) (by rfl) (by go_simp) HB (fun K hK => ?_); go_big_quiet_op; refine hK _ ?_; clear hK K)
    | (refine Txt.mix_rl (by rfl) (by decide +kernel) (by rfl) (by rfl) (by go_simp) HB (fun K hK => ?_); go_big_quiet_op; refine hK _ ?_; clear hK K)
    | (refine Txt.mix_pass (by rfl) (by rfl) ?_; simp only [List.set_cons_succ, List.set_cons_zero]))
  refine Txt.mix_c (by rfl) (by decide +kernel) HB ?_
  intro w36 hw1 K hK
  have hga := Kd.C_below Gb.out hw1
  replace HB := HB.trans hw1
  clear hw1
  go_wp2_with fail
  have hb0 := HB.undrew
  refine (same_yes ⟨0, 0, 0, 0, ⟨0, 0, 0, 0⟩, ⟨0, 0, 0, 0⟩, [0, 0, 0]⟩ An (some ⟨gb, 0, none⟩) cn 3 _ (Kd.C_below Vn.out.2.2 hb0) Vn.out.2.1 hga (by decide) (by decide)).mono ?_
  rintro e w37 ⟨rfl, hb⟩
  refine hK _ _ ⟨hb, ?_⟩
  replace HB := HB.trans hb
  clear hK K hb hga hb0
  repeat (first
    | (refine Txt.mix_p (by rfl) rfl rfl (fun K hK => ?_); go_big_quiet_op; refine hK _ ?_; clear hK K)
    | (refine Txt.mix_re (by rfl) (by decide +kernel) (by rfl) (by rfl) (by go_simp) HB (fun K hK => ?_); go_big_quiet_op; refine hK _ ?_; clear hK K)
    | (refine Txt.mix_rl (by rfl) (by decide +kernel) (by rfl) (by rfl) (by go_simp) HB (fun K hK => ?_); go_big_quiet_op; refine hK _ ?_; clear hK K)
    | (refine Txt.mix_pass (by rfl) (by rfl) ?_; simp only [List.set_cons_succ, List.set_cons_zero]))
  refine Txt.mix_c (by rfl) (by decide +kernel) HB ?_
  intro w38 hw1 K hK
  replace HB := HB.trans hw1
  clear hw1
  go_wp2_with fail
  refine (num_any _ _).mono ?_
  rintro e w' ⟨rfl, rfl⟩
  refine hK _ _ ⟨Txt.Bw.refl _, ?_⟩
  clear hK K
  repeat (first
    | (refine Txt.mix_p (by rfl) rfl rfl (fun K hK => ?_); go_big_quiet_op; refine hK _ ?_; clear hK K)
    | (refine Txt.mix_re (by rfl) (by decide +kernel) (by rfl) (by rfl) (by go_simp) HB (fun K hK => ?_); go_big_quiet_op; refine hK _ ?_; clear hK K)
    | (refine Txt.mix_rl (by rfl) (by decide +kernel) (by rfl) (by rfl) (by go_simp) HB (fun K hK => ?_); go_big_quiet_op; refine hK _ ?_; clear hK K)
    | (refine Txt.mix_pass (by rfl) (by rfl) ?_; simp only [List.set_cons_succ, List.set_cons_zero]))
  refine Txt.mix_c (by rfl) (by decide +kernel) HB ?_
  intro w40 hw1 K hK
  replace HB := HB.trans hw1
  clear hw1
  go_wp2_with fail
  refine (num_any _ _).mono ?_
  rintro e w' ⟨rfl, rfl⟩
  refine hK _ _ ⟨Txt.Bw.refl _, ?_⟩
  clear hK K
  repeat (first
    | (refine Txt.mix_p (by rfl) rfl rfl (fun K hK => ?_); go_big_quiet_op; refine hK _ ?_; clear hK K)
    | (refine Txt.mix_re (by rfl) (by decide +kernel) (by rfl) (by rfl) (by go_simp) HB (fun K hK => ?_); go_big_quiet_op; refine hK _ ?_; clear hK K)
    | (refine Txt.mix_rl (by rfl) (by decide +kernel) (by rfl) (by rfl) (by go_simp) HB (fun K hK => ?_); go_big_quiet_op; refine hK _ ?_; clear hK K)
    | (refine Txt.mix_pass (by rfl) (by rfl) ?_; simp only [List.set_cons_succ, List.set_cons_zero]))
  refine Txt.mix_c (by rfl) (by decide +kernel) HB ?_
  intro w42 hw1 K hK
  replace HB := HB.trans hw1
  clear hw1
  go_wp2_with fail
  refine (num_any _ _).mono ?_
  rintro e w' ⟨rfl, rfl⟩
  refine hK _ _ ⟨Txt.Bw.refl _, ?_⟩
  clear hK K
  repeat (first
    | (refine Txt.mix_p (by rfl) rfl rfl (fun K hK => ?_); go_big_quiet_op; refine hK _ ?_; clear hK K)
    | (refine Txt.mix_re (by rfl) (by decide +kernel) (by rfl) (by rfl) (by go_simp) HB (fun K hK => ?_); go_big_quiet_op; refine hK _ ?_; clear hK K)
    | (refine Txt.mix_rl (by rfl) (by decide +kernel) (by rfl) (by rfl) (by go_simp) HB (fun K hK => ?_); go_big_quiet_op; refine hK _ ?_; clear hK K)
    | (refine Txt.mix_pass (by rfl) (by rfl) ?_; simp only [List.set_cons_succ, List.set_cons_zero]))
  refine Txt.mix_c (by rfl) (by decide +kernel) HB ?_
  intro w44 hw1 K hK
  replace HB := HB.trans hw1
  clear hw1
  go_wp2_with fail
  have hb0 := HB.undrew
  have hm := may_any ⟨2, -2, -7, 5, ⟨1, 3, 9, -7⟩, ⟨1, 4, 2, 5⟩, [1, 1, 0]⟩ [0, 5] Az cz (some ⟨bb, 0, none⟩) 2 _ (Kd.C_below Vz.out.2.2 hb0) (Kd.C_below RB.out hb0) (by decide)
  rw [show amay ⟨2, -2, -7, 5, ⟨1, 3, 9, -7⟩, ⟨1, 4, 2, 5⟩, [1, 1, 0]⟩ [0, 5] = true from by kernel_rfl] at hm
  refine hm.mono ?_
  rintro e w45 ⟨rfl, hb⟩
  refine hK _ _ ⟨hb, ?_⟩
  replace HB := HB.trans hb
  clear hK K hb hb0 hm
  repeat (first
    | (refine Txt.mix_p (by rfl) rfl rfl (fun K hK => ?_); go_big_quiet_op; refine hK _ ?_; clear hK K)
    | (refine Txt.mix_re (by rfl) (by decide +kernel) (by rfl) (by rfl) (by go_simp) HB (fun K hK => ?_); go_big_quiet_op; refine hK _ ?_; clear hK K)
    | (refine Txt.mix_rl (by rfl) (by decide +kernel) (by rfl) (by rfl) (by go_simp) HB (fun K hK => ?_); go_big_quiet_op; refine hK _ ?_; clear hK K)
    | (refine Txt.mix_pass (by rfl) (by rfl) ?_; simp only [List.set_cons_succ, List.set_cons_zero]))
  refine Txt.mix_c (by rfl) (by decide +kernel) HB ?_
  intro w46 hw1 K hK
  replace HB := HB.trans hw1
  clear hw1
  go_wp2_with fail
  have hb0 := HB.undrew
  have hm := may_any ⟨2, -2, -7, 5, ⟨1, 3, 9, -7⟩, ⟨1, 4, 2, 5⟩, [1, 1, 0]⟩ [] Az cz none 0 _ (Kd.C_below Vz.out.2.2 hb0) (rdI_nil _) (by decide)
  rw [show amay ⟨2, -2, -7, 5, ⟨1, 3, 9, -7⟩, ⟨1, 4, 2, 5⟩, [1, 1, 0]⟩ [] = false from by kernel_rfl] at hm
  refine hm.mono ?_
  rintro e w47 ⟨rfl, hb⟩
  refine hK _ _ ⟨hb, ?_⟩
  replace HB := HB.trans hb
  clear hK K hb hb0 hm
  repeat (first
    | (refine Txt.mix_p (by rfl) rfl rfl (fun K hK => ?_); go_big_quiet_op; refine hK _ ?_; clear hK K)
    | (refine Txt.mix_re (by rfl) (by decide +kernel) (by rfl) (by rfl) (by go_simp) HB (fun K hK => ?_); go_big_quiet_op; refine hK _ ?_; clear hK K)
    | (refine Txt.mix_rl (by rfl) (by decide +kernel) (by rfl) (by rfl) (by go_simp) HB (fun K hK => ?_); go_big_quiet_op; refine hK _ ?_; clear hK K)
    | (refine Txt.mix_pass (by rfl) (by rfl) ?_; simp only [List.set_cons_succ, List.set_cons_zero]))
  refine Txt.mix_nil ?_
  go_wp2_with fail
  go_ret
  exact ⟨rfl, HW.out.trans (HB.undrew.mono HW.out.size)⟩
end Go.Proofs.Ytggaefklcpbfnaa.My
