/- AccForms returns true: items, bounds, aggregates that are none. No conditions. -/
import Derived.Test.YtggaefklcpbfnaaAccFormsP
namespace Go.Proofs.Ytggaefklcpbfnaa
open Go.RowKit PAccs Go.Proofs.YtggaefklcpbfnaaW.PrintWords
set_option linter.unusedSimpArgs false

set_option maxHeartbeats 8000000 in
set_option maxRecDepth 100000 in
theorem forms_G0 (t u : Int) (w : World) (hg : 0 ≤ (IntKind.u64.wrap t).tmod 18 ∧ (IntKind.u64.wrap t).tmod 18 < 3) : Calls Try.prog 11 #[.int .i64 t, .int .i64 u] w fun e w' => e = .returned (.bool true) ∧ Below w.heap.size w w' := by
  have HG := Lib.hid hg
  clear hg
  obtain ⟨d1, d2⟩ : 0 ≤ bits .and .i64 u 1023 ∧ bits .and .i64 u 1023 ≤ 1023 := and_bound u 1023 (by decide)
  go_enter Try.func11, Try.ntmps11
  go_wp2_with fail
  refine (awake_any _).mono ?_
  rintro e wa ⟨rfl, hb⟩
  have HW := Lib.hid hb
  clear hb
  obtain ⟨d, hd⟩ : ∃ d, 1 + bits .and .i64 u 1023 = d := ⟨_, rfl⟩
  have hd1 : 1 ≤ d := by omega
  have hd2 : d ≤ 1024 := by omega
  have hb : Below wa.heap.size wa (wa.alloc (.cells #[.int .i64 0, .int .i64 5] 3)) := (Below.refl wa.heap.size wa).alloc (Nat.le_refl _) _
  have RB := Lib.hid (rdI_blk (l := [0, 5]) (heap_alloc_new wa (.cells #[.int .i64 0, .int .i64 5] 3)) (by decide))
  replace HW := Lib.hid (HW.out.trans (hb.mono HW.out.size))
  clear hb d1 d2
  go_wp2_with fail
  generalize wa.alloc (.cells #[.int .i64 0, .int .i64 5] 3) = w0 at *
  obtain ⟨bb, hbb⟩ : ∃ bb, wa.heap.size = bb := ⟨_, rfl⟩
  rw [hbb] at RB ⊢
  clear hbb
  refine (item_any 1 4 2 3 _).mono ?_
  rintro e w1 ⟨rfl, hb⟩
  replace HW := Lib.hid (HW.out.trans (hb.mono HW.out.size))
  replace RB := Lib.hid (Kd.C_below RB.out hb)
  clear hb
  go_wp2_with fail
  refine (item_any 1 5 3 9 _).mono ?_
  rintro e w2 ⟨rfl, hb⟩
  replace HW := Lib.hid (HW.out.trans (hb.mono HW.out.size))
  replace RB := Lib.hid (Kd.C_below RB.out hb)
  clear hb
  have hsz : (w2.alloc (itO ⟨1, 4, 2, 3⟩)).heap.size = w2.heap.size + 1 := by simp
  have VI : Hid (IVar ((w2.alloc (itO ⟨1, 4, 2, 3⟩)).alloc (itO ⟨1, 5, 3, 9⟩)) w2.heap.size ⟨1, 4, 2, 3⟩) := Lib.hid (blk_below (heap_alloc_new w2 (itO ⟨1, 4, 2, 3⟩)) ((Below.refl _ _).alloc (Nat.le_refl _) _))
  have vj := heap_alloc_new (w2.alloc (itO ⟨1, 4, 2, 3⟩)) (itO ⟨1, 5, 3, 9⟩)
  rw [hsz] at vj
  have VJ : Hid (IVar ((w2.alloc (itO ⟨1, 4, 2, 3⟩)).alloc (itO ⟨1, 5, 3, 9⟩)) (w2.heap.size + 1) ⟨1, 5, 3, 9⟩) := Lib.hid vj
  have hb : Below w2.heap.size w2 ((w2.alloc (itO ⟨1, 4, 2, 3⟩)).alloc (itO ⟨1, 5, 3, 9⟩)) := ((Below.refl _ _).alloc (Nat.le_refl _) _).alloc (by simp) _
  clear hsz vj
  replace HW := Lib.hid (HW.out.trans (hb.mono HW.out.size))
  replace RB := Lib.hid (Kd.C_below RB.out hb)
  clear hb
  obtain ⟨i0, i1, i2, i3, il⟩ := itO_facts VI.out
  obtain ⟨j0, j1, j2, j3, jl⟩ := itO_facts VJ.out
  simp only [itO] at i0 i1 i2 i3 il j0 j1 j2 j3 jl
  go_wp2_with fail
  clear i0 i1 i2 i3 il j0 j1 j2 j3 jl
  show Calls _ _ _ ((w2.alloc (itO ⟨1, 4, 2, 3⟩)).alloc (itO ⟨1, 5, 3, 9⟩)) _
  generalize (w2.alloc (itO ⟨1, 4, 2, 3⟩)).alloc (itO ⟨1, 5, 3, 9⟩) = w3 at *
  obtain ⟨bj, hbj⟩ : ∃ b, w2.heap.size + 1 = b := ⟨_, rfl⟩
  rw [hbj] at VJ ⊢
  clear hbj
  generalize w2.heap.size = bi at *
  refine (one_any ⟨1, 4, 2, 3⟩ [0, 5] (some ⟨bb, 0, none⟩) 2 _ RB.out (by decide)).mono ?_
  rintro e w4 ⟨v, rfl, how, hb⟩
  replace HW := Lib.hid (HW.out.trans (hb.mono HW.out.size))
  replace RB := Lib.hid (Kd.C_below RB.out hb)
  replace VI := Lib.hid (VI.out.below hb)
  replace VJ := Lib.hid (VJ.out.below hb)
  clear hb
  rw [show oneRes ⟨1, 4, 2, 3⟩ [0, 5] = ((⟨1, 3, 3, 3, ⟨1, 4, 2, 3⟩, ⟨1, 4, 2, 3⟩, [0, 1, 0]⟩ : S28), (0 : Int)) from by kernel_rfl] at how ⊢
  obtain ⟨Ap, cp, rfl, hl, hr⟩ := how.reads
  simp only [acV, List.length_cons, List.length_nil, Nat.zero_add, Nat.reduceAdd]
  clear how
  have Vp := Lib.hid (AVar.new (w := w4) (a := ⟨1, 3, 3, 3, ⟨1, 4, 2, 3⟩, ⟨1, 4, 2, 3⟩, [0, 1, 0]⟩) hl hr)
  have hb : Below w4.heap.size w4 (w4.alloc (acO ⟨1, 3, 3, 3, ⟨1, 4, 2, 3⟩, ⟨1, 4, 2, 3⟩, [0, 1, 0]⟩ (.slice Ap 3 cp))) := (Below.refl _ _).alloc (Nat.le_refl _) _
  clear hl hr
  replace HW := Lib.hid (HW.out.trans (hb.mono HW.out.size))
  replace RB := Lib.hid (Kd.C_below RB.out hb)
  replace VI := Lib.hid (VI.out.below hb)
  replace VJ := Lib.hid (VJ.out.below hb)
  clear hb
  obtain ⟨j0, j1, j2, j3, jl⟩ := itO_facts VJ.out
  simp only [acO, List.length_cons, List.length_nil, Nat.zero_add, Nat.reduceAdd] at j0 j1 j2 j3 jl
  go_wp2_with fail
  show Calls _ _ _ (w4.alloc (acO ⟨1, 3, 3, 3, ⟨1, 4, 2, 3⟩, ⟨1, 4, 2, 3⟩, [0, 1, 0]⟩ (.slice Ap 3 cp))) _
  change Hid (AVar (w4.alloc (acO ⟨1, 3, 3, 3, ⟨1, 4, 2, 3⟩, ⟨1, 4, 2, 3⟩, [0, 1, 0]⟩ (.slice Ap 3 cp))) _ _ _ _) at Vp
  generalize w4.alloc (acO ⟨1, 3, 3, 3, ⟨1, 4, 2, 3⟩, ⟨1, 4, 2, 3⟩, [0, 1, 0]⟩ (.slice Ap 3 cp)) = w5 at *
  generalize w4.heap.size = bkp at *
  clear j0 j1 j2 j3 jl
  refine (one_any ⟨1, 5, 3, 9⟩ [0, 5] (some ⟨bb, 0, none⟩) 2 _ RB.out (by decide)).mono ?_
  rintro e w6 ⟨v, rfl, how, hb⟩
  replace HW := Lib.hid (HW.out.trans (hb.mono HW.out.size))
  replace RB := Lib.hid (Kd.C_below RB.out hb)
  replace VI := Lib.hid (VI.out.below hb)
  replace VJ := Lib.hid (VJ.out.below hb)
  replace Vp := Lib.hid (Vp.out.below hb)
  clear hb
  rw [show oneRes ⟨1, 5, 3, 9⟩ [0, 5] = ((⟨1, 9, 9, 9, ⟨1, 5, 3, 9⟩, ⟨1, 5, 3, 9⟩, [0, 0, 1]⟩ : S28), (0 : Int)) from by kernel_rfl] at how ⊢
  obtain ⟨Aq, cq, rfl, hl, hr⟩ := how.reads
  simp only [acV, List.length_cons, List.length_nil, Nat.zero_add, Nat.reduceAdd]
  clear how
  have Vq := Lib.hid (AVar.new (w := w6) (a := ⟨1, 9, 9, 9, ⟨1, 5, 3, 9⟩, ⟨1, 5, 3, 9⟩, [0, 0, 1]⟩) hl hr)
  have hb : Below w6.heap.size w6 (w6.alloc (acO ⟨1, 9, 9, 9, ⟨1, 5, 3, 9⟩, ⟨1, 5, 3, 9⟩, [0, 0, 1]⟩ (.slice Aq 3 cq))) := (Below.refl _ _).alloc (Nat.le_refl _) _
  clear hl hr
  replace HW := Lib.hid (HW.out.trans (hb.mono HW.out.size))
  replace RB := Lib.hid (Kd.C_below RB.out hb)
  replace VI := Lib.hid (VI.out.below hb)
  replace VJ := Lib.hid (VJ.out.below hb)
  replace Vp := Lib.hid (Vp.out.below hb)
  clear hb
  change Hid (AVar (w6.alloc (acO ⟨1, 9, 9, 9, ⟨1, 5, 3, 9⟩, ⟨1, 5, 3, 9⟩, [0, 0, 1]⟩ (.slice Aq 3 cq))) _ _ _ _) at Vq
  obtain ⟨p0, p1, p2, p3, p4, p5, p6, p7, p8, p9, p10, p11, p12, pl⟩ := acO_facts Vp.out.1
  simp only [acO, List.length_cons, List.length_nil, Nat.zero_add, Nat.reduceAdd] at p0 p1 p2 p3 p4 p5 p6 p7 p8 p9 p10 p11 p12 pl
  obtain ⟨q0, q1, q2, q3, q4, q5, q6, q7, q8, q9, q10, q11, q12, ql⟩ := acO_facts Vq.out.1
  simp only [acO, List.length_cons, List.length_nil, Nat.zero_add, Nat.reduceAdd] at q0 q1 q2 q3 q4 q5 q6 q7 q8 q9 q10 q11 q12 ql
  go_wp2_with fail
  show Calls _ _ _ ((w6.alloc (acO ⟨1, 9, 9, 9, ⟨1, 5, 3, 9⟩, ⟨1, 5, 3, 9⟩, [0, 0, 1]⟩ (.slice Aq 3 cq))).alloc (.cells #[.int .i64 (1), .int .i64 (3), .int .i64 (3), .int .i64 (3), .int .i64 (1), .int .i64 (4), .int .i64 (2), .int .i64 (3), .int .i64 (1), .int .i64 (4), .int .i64 (2), .int .i64 (3), .slice Ap 3 cp, .int .i64 (1), .int .i64 (9), .int .i64 (9), .int .i64 (9), .int .i64 (1), .int .i64 (5), .int .i64 (3), .int .i64 (9), .int .i64 (1), .int .i64 (5), .int .i64 (3), .int .i64 (9), .slice Aq 3 cq] 28)) _
  clear p0 p1 p2 p3 p4 p5 p6 p7 p8 p9 p10 p11 p12 pl q0 q1 q2 q3 q4 q5 q6 q7 q8 q9 q10 q11 q12 ql
  have hsz : (w6.alloc (acO ⟨1, 9, 9, 9, ⟨1, 5, 3, 9⟩, ⟨1, 5, 3, 9⟩, [0, 0, 1]⟩ (.slice Aq 3 cq))).heap.size = w6.heap.size + 1 := by simp
  have hp := heap_alloc_new (w6.alloc (acO ⟨1, 9, 9, 9, ⟨1, 5, 3, 9⟩, ⟨1, 5, 3, 9⟩, [0, 0, 1]⟩ (.slice Aq 3 cq))) (.cells #[.int .i64 (1), .int .i64 (3), .int .i64 (3), .int .i64 (3), .int .i64 (1), .int .i64 (4), .int .i64 (2), .int .i64 (3), .int .i64 (1), .int .i64 (4), .int .i64 (2), .int .i64 (3), .slice Ap 3 cp, .int .i64 (1), .int .i64 (9), .int .i64 (9), .int .i64 (9), .int .i64 (1), .int .i64 (5), .int .i64 (3), .int .i64 (9), .int .i64 (1), .int .i64 (5), .int .i64 (3), .int .i64 (9), .slice Aq 3 cq] 28)
  have hb : Below (w6.alloc (acO ⟨1, 9, 9, 9, ⟨1, 5, 3, 9⟩, ⟨1, 5, 3, 9⟩, [0, 0, 1]⟩ (.slice Aq 3 cq))).heap.size (w6.alloc (acO ⟨1, 9, 9, 9, ⟨1, 5, 3, 9⟩, ⟨1, 5, 3, 9⟩, [0, 0, 1]⟩ (.slice Aq 3 cq))) ((w6.alloc (acO ⟨1, 9, 9, 9, ⟨1, 5, 3, 9⟩, ⟨1, 5, 3, 9⟩, [0, 0, 1]⟩ (.slice Aq 3 cq))).alloc (.cells #[.int .i64 (1), .int .i64 (3), .int .i64 (3), .int .i64 (3), .int .i64 (1), .int .i64 (4), .int .i64 (2), .int .i64 (3), .int .i64 (1), .int .i64 (4), .int .i64 (2), .int .i64 (3), .slice Ap 3 cp, .int .i64 (1), .int .i64 (9), .int .i64 (9), .int .i64 (9), .int .i64 (1), .int .i64 (5), .int .i64 (3), .int .i64 (9), .int .i64 (1), .int .i64 (5), .int .i64 (3), .int .i64 (9), .slice Aq 3 cq] 28)) := (Below.refl _ _).alloc (Nat.le_refl _) _
  rw [hsz] at hp
  clear hsz
  generalize w6.alloc (acO ⟨1, 9, 9, 9, ⟨1, 5, 3, 9⟩, ⟨1, 5, 3, 9⟩, [0, 0, 1]⟩ (.slice Aq 3 cq)) = w7 at *
  replace HW := Lib.hid (HW.out.trans (hb.mono HW.out.size))
  replace RB := Lib.hid (Kd.C_below RB.out hb)
  replace VI := Lib.hid (VI.out.below hb)
  replace VJ := Lib.hid (VJ.out.below hb)
  replace Vp := Lib.hid (Vp.out.below hb)
  replace Vq := Lib.hid (Vq.out.below hb)
  clear hb
  generalize w7.alloc (.cells #[.int .i64 (1), .int .i64 (3), .int .i64 (3), .int .i64 (3), .int .i64 (1), .int .i64 (4), .int .i64 (2), .int .i64 (3), .int .i64 (1), .int .i64 (4), .int .i64 (2), .int .i64 (3), .slice Ap 3 cp, .int .i64 (1), .int .i64 (9), .int .i64 (9), .int .i64 (9), .int .i64 (1), .int .i64 (5), .int .i64 (3), .int .i64 (9), .int .i64 (1), .int .i64 (5), .int .i64 (3), .int .i64 (9), .slice Aq 3 cq] 28) = wB at *
  obtain ⟨pb, hpb⟩ : ∃ pb, w6.heap.size + 1 = pb := ⟨_, rfl⟩
  rw [hpb] at hp ⊢
  clear hpb
  generalize w6.heap.size = bkq at *
  refine (join_any [0, 5] [⟨1, 3, 3, 3, ⟨1, 4, 2, 3⟩, ⟨1, 4, 2, 3⟩, [0, 1, 0]⟩, ⟨1, 9, 9, 9, ⟨1, 5, 3, 9⟩, ⟨1, 5, 3, 9⟩, [0, 0, 1]⟩] (some ⟨bb, 0, none⟩) 2 (some ⟨pb, 0, none⟩) 2 _ RB.out (by decide) (rdA_two (x := ⟨1, 3, 3, 3, ⟨1, 4, 2, 3⟩, ⟨1, 4, 2, 3⟩, [0, 1, 0]⟩) (y := ⟨1, 9, 9, 9, ⟨1, 5, 3, 9⟩, ⟨1, 5, 3, 9⟩, [0, 0, 1]⟩) hp Vp.out.2.1 Vp.out.2.2 Vq.out.2.1 Vq.out.2.2) (by decide)).mono ?_
  rintro e w8 ⟨v, rfl, how, hb⟩
  clear hp Vq VJ
  rw [show joinRes [0, 5] [⟨1, 3, 3, 3, ⟨1, 4, 2, 3⟩, ⟨1, 4, 2, 3⟩, [0, 1, 0]⟩, ⟨1, 9, 9, 9, ⟨1, 5, 3, 9⟩, ⟨1, 5, 3, 9⟩, [0, 0, 1]⟩] = ((⟨2, 12, 3, 9, ⟨1, 4, 2, 3⟩, ⟨1, 5, 3, 9⟩, [0, 1, 1]⟩ : S28), (0 : Int)) from by kernel_rfl] at how ⊢
  obtain ⟨hbk, ca, rfl, _, _⟩ := how.form (by decide)
  simp only [acV, List.length_cons, List.length_nil, Nat.zero_add, Nat.reduceAdd]
  have hal : Below w8.heap.size w8 (w8.alloc (acO ⟨2, 12, 3, 9, ⟨1, 4, 2, 3⟩, ⟨1, 5, 3, 9⟩, [0, 1, 1]⟩ (.slice (some ⟨hbk, 0, none⟩) 3 ca))) := (Below.refl _ _).alloc (Nat.le_refl _) _
  have HOW : Hid (Own (w8.alloc (acO ⟨2, 12, 3, 9, ⟨1, 4, 2, 3⟩, ⟨1, 5, 3, 9⟩, [0, 1, 1]⟩ (.slice (some ⟨hbk, 0, none⟩) 3 ca))) wB.heap.size (.slice (some ⟨hbk, 0, none⟩) 3 ca) [0, 1, 1]) := Lib.hid (Own.below how hal)
  have VA : Hid ((w8.alloc (acO ⟨2, 12, 3, 9, ⟨1, 4, 2, 3⟩, ⟨1, 5, 3, 9⟩, [0, 1, 1]⟩ (.slice (some ⟨hbk, 0, none⟩) 3 ca))).heap[w8.heap.size]? = some (acO ⟨2, 12, 3, 9, ⟨1, 4, 2, 3⟩, ⟨1, 5, 3, 9⟩, [0, 1, 1]⟩ (.slice (some ⟨hbk, 0, none⟩) 3 ca))) := Lib.hid (heap_alloc_new w8 _)
  have HX := Lib.hid (hb.trans (hal.mono hb.size))
  have HAB := Lib.hid hb.size
  clear hb how hal
  go_wp2_with fail
  show Calls _ _ _ (w8.alloc (acO ⟨2, 12, 3, 9, ⟨1, 4, 2, 3⟩, ⟨1, 5, 3, 9⟩, [0, 1, 1]⟩ (.slice (some ⟨hbk, 0, none⟩) 3 ca))) _
  generalize w8.alloc (acO ⟨2, 12, 3, 9, ⟨1, 4, 2, 3⟩, ⟨1, 5, 3, 9⟩, [0, 1, 1]⟩ (.slice (some ⟨hbk, 0, none⟩) 3 ca)) = wX at *
  generalize w8.heap.size = ab at *
  refine (num_any _ _).mono ?_
  rintro e w' ⟨rfl, rfl⟩
  go_wp2_with fail
  refine (num_any _ _).mono ?_
  rintro e w' ⟨rfl, rfl⟩
  go_wp2_with fail
  refine (num_any _ _).mono ?_
  rintro e w' ⟨rfl, rfl⟩
  obtain ⟨a0, a1, a2, a3, a4, a5, a6, a7, a8, a9, a10, a11, a12, al⟩ := acO_facts VA.out
  go_wp2_with fail
  obtain ⟨A0, c0, e0, hl0, hr0⟩ := HOW.out.reads
  injection e0 with e0 _ e1
  subst e0 e1
  have hm := may_any ⟨2, 12, 3, 9, ⟨1, 4, 2, 3⟩, ⟨1, 5, 3, 9⟩, [0, 1, 1]⟩ [0, 5] (some ⟨hbk, 0, none⟩) ca (some ⟨bb, 0, none⟩) 2 _ hr0 (Kd.C_below RB.out HX.out) (by decide)
  rw [show amay ⟨2, 12, 3, 9, ⟨1, 4, 2, 3⟩, ⟨1, 5, 3, 9⟩, [0, 1, 1]⟩ [0, 5] = true from by kernel_rfl] at hm
  refine hm.mono ?_
  rintro e wY ⟨rfl, hb⟩
  replace HOW := Lib.hid (HOW.out.below hb)
  replace VA := Lib.hid (blk_below VA.out hb)
  replace HX := Lib.hid (HX.out.trans (hb.mono HX.out.size))
  clear hb hm hl0 hr0 a0 a1 a2 a3 a4 a5 a6 a7 a8 a9 a10 a11 a12 al
  obtain ⟨a0, a1, a2, a3, a4, a5, a6, a7, a8, a9, a10, a11, a12, al⟩ := acO_facts VA.out
  obtain ⟨n, hn⟩ : ∃ n, (IntKind.u64.wrap t).tmod 18 = n := ⟨_, rfl⟩
  have hn0 : 0 ≤ n ∧ n < 3 := by
    rw [← hn]
    exact HG.out
  have hne : hbk ≠ ab := fun e => by
    obtain ⟨cur, hc⟩ := row_blk HOW.out
    rw [e, VA.out] at hc
    unfold acO at hc
    injection hc with hc
    injection hc with _ ht
    exact absurd ht (by decide)
  have hfa := fun j => blk_free VA.out j
  obtain ⟨hn1, hn2⟩ := hn0
  obtain rfl | rfl | rfl : n = 0 ∨ n = 1 ∨ n = 2 := by omega
  · have HBAD := Lib.hid (frm_bad hd1 0)
    have hbk2 := blk_set VA.out 0 (.int .i64 (2 + d))
    simp only [List.setIfInBounds_toArray, List.set_cons_zero, List.set_cons_succ] at hbk2
    have hch := (Chg.refl (fun k => k = ab) wY).setCell (p := ⟨ab, 0, none⟩) (.inl rfl) (.int .i64 (2 + d))
    have hown := HOW.out.keep hch (fun k hk e => hne (by
      have e1 : hbk = k := by simpa [Value.ownBlock] using hk
      rw [e1, e]))
    obtain ⟨A9, c9, e9, hl9, hr9⟩ := hown.reads
    injection e9 with e9 _ e8
    subst e9 e8
    have hxm := Chg.base HX.out hch HX.out.size (fun k hk => by have := HAB.out; omega)
    have VX : Hid ((wY.setCell ⟨ab, 0, none⟩ (.int .i64 (2 + d))).heap[ab]? = some (acO (frm d 0) (.slice (some ⟨hbk, 0, none⟩) 3 ca))) := Lib.hid hbk2
    have RX : Hid (RdI (wY.setCell ⟨ab, 0, none⟩ (.int .i64 (2 + d))) (some ⟨hbk, 0, none⟩) (frm d 0).f6) := Lib.hid hr9
    have HLX : Hid ((frm d 0).f6.length ≤ ca) := Lib.hid hl9
    have HXM := Lib.hid hxm
    clear hbk2 hch hown hl9 hr9 hxm
    go_wp2_with fail
    show Calls _ _ _ ((wY.setCell ⟨ab, 0, none⟩ (.int .i64 (2 + d))).alloc (acO (frm d 0) (.slice (some ⟨hbk, 0, none⟩) 3 ca))) _
    rw [show wY.heap.size = (wY.setCell ⟨ab, 0, none⟩ (.int .i64 (2 + d))).heap.size by simp [World.setCell]]
    clear a0 a1 a2 a3 a4 a5 a6 a7 a8 a9 a10 a11 a12 al hfa HOW VA HX
    generalize (wY.setCell ⟨ab, 0, none⟩ (.int .i64 (2 + d))) = wM at *
    obtain ⟨AX, hAX⟩ : ∃ A, (some ⟨hbk, 0, none⟩ : Option Addr) = A := ⟨_, rfl⟩
    rw [hAX] at VX RX ⊢
    clear hAX
    generalize ca = cX at *
    have hp := heap_alloc_new wM (acO (frm d 0) (.slice AX 3 cX))
    have hb : Below wM.heap.size wM (wM.alloc (acO (frm d 0) (.slice AX 3 cX))) := (Below.refl _ _).alloc (Nat.le_refl _) _
    have hj := join_any [0, 5] [frm d 0] (some ⟨bb, 0, none⟩) 2 (some ⟨wM.heap.size, 0, none⟩) 1 (wM.alloc (acO (frm d 0) (.slice AX 3 cX))) (Kd.C_below RB.out (HXM.out.trans (hb.mono HXM.out.size))) (by decide) (rdA_one (x := frm d 0) hp HLX.out (Kd.C_below RX.out hb)) (by simp)
    rw [join_bad HBAD.out] at hj
    refine hj.mono ?_
    rintro e x1 ⟨v1, rfl, how, hb1⟩
    obtain ⟨A1, c1, rfl, _, _⟩ := how.reads
    have HM := Lib.hid (hb.trans (hb1.mono hb.size))
    clear hp hb hj how hb1
    have hb1 : Below x1.heap.size x1 (x1.alloc (acO z28 (.slice A1 0 c1))) := (Below.refl _ _).alloc (Nat.le_refl _) _
    have hb2 : Below x1.heap.size x1 ((x1.alloc (acO z28 (.slice A1 0 c1))).alloc (.cells #[.int .i64 5, .int .i64 5] 3)) := hb1.alloc hb1.size _
    have hb3 : Below x1.heap.size x1 (((x1.alloc (acO z28 (.slice A1 0 c1))).alloc (.cells #[.int .i64 5, .int .i64 5] 3)).alloc (acO ⟨1, 3, 3, 3, ⟨1, 4, 2, 3⟩, ⟨1, 4, 2, 3⟩, [0, 1, 0]⟩ (.slice Ap 3 cp))) := hb2.alloc hb2.size _
    have vp2 := (Vp.out.below (HXM.out.trans (HM.out.mono HXM.out.size))).below hb2
    obtain ⟨a0, a1, a2, a3, a4, a5, a6, a7, a8, a9, a10, a11, a12, al⟩ := acO_facts vp2.1
    simp only [acO, z28, z26, List.length_cons, List.length_nil, Nat.zero_add, Nat.reduceAdd] at a0 a1 a2 a3 a4 a5 a6 a7 a8 a9 a10 a11 a12 al
    simp only [acV, z28, z26, List.length_nil]
    go_wp2_with fail
    clear a0 a1 a2 a3 a4 a5 a6 a7 a8 a9 a10 a11 a12 al
    show Calls _ _ _ (((x1.alloc (acO z28 (.slice A1 0 c1))).alloc (.cells #[.int .i64 5, .int .i64 5] 3)).alloc (acO ⟨1, 3, 3, 3, ⟨1, 4, 2, 3⟩, ⟨1, 4, 2, 3⟩, [0, 1, 0]⟩ (.slice Ap 3 cp))) _
    have h55 := blk_below (heap_alloc_new (x1.alloc (acO z28 (.slice A1 0 c1))) (.cells #[.int .i64 5, .int .i64 5] 3)) ((Below.refl _ _).alloc (Nat.le_refl _) (acO ⟨1, 3, 3, 3, ⟨1, 4, 2, 3⟩, ⟨1, 4, 2, 3⟩, [0, 1, 0]⟩ (.slice Ap 3 cp)))
    have hpp := heap_alloc_new ((x1.alloc (acO z28 (.slice A1 0 c1))).alloc (.cells #[.int .i64 5, .int .i64 5] 3)) (acO ⟨1, 3, 3, 3, ⟨1, 4, 2, 3⟩, ⟨1, 4, 2, 3⟩, [0, 1, 0]⟩ (.slice Ap 3 cp))
    rw [show (x1.alloc (acO z28 (.slice A1 0 c1))).heap.size = x1.heap.size + 1 by simp] at h55
    rw [show ((x1.alloc (acO z28 (.slice A1 0 c1))).alloc (.cells #[.int .i64 5, .int .i64 5] 3)).heap.size = x1.heap.size + 1 + 1 by simp] at hpp
    have vp3 := (Vp.out.below (HXM.out.trans (HM.out.mono HXM.out.size))).below hb3
    have hj := join_any [5, 5] [⟨1, 3, 3, 3, ⟨1, 4, 2, 3⟩, ⟨1, 4, 2, 3⟩, [0, 1, 0]⟩] (some ⟨x1.heap.size + 1, 0, none⟩) 2 (some ⟨x1.heap.size + 1 + 1, 0, none⟩) 1 (((x1.alloc (acO z28 (.slice A1 0 c1))).alloc (.cells #[.int .i64 5, .int .i64 5] 3)).alloc (acO ⟨1, 3, 3, 3, ⟨1, 4, 2, 3⟩, ⟨1, 4, 2, 3⟩, [0, 1, 0]⟩ (.slice Ap 3 cp))) (rdI_blk (l := [5, 5]) h55 (by decide)) (by decide) (rdA_one (x := ⟨1, 3, 3, 3, ⟨1, 4, 2, 3⟩, ⟨1, 4, 2, 3⟩, [0, 1, 0]⟩) hpp vp3.2.1 vp3.2.2) (by decide)
    rw [show joinRes [5, 5] [⟨1, 3, 3, 3, ⟨1, 4, 2, 3⟩, ⟨1, 4, 2, 3⟩, [0, 1, 0]⟩] = ((⟨0, 0, 0, 0, ⟨0, 0, 0, 0⟩, ⟨0, 0, 0, 0⟩, []⟩ : S28), (100 : Int)) from by kernel_rfl] at hj
    refine hj.mono ?_
    rintro e x2 ⟨v2, rfl, how, hb4⟩
    obtain ⟨A2, c2, rfl, _, _⟩ := how.reads
    replace HM := Lib.hid ((HM.out.trans (hb3.mono HM.out.size)).trans (hb4.mono (Nat.le_trans HM.out.size hb3.size)))
    clear hb1 hb2 hb3 hb4 vp2 vp3 h55 hpp hj how
    simp only [acV, List.length_nil]
    have hb1 : Below x2.heap.size x2 (x2.alloc (acO ⟨0, 0, 0, 0, ⟨0, 0, 0, 0⟩, ⟨0, 0, 0, 0⟩, []⟩ (.slice A2 0 c2))) := (Below.refl _ _).alloc (Nat.le_refl _) _
    replace HM := Lib.hid (HM.out.trans (hb1.mono HM.out.size))
    clear hb1
    go_wp2_with fail
    show Calls _ _ _ (x2.alloc (acO ⟨0, 0, 0, 0, ⟨0, 0, 0, 0⟩, ⟨0, 0, 0, 0⟩, []⟩ (.slice A2 0 c2))) _
    generalize x2.alloc (acO ⟨0, 0, 0, 0, ⟨0, 0, 0, 0⟩, ⟨0, 0, 0, 0⟩, []⟩ (.slice A2 0 c2)) = x3 at *
    refine (item_any (-d) 0 1 0 _).mono ?_
    rintro e x4 ⟨rfl, hb1⟩
    replace HM := Lib.hid (HM.out.trans (hb1.mono HM.out.size))
    clear hb1
    go_wp2_with fail
    have ho := one_any ⟨-d, 0, 1, 0⟩ [0, 5] (some ⟨bb, 0, none⟩) 2 x4 (Kd.C_below RB.out (HXM.out.trans (HM.out.mono HXM.out.size))) (by decide)
    rw [one_bad (imay_bad1 hd1)] at ho
    refine ho.mono ?_
    rintro e x5 ⟨v2, rfl, how, hb1⟩
    obtain ⟨A3, c3, rfl, _, _⟩ := how.reads
    replace HM := Lib.hid (HM.out.trans (hb1.mono HM.out.size))
    clear hb1 ho how
    simp only [acV, z28, z26, List.length_nil]
    have hb1 : Below x5.heap.size x5 (x5.alloc (acO ⟨0, 0, 0, 0, ⟨0, 0, 0, 0⟩, ⟨0, 0, 0, 0⟩, []⟩ (.slice A3 0 c3))) := (Below.refl _ _).alloc (Nat.le_refl _) _
    replace HM := Lib.hid (HM.out.trans (hb1.mono HM.out.size))
    clear hb1
    go_wp2_with fail
    show Calls _ _ _ (x5.alloc (acO ⟨0, 0, 0, 0, ⟨0, 0, 0, 0⟩, ⟨0, 0, 0, 0⟩, []⟩ (.slice A3 0 c3))) _
    generalize x5.alloc (acO ⟨0, 0, 0, 0, ⟨0, 0, 0, 0⟩, ⟨0, 0, 0, 0⟩, []⟩ (.slice A3 0 c3)) = x6 at *
    refine (item_any 0 0 (1 - d) 0 _).mono ?_
    rintro e x7 ⟨rfl, hb1⟩
    replace HM := Lib.hid (HM.out.trans (hb1.mono HM.out.size))
    clear hb1
    go_wp2_with fail
    have ho := one_any ⟨0, 0, 1 - d, 0⟩ [0, 5] (some ⟨bb, 0, none⟩) 2 x7 (Kd.C_below RB.out (HXM.out.trans (HM.out.mono HXM.out.size))) (by decide)
    rw [one_bad (imay_bad2 hd1)] at ho
    refine ho.mono ?_
    rintro e x8 ⟨v2, rfl, how, hb1⟩
    obtain ⟨A4, c4, rfl, _, _⟩ := how.reads
    replace HM := Lib.hid (HM.out.trans (hb1.mono HM.out.size))
    clear hb1 ho how
    simp only [acV, z28, z26, List.length_nil]
    have hb1 : Below x8.heap.size x8 (x8.alloc (acO ⟨0, 0, 0, 0, ⟨0, 0, 0, 0⟩, ⟨0, 0, 0, 0⟩, []⟩ (.slice A4 0 c4))) := (Below.refl _ _).alloc (Nat.le_refl _) _
    replace HM := Lib.hid (HM.out.trans (hb1.mono HM.out.size))
    clear hb1
    have vx := blk_below VX.out HM.out
    obtain ⟨a0, a1, a2, a3, a4, a5, a6, a7, a8, a9, a10, a11, a12, al⟩ := acO_facts vx
    simp only [acO, frm] at a0 a1 a2 a3 a4 a5 a6 a7 a8 a9 a10 a11 a12 al
    clear vx
    go_wp2_with fail
    clear a0 a1 a2 a3 a4 a5 a6 a7 a8 a9 a10 a11 a12 al
    show Calls _ _ _ (x8.alloc (acO ⟨0, 0, 0, 0, ⟨0, 0, 0, 0⟩, ⟨0, 0, 0, 0⟩, []⟩ (.slice A4 0 c4))) _
    generalize x8.alloc (acO ⟨0, 0, 0, 0, ⟨0, 0, 0, 0⟩, ⟨0, 0, 0, 0⟩, []⟩ (.slice A4 0 c4)) = x9 at *
    have hm := may_any (frm d 0) [0, 5] AX cX (some ⟨bb, 0, none⟩) 2 x9 (Kd.C_below RX.out HM.out) (Kd.C_below RB.out (HXM.out.trans (HM.out.mono HXM.out.size))) (by decide)
    rw [HBAD.out] at hm
    refine hm.mono ?_
    rintro e x10 ⟨rfl, hb1⟩
    replace HM := Lib.hid (HM.out.trans (hb1.mono HM.out.size))
    clear hb1 hm
    go_wp2_with fail
    refine (num_any _ _).mono ?_
    rintro e w' ⟨rfl, rfl⟩
    go_wp2_with fail
    refine (num_any _ _).mono ?_
    rintro e w' ⟨rfl, rfl⟩
    go_wp2_with fail
    refine (num_any _ _).mono ?_
    rintro e w' ⟨rfl, rfl⟩
    go_wp2_with fail
    refine (num_any _ _).mono ?_
    rintro e w' ⟨rfl, rfl⟩
    go_wp2_with fail
    go_ret
    exact ⟨rfl, HW.out.trans ((HXM.out.trans (HM.out.mono HXM.out.size)).mono HW.out.size)⟩
  · have HBAD := Lib.hid (frm_bad hd1 1)
    have hbk2 := blk_set VA.out 0 (.int .i64 (1))
    simp only [List.setIfInBounds_toArray, List.set_cons_zero, List.set_cons_succ] at hbk2
    have hch := (Chg.refl (fun k => k = ab) wY).setCell (p := ⟨ab, 0, none⟩) (.inl rfl) (.int .i64 (1))
    have hown := HOW.out.keep hch (fun k hk e => hne (by
      have e1 : hbk = k := by simpa [Value.ownBlock] using hk
      rw [e1, e]))
    obtain ⟨A9, c9, e9, hl9, hr9⟩ := hown.reads
    injection e9 with e9 _ e8
    subst e9 e8
    have hxm := Chg.base HX.out hch HX.out.size (fun k hk => by have := HAB.out; omega)
    have VX : Hid ((wY.setCell ⟨ab, 0, none⟩ (.int .i64 (1))).heap[ab]? = some (acO (frm d 1) (.slice (some ⟨hbk, 0, none⟩) 3 ca))) := Lib.hid hbk2
    have RX : Hid (RdI (wY.setCell ⟨ab, 0, none⟩ (.int .i64 (1))) (some ⟨hbk, 0, none⟩) (frm d 1).f6) := Lib.hid hr9
    have HLX : Hid ((frm d 1).f6.length ≤ ca) := Lib.hid hl9
    have HXM := Lib.hid hxm
    clear hbk2 hch hown hl9 hr9 hxm
    go_wp2_with fail
    show Calls _ _ _ ((wY.setCell ⟨ab, 0, none⟩ (.int .i64 (1))).alloc (acO (frm d 1) (.slice (some ⟨hbk, 0, none⟩) 3 ca))) _
    rw [show wY.heap.size = (wY.setCell ⟨ab, 0, none⟩ (.int .i64 (1))).heap.size by simp [World.setCell]]
    clear a0 a1 a2 a3 a4 a5 a6 a7 a8 a9 a10 a11 a12 al hfa HOW VA HX
    generalize (wY.setCell ⟨ab, 0, none⟩ (.int .i64 (1))) = wM at *
    obtain ⟨AX, hAX⟩ : ∃ A, (some ⟨hbk, 0, none⟩ : Option Addr) = A := ⟨_, rfl⟩
    rw [hAX] at VX RX ⊢
    clear hAX
    generalize ca = cX at *
    have hp := heap_alloc_new wM (acO (frm d 1) (.slice AX 3 cX))
    have hb : Below wM.heap.size wM (wM.alloc (acO (frm d 1) (.slice AX 3 cX))) := (Below.refl _ _).alloc (Nat.le_refl _) _
    have hj := join_any [0, 5] [frm d 1] (some ⟨bb, 0, none⟩) 2 (some ⟨wM.heap.size, 0, none⟩) 1 (wM.alloc (acO (frm d 1) (.slice AX 3 cX))) (Kd.C_below RB.out (HXM.out.trans (hb.mono HXM.out.size))) (by decide) (rdA_one (x := frm d 1) hp HLX.out (Kd.C_below RX.out hb)) (by simp)
    rw [join_bad HBAD.out] at hj
    refine hj.mono ?_
    rintro e x1 ⟨v1, rfl, how, hb1⟩
    obtain ⟨A1, c1, rfl, _, _⟩ := how.reads
    have HM := Lib.hid (hb.trans (hb1.mono hb.size))
    clear hp hb hj how hb1
    have hb1 : Below x1.heap.size x1 (x1.alloc (acO z28 (.slice A1 0 c1))) := (Below.refl _ _).alloc (Nat.le_refl _) _
    have hb2 : Below x1.heap.size x1 ((x1.alloc (acO z28 (.slice A1 0 c1))).alloc (.cells #[.int .i64 5, .int .i64 5] 3)) := hb1.alloc hb1.size _
    have hb3 : Below x1.heap.size x1 (((x1.alloc (acO z28 (.slice A1 0 c1))).alloc (.cells #[.int .i64 5, .int .i64 5] 3)).alloc (acO ⟨1, 3, 3, 3, ⟨1, 4, 2, 3⟩, ⟨1, 4, 2, 3⟩, [0, 1, 0]⟩ (.slice Ap 3 cp))) := hb2.alloc hb2.size _
    have vp2 := (Vp.out.below (HXM.out.trans (HM.out.mono HXM.out.size))).below hb2
    obtain ⟨a0, a1, a2, a3, a4, a5, a6, a7, a8, a9, a10, a11, a12, al⟩ := acO_facts vp2.1
    simp only [acO, z28, z26, List.length_cons, List.length_nil, Nat.zero_add, Nat.reduceAdd] at a0 a1 a2 a3 a4 a5 a6 a7 a8 a9 a10 a11 a12 al
    simp only [acV, z28, z26, List.length_nil]
    go_wp2_with fail
    clear a0 a1 a2 a3 a4 a5 a6 a7 a8 a9 a10 a11 a12 al
    show Calls _ _ _ (((x1.alloc (acO z28 (.slice A1 0 c1))).alloc (.cells #[.int .i64 5, .int .i64 5] 3)).alloc (acO ⟨1, 3, 3, 3, ⟨1, 4, 2, 3⟩, ⟨1, 4, 2, 3⟩, [0, 1, 0]⟩ (.slice Ap 3 cp))) _
    have h55 := blk_below (heap_alloc_new (x1.alloc (acO z28 (.slice A1 0 c1))) (.cells #[.int .i64 5, .int .i64 5] 3)) ((Below.refl _ _).alloc (Nat.le_refl _) (acO ⟨1, 3, 3, 3, ⟨1, 4, 2, 3⟩, ⟨1, 4, 2, 3⟩, [0, 1, 0]⟩ (.slice Ap 3 cp)))
    have hpp := heap_alloc_new ((x1.alloc (acO z28 (.slice A1 0 c1))).alloc (.cells #[.int .i64 5, .int .i64 5] 3)) (acO ⟨1, 3, 3, 3, ⟨1, 4, 2, 3⟩, ⟨1, 4, 2, 3⟩, [0, 1, 0]⟩ (.slice Ap 3 cp))
    rw [show (x1.alloc (acO z28 (.slice A1 0 c1))).heap.size = x1.heap.size + 1 by simp] at h55
    rw [show ((x1.alloc (acO z28 (.slice A1 0 c1))).alloc (.cells #[.int .i64 5, .int .i64 5] 3)).heap.size = x1.heap.size + 1 + 1 by simp] at hpp
    have vp3 := (Vp.out.below (HXM.out.trans (HM.out.mono HXM.out.size))).below hb3
    have hj := join_any [5, 5] [⟨1, 3, 3, 3, ⟨1, 4, 2, 3⟩, ⟨1, 4, 2, 3⟩, [0, 1, 0]⟩] (some ⟨x1.heap.size + 1, 0, none⟩) 2 (some ⟨x1.heap.size + 1 + 1, 0, none⟩) 1 (((x1.alloc (acO z28 (.slice A1 0 c1))).alloc (.cells #[.int .i64 5, .int .i64 5] 3)).alloc (acO ⟨1, 3, 3, 3, ⟨1, 4, 2, 3⟩, ⟨1, 4, 2, 3⟩, [0, 1, 0]⟩ (.slice Ap 3 cp))) (rdI_blk (l := [5, 5]) h55 (by decide)) (by decide) (rdA_one (x := ⟨1, 3, 3, 3, ⟨1, 4, 2, 3⟩, ⟨1, 4, 2, 3⟩, [0, 1, 0]⟩) hpp vp3.2.1 vp3.2.2) (by decide)
    rw [show joinRes [5, 5] [⟨1, 3, 3, 3, ⟨1, 4, 2, 3⟩, ⟨1, 4, 2, 3⟩, [0, 1, 0]⟩] = ((⟨0, 0, 0, 0, ⟨0, 0, 0, 0⟩, ⟨0, 0, 0, 0⟩, []⟩ : S28), (100 : Int)) from by kernel_rfl] at hj
    refine hj.mono ?_
    rintro e x2 ⟨v2, rfl, how, hb4⟩
    obtain ⟨A2, c2, rfl, _, _⟩ := how.reads
    replace HM := Lib.hid ((HM.out.trans (hb3.mono HM.out.size)).trans (hb4.mono (Nat.le_trans HM.out.size hb3.size)))
    clear hb1 hb2 hb3 hb4 vp2 vp3 h55 hpp hj how
    simp only [acV, List.length_nil]
    have hb1 : Below x2.heap.size x2 (x2.alloc (acO ⟨0, 0, 0, 0, ⟨0, 0, 0, 0⟩, ⟨0, 0, 0, 0⟩, []⟩ (.slice A2 0 c2))) := (Below.refl _ _).alloc (Nat.le_refl _) _
    replace HM := Lib.hid (HM.out.trans (hb1.mono HM.out.size))
    clear hb1
    go_wp2_with fail
    show Calls _ _ _ (x2.alloc (acO ⟨0, 0, 0, 0, ⟨0, 0, 0, 0⟩, ⟨0, 0, 0, 0⟩, []⟩ (.slice A2 0 c2))) _
    generalize x2.alloc (acO ⟨0, 0, 0, 0, ⟨0, 0, 0, 0⟩, ⟨0, 0, 0, 0⟩, []⟩ (.slice A2 0 c2)) = x3 at *
    refine (item_any (-d) 0 1 0 _).mono ?_
    rintro e x4 ⟨rfl, hb1⟩
    replace HM := Lib.hid (HM.out.trans (hb1.mono HM.out.size))
    clear hb1
    go_wp2_with fail
    have ho := one_any ⟨-d, 0, 1, 0⟩ [0, 5] (some ⟨bb, 0, none⟩) 2 x4 (Kd.C_below RB.out (HXM.out.trans (HM.out.mono HXM.out.size))) (by decide)
    rw [one_bad (imay_bad1 hd1)] at ho
    refine ho.mono ?_
    rintro e x5 ⟨v2, rfl, how, hb1⟩
    obtain ⟨A3, c3, rfl, _, _⟩ := how.reads
    replace HM := Lib.hid (HM.out.trans (hb1.mono HM.out.size))
    clear hb1 ho how
    simp only [acV, z28, z26, List.length_nil]
    have hb1 : Below x5.heap.size x5 (x5.alloc (acO ⟨0, 0, 0, 0, ⟨0, 0, 0, 0⟩, ⟨0, 0, 0, 0⟩, []⟩ (.slice A3 0 c3))) := (Below.refl _ _).alloc (Nat.le_refl _) _
    replace HM := Lib.hid (HM.out.trans (hb1.mono HM.out.size))
    clear hb1
    go_wp2_with fail
    show Calls _ _ _ (x5.alloc (acO ⟨0, 0, 0, 0, ⟨0, 0, 0, 0⟩, ⟨0, 0, 0, 0⟩, []⟩ (.slice A3 0 c3))) _
    generalize x5.alloc (acO ⟨0, 0, 0, 0, ⟨0, 0, 0, 0⟩, ⟨0, 0, 0, 0⟩, []⟩ (.slice A3 0 c3)) = x6 at *
    refine (item_any 0 0 (1 - d) 0 _).mono ?_
    rintro e x7 ⟨rfl, hb1⟩
    replace HM := Lib.hid (HM.out.trans (hb1.mono HM.out.size))
    clear hb1
    go_wp2_with fail
    have ho := one_any ⟨0, 0, 1 - d, 0⟩ [0, 5] (some ⟨bb, 0, none⟩) 2 x7 (Kd.C_below RB.out (HXM.out.trans (HM.out.mono HXM.out.size))) (by decide)
    rw [one_bad (imay_bad2 hd1)] at ho
    refine ho.mono ?_
    rintro e x8 ⟨v2, rfl, how, hb1⟩
    obtain ⟨A4, c4, rfl, _, _⟩ := how.reads
    replace HM := Lib.hid (HM.out.trans (hb1.mono HM.out.size))
    clear hb1 ho how
    simp only [acV, z28, z26, List.length_nil]
    have hb1 : Below x8.heap.size x8 (x8.alloc (acO ⟨0, 0, 0, 0, ⟨0, 0, 0, 0⟩, ⟨0, 0, 0, 0⟩, []⟩ (.slice A4 0 c4))) := (Below.refl _ _).alloc (Nat.le_refl _) _
    replace HM := Lib.hid (HM.out.trans (hb1.mono HM.out.size))
    clear hb1
    have vx := blk_below VX.out HM.out
    obtain ⟨a0, a1, a2, a3, a4, a5, a6, a7, a8, a9, a10, a11, a12, al⟩ := acO_facts vx
    simp only [acO, frm] at a0 a1 a2 a3 a4 a5 a6 a7 a8 a9 a10 a11 a12 al
    clear vx
    go_wp2_with fail
    clear a0 a1 a2 a3 a4 a5 a6 a7 a8 a9 a10 a11 a12 al
    show Calls _ _ _ (x8.alloc (acO ⟨0, 0, 0, 0, ⟨0, 0, 0, 0⟩, ⟨0, 0, 0, 0⟩, []⟩ (.slice A4 0 c4))) _
    generalize x8.alloc (acO ⟨0, 0, 0, 0, ⟨0, 0, 0, 0⟩, ⟨0, 0, 0, 0⟩, []⟩ (.slice A4 0 c4)) = x9 at *
    have hm := may_any (frm d 1) [0, 5] AX cX (some ⟨bb, 0, none⟩) 2 x9 (Kd.C_below RX.out HM.out) (Kd.C_below RB.out (HXM.out.trans (HM.out.mono HXM.out.size))) (by decide)
    rw [HBAD.out] at hm
    refine hm.mono ?_
    rintro e x10 ⟨rfl, hb1⟩
    replace HM := Lib.hid (HM.out.trans (hb1.mono HM.out.size))
    clear hb1 hm
    go_wp2_with fail
    refine (num_any _ _).mono ?_
    rintro e w' ⟨rfl, rfl⟩
    go_wp2_with fail
    refine (num_any _ _).mono ?_
    rintro e w' ⟨rfl, rfl⟩
    go_wp2_with fail
    refine (num_any _ _).mono ?_
    rintro e w' ⟨rfl, rfl⟩
    go_wp2_with fail
    refine (num_any _ _).mono ?_
    rintro e w' ⟨rfl, rfl⟩
    go_wp2_with fail
    go_ret
    exact ⟨rfl, HW.out.trans ((HXM.out.trans (HM.out.mono HXM.out.size)).mono HW.out.size)⟩
  · have HBAD := Lib.hid (frm_bad hd1 2)
    have hbk2 := blk_set VA.out 1 (.int .i64 (18 + d))
    simp only [List.setIfInBounds_toArray, List.set_cons_zero, List.set_cons_succ] at hbk2
    have hch := (Chg.refl (fun k => k = ab) wY).setCell (p := ⟨ab, 1, none⟩) (.inl rfl) (.int .i64 (18 + d))
    have hown := HOW.out.keep hch (fun k hk e => hne (by
      have e1 : hbk = k := by simpa [Value.ownBlock] using hk
      rw [e1, e]))
    obtain ⟨A9, c9, e9, hl9, hr9⟩ := hown.reads
    injection e9 with e9 _ e8
    subst e9 e8
    have hxm := Chg.base HX.out hch HX.out.size (fun k hk => by have := HAB.out; omega)
    have VX : Hid ((wY.setCell ⟨ab, 1, none⟩ (.int .i64 (18 + d))).heap[ab]? = some (acO (frm d 2) (.slice (some ⟨hbk, 0, none⟩) 3 ca))) := Lib.hid hbk2
    have RX : Hid (RdI (wY.setCell ⟨ab, 1, none⟩ (.int .i64 (18 + d))) (some ⟨hbk, 0, none⟩) (frm d 2).f6) := Lib.hid hr9
    have HLX : Hid ((frm d 2).f6.length ≤ ca) := Lib.hid hl9
    have HXM := Lib.hid hxm
    clear hbk2 hch hown hl9 hr9 hxm
    go_wp2_with fail
    show Calls _ _ _ ((wY.setCell ⟨ab, 1, none⟩ (.int .i64 (18 + d))).alloc (acO (frm d 2) (.slice (some ⟨hbk, 0, none⟩) 3 ca))) _
    rw [show wY.heap.size = (wY.setCell ⟨ab, 1, none⟩ (.int .i64 (18 + d))).heap.size by simp [World.setCell]]
    clear a0 a1 a2 a3 a4 a5 a6 a7 a8 a9 a10 a11 a12 al hfa HOW VA HX
    generalize (wY.setCell ⟨ab, 1, none⟩ (.int .i64 (18 + d))) = wM at *
    obtain ⟨AX, hAX⟩ : ∃ A, (some ⟨hbk, 0, none⟩ : Option Addr) = A := ⟨_, rfl⟩
    rw [hAX] at VX RX ⊢
    clear hAX
    generalize ca = cX at *
    have hp := heap_alloc_new wM (acO (frm d 2) (.slice AX 3 cX))
    have hb : Below wM.heap.size wM (wM.alloc (acO (frm d 2) (.slice AX 3 cX))) := (Below.refl _ _).alloc (Nat.le_refl _) _
    have hj := join_any [0, 5] [frm d 2] (some ⟨bb, 0, none⟩) 2 (some ⟨wM.heap.size, 0, none⟩) 1 (wM.alloc (acO (frm d 2) (.slice AX 3 cX))) (Kd.C_below RB.out (HXM.out.trans (hb.mono HXM.out.size))) (by decide) (rdA_one (x := frm d 2) hp HLX.out (Kd.C_below RX.out hb)) (by simp)
    rw [join_bad HBAD.out] at hj
    refine hj.mono ?_
    rintro e x1 ⟨v1, rfl, how, hb1⟩
    obtain ⟨A1, c1, rfl, _, _⟩ := how.reads
    have HM := Lib.hid (hb.trans (hb1.mono hb.size))
    clear hp hb hj how hb1
    have hb1 : Below x1.heap.size x1 (x1.alloc (acO z28 (.slice A1 0 c1))) := (Below.refl _ _).alloc (Nat.le_refl _) _
    have hb2 : Below x1.heap.size x1 ((x1.alloc (acO z28 (.slice A1 0 c1))).alloc (.cells #[.int .i64 5, .int .i64 5] 3)) := hb1.alloc hb1.size _
    have hb3 : Below x1.heap.size x1 (((x1.alloc (acO z28 (.slice A1 0 c1))).alloc (.cells #[.int .i64 5, .int .i64 5] 3)).alloc (acO ⟨1, 3, 3, 3, ⟨1, 4, 2, 3⟩, ⟨1, 4, 2, 3⟩, [0, 1, 0]⟩ (.slice Ap 3 cp))) := hb2.alloc hb2.size _
    have vp2 := (Vp.out.below (HXM.out.trans (HM.out.mono HXM.out.size))).below hb2
    obtain ⟨a0, a1, a2, a3, a4, a5, a6, a7, a8, a9, a10, a11, a12, al⟩ := acO_facts vp2.1
    simp only [acO, z28, z26, List.length_cons, List.length_nil, Nat.zero_add, Nat.reduceAdd] at a0 a1 a2 a3 a4 a5 a6 a7 a8 a9 a10 a11 a12 al
    simp only [acV, z28, z26, List.length_nil]
    go_wp2_with fail
    clear a0 a1 a2 a3 a4 a5 a6 a7 a8 a9 a10 a11 a12 al
    show Calls _ _ _ (((x1.alloc (acO z28 (.slice A1 0 c1))).alloc (.cells #[.int .i64 5, .int .i64 5] 3)).alloc (acO ⟨1, 3, 3, 3, ⟨1, 4, 2, 3⟩, ⟨1, 4, 2, 3⟩, [0, 1, 0]⟩ (.slice Ap 3 cp))) _
    have h55 := blk_below (heap_alloc_new (x1.alloc (acO z28 (.slice A1 0 c1))) (.cells #[.int .i64 5, .int .i64 5] 3)) ((Below.refl _ _).alloc (Nat.le_refl _) (acO ⟨1, 3, 3, 3, ⟨1, 4, 2, 3⟩, ⟨1, 4, 2, 3⟩, [0, 1, 0]⟩ (.slice Ap 3 cp)))
    have hpp := heap_alloc_new ((x1.alloc (acO z28 (.slice A1 0 c1))).alloc (.cells #[.int .i64 5, .int .i64 5] 3)) (acO ⟨1, 3, 3, 3, ⟨1, 4, 2, 3⟩, ⟨1, 4, 2, 3⟩, [0, 1, 0]⟩ (.slice Ap 3 cp))
    rw [show (x1.alloc (acO z28 (.slice A1 0 c1))).heap.size = x1.heap.size + 1 by simp] at h55
    rw [show ((x1.alloc (acO z28 (.slice A1 0 c1))).alloc (.cells #[.int .i64 5, .int .i64 5] 3)).heap.size = x1.heap.size + 1 + 1 by simp] at hpp
    have vp3 := (Vp.out.below (HXM.out.trans (HM.out.mono HXM.out.size))).below hb3
    have hj := join_any [5, 5] [⟨1, 3, 3, 3, ⟨1, 4, 2, 3⟩, ⟨1, 4, 2, 3⟩, [0, 1, 0]⟩] (some ⟨x1.heap.size + 1, 0, none⟩) 2 (some ⟨x1.heap.size + 1 + 1, 0, none⟩) 1 (((x1.alloc (acO z28 (.slice A1 0 c1))).alloc (.cells #[.int .i64 5, .int .i64 5] 3)).alloc (acO ⟨1, 3, 3, 3, ⟨1, 4, 2, 3⟩, ⟨1, 4, 2, 3⟩, [0, 1, 0]⟩ (.slice Ap 3 cp))) (rdI_blk (l := [5, 5]) h55 (by decide)) (by decide) (rdA_one (x := ⟨1, 3, 3, 3, ⟨1, 4, 2, 3⟩, ⟨1, 4, 2, 3⟩, [0, 1, 0]⟩) hpp vp3.2.1 vp3.2.2) (by decide)
    rw [show joinRes [5, 5] [⟨1, 3, 3, 3, ⟨1, 4, 2, 3⟩, ⟨1, 4, 2, 3⟩, [0, 1, 0]⟩] = ((⟨0, 0, 0, 0, ⟨0, 0, 0, 0⟩, ⟨0, 0, 0, 0⟩, []⟩ : S28), (100 : Int)) from by kernel_rfl] at hj
    refine hj.mono ?_
    rintro e x2 ⟨v2, rfl, how, hb4⟩
    obtain ⟨A2, c2, rfl, _, _⟩ := how.reads
    replace HM := Lib.hid ((HM.out.trans (hb3.mono HM.out.size)).trans (hb4.mono (Nat.le_trans HM.out.size hb3.size)))
    clear hb1 hb2 hb3 hb4 vp2 vp3 h55 hpp hj how
    simp only [acV, List.length_nil]
    have hb1 : Below x2.heap.size x2 (x2.alloc (acO ⟨0, 0, 0, 0, ⟨0, 0, 0, 0⟩, ⟨0, 0, 0, 0⟩, []⟩ (.slice A2 0 c2))) := (Below.refl _ _).alloc (Nat.le_refl _) _
    replace HM := Lib.hid (HM.out.trans (hb1.mono HM.out.size))
    clear hb1
    go_wp2_with fail
    show Calls _ _ _ (x2.alloc (acO ⟨0, 0, 0, 0, ⟨0, 0, 0, 0⟩, ⟨0, 0, 0, 0⟩, []⟩ (.slice A2 0 c2))) _
    generalize x2.alloc (acO ⟨0, 0, 0, 0, ⟨0, 0, 0, 0⟩, ⟨0, 0, 0, 0⟩, []⟩ (.slice A2 0 c2)) = x3 at *
    refine (item_any (-d) 0 1 0 _).mono ?_
    rintro e x4 ⟨rfl, hb1⟩
    replace HM := Lib.hid (HM.out.trans (hb1.mono HM.out.size))
    clear hb1
    go_wp2_with fail
    have ho := one_any ⟨-d, 0, 1, 0⟩ [0, 5] (some ⟨bb, 0, none⟩) 2 x4 (Kd.C_below RB.out (HXM.out.trans (HM.out.mono HXM.out.size))) (by decide)
    rw [one_bad (imay_bad1 hd1)] at ho
    refine ho.mono ?_
    rintro e x5 ⟨v2, rfl, how, hb1⟩
    obtain ⟨A3, c3, rfl, _, _⟩ := how.reads
    replace HM := Lib.hid (HM.out.trans (hb1.mono HM.out.size))
    clear hb1 ho how
    simp only [acV, z28, z26, List.length_nil]
    have hb1 : Below x5.heap.size x5 (x5.alloc (acO ⟨0, 0, 0, 0, ⟨0, 0, 0, 0⟩, ⟨0, 0, 0, 0⟩, []⟩ (.slice A3 0 c3))) := (Below.refl _ _).alloc (Nat.le_refl _) _
    replace HM := Lib.hid (HM.out.trans (hb1.mono HM.out.size))
    clear hb1
    go_wp2_with fail
    show Calls _ _ _ (x5.alloc (acO ⟨0, 0, 0, 0, ⟨0, 0, 0, 0⟩, ⟨0, 0, 0, 0⟩, []⟩ (.slice A3 0 c3))) _
    generalize x5.alloc (acO ⟨0, 0, 0, 0, ⟨0, 0, 0, 0⟩, ⟨0, 0, 0, 0⟩, []⟩ (.slice A3 0 c3)) = x6 at *
    refine (item_any 0 0 (1 - d) 0 _).mono ?_
    rintro e x7 ⟨rfl, hb1⟩
    replace HM := Lib.hid (HM.out.trans (hb1.mono HM.out.size))
    clear hb1
    go_wp2_with fail
    have ho := one_any ⟨0, 0, 1 - d, 0⟩ [0, 5] (some ⟨bb, 0, none⟩) 2 x7 (Kd.C_below RB.out (HXM.out.trans (HM.out.mono HXM.out.size))) (by decide)
    rw [one_bad (imay_bad2 hd1)] at ho
    refine ho.mono ?_
    rintro e x8 ⟨v2, rfl, how, hb1⟩
    obtain ⟨A4, c4, rfl, _, _⟩ := how.reads
    replace HM := Lib.hid (HM.out.trans (hb1.mono HM.out.size))
    clear hb1 ho how
    simp only [acV, z28, z26, List.length_nil]
    have hb1 : Below x8.heap.size x8 (x8.alloc (acO ⟨0, 0, 0, 0, ⟨0, 0, 0, 0⟩, ⟨0, 0, 0, 0⟩, []⟩ (.slice A4 0 c4))) := (Below.refl _ _).alloc (Nat.le_refl _) _
    replace HM := Lib.hid (HM.out.trans (hb1.mono HM.out.size))
    clear hb1
    have vx := blk_below VX.out HM.out
    obtain ⟨a0, a1, a2, a3, a4, a5, a6, a7, a8, a9, a10, a11, a12, al⟩ := acO_facts vx
    simp only [acO, frm] at a0 a1 a2 a3 a4 a5 a6 a7 a8 a9 a10 a11 a12 al
    clear vx
    go_wp2_with fail
    clear a0 a1 a2 a3 a4 a5 a6 a7 a8 a9 a10 a11 a12 al
    show Calls _ _ _ (x8.alloc (acO ⟨0, 0, 0, 0, ⟨0, 0, 0, 0⟩, ⟨0, 0, 0, 0⟩, []⟩ (.slice A4 0 c4))) _
    generalize x8.alloc (acO ⟨0, 0, 0, 0, ⟨0, 0, 0, 0⟩, ⟨0, 0, 0, 0⟩, []⟩ (.slice A4 0 c4)) = x9 at *
    have hm := may_any (frm d 2) [0, 5] AX cX (some ⟨bb, 0, none⟩) 2 x9 (Kd.C_below RX.out HM.out) (Kd.C_below RB.out (HXM.out.trans (HM.out.mono HXM.out.size))) (by decide)
    rw [HBAD.out] at hm
    refine hm.mono ?_
    rintro e x10 ⟨rfl, hb1⟩
    replace HM := Lib.hid (HM.out.trans (hb1.mono HM.out.size))
    clear hb1 hm
    go_wp2_with fail
    refine (num_any _ _).mono ?_
    rintro e w' ⟨rfl, rfl⟩
    go_wp2_with fail
    refine (num_any _ _).mono ?_
    rintro e w' ⟨rfl, rfl⟩
    go_wp2_with fail
    refine (num_any _ _).mono ?_
    rintro e w' ⟨rfl, rfl⟩
    go_wp2_with fail
    refine (num_any _ _).mono ?_
    rintro e w' ⟨rfl, rfl⟩
    go_wp2_with fail
    go_ret
    exact ⟨rfl, HW.out.trans ((HXM.out.trans (HM.out.mono HXM.out.size)).mono HW.out.size)⟩
end Go.Proofs.Ytggaefklcpbfnaa
