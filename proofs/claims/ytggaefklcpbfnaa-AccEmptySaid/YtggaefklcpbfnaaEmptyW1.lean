/- AccEmpty returns true: the empty one turns nothing, wherever it stands. No conditions. -/
import Derived.Test.YtggaefklcpbfnaaEmptyW0
import Derived.Test.YtggaefklcpbfnaaAccK
import Derived.Test.YtggaefklcpbfnaaAccFormsP
import Derived.Test.YtggaefklcpbfnaaRowI
namespace Go.Proofs.Ytggaefklcpbfnaa.My
open Go.RowKit Pa Go.Proofs.YtggaefklcpbfnaaW.PrintWords Go.Proofs.YtggaefklcpbfnaaW.PrintMore
attribute [local go_sem high] eqA26
set_option linter.unusedSimpArgs false

set_option maxHeartbeats 8000000 in
set_option maxRecDepth 100000 in
theorem empty_1 (x : S26) (A : Option Addr) (bs : List Int) (c : Nat) (at_ : Int) (w : World) (hA : RdI w A bs) (hc : bs.length ≤ c) (hl : bs.length ≤ 140737488351232) (hjj2 : bits .and .i64 at_ 3 = 1) :
    Calls Try.prog 12 #[.agg #[.int .i64 x.f0, .int .i64 x.f1, .int .i64 x.f2, .int .i64 x.f3], .slice A bs.length c, .int .i64 at_] w fun e w' => e = .returned (.bool true) ∧ Below w.heap.size w w' := by
  have HA := Lib.hid hA
  have HC := Lib.hid hc
  have HJJ := Lib.hid hjj2
  clear hA hc hjj2
  go_enter Try.func12, Try.ntmps12
  go_wp2_with fail
  have hb0 : Below w.heap.size w (w.alloc (itO x)) := (Below.refl _ _).alloc (Nat.le_refl _) _
  have hx0 : (w.alloc (itO x)).heap[w.heap.size]? = some (itO x) := heap_alloc_new w (itO x)
  show Calls _ _ _ (w.alloc (itO x)) _
  have HB := Lib.hid hb0
  have HX := Lib.hid hx0
  clear hb0 hx0
  generalize w.alloc (itO x) = w0 at *
  refine (awake_any _).mono ?_
  rintro e w1 ⟨rfl, hb⟩
  replace HX := Lib.hid (blk_below HX.out hb)
  replace HB := Lib.hid (HB.out.trans (hb.mono HB.out.size))
  clear hb
  obtain ⟨i0, i1, i2, i3, il⟩ := itO_facts HX.out
  go_wp2_with fail
  clear i0 i1 i2 i3 il
  refine (one_any x bs A c _ (Kd.C_below HA.out HB.out) HC.out).mono ?_
  rintro e w2 ⟨va, rfl, how, hb⟩
  replace HX := Lib.hid (blk_below HX.out hb)
  replace HB := Lib.hid (HB.out.trans (hb.mono HB.out.size))
  clear hb
  rcases one_or x bs with hone | ⟨hone, hm1⟩
  · rw [hone] at how ⊢
    obtain ⟨Aa, ca, rfl, hla, hra⟩ := how.reads
    have hb : Below w2.heap.size w2 (w2.alloc (acO z28 (.slice Aa z28.f6.length ca))) := (Below.refl _ _).alloc (Nat.le_refl _) _
    have VA := Lib.hid (AVar.new (w := w2) (a := z28) hla hra)
    replace HB := Lib.hid (HB.out.trans (hb.mono HB.out.size))
    clear hb how hla hra
    simp only [acV, z28, z26, List.length_nil]
    go_wp2_with fail
    have VAB := Lib.hid VA.out
    change Hid (AVar (w2.alloc (acO z28 (.slice Aa 0 ca))) _ _ _ _) at VA
    show Calls _ _ _ (w2.alloc (acO z28 (.slice Aa 0 ca))) _
    change Hid (Below w.heap.size w (w2.alloc (acO z28 (.slice Aa 0 ca)))) at HB
    clear VAB
    generalize w2.alloc (acO z28 (.slice Aa 0 ca)) = w3 at *
    generalize w2.heap.size = ab at *
    refine (join_any bs [] A c none 0 w3 (Kd.C_below HA.out HB.out) HC.out (rdA_nil _ _) (by decide)).mono ?_
    rintro e w4 ⟨vj, rfl, how, hb⟩
    replace VA := Lib.hid (VA.out.below hb)
    replace HB := Lib.hid (HB.out.trans (hb.mono HB.out.size))
    clear hb
    obtain ⟨Aj, cj, rfl, hlj, hrj⟩ := how.reads
    generalize joinRes bs [] = jr at *
    obtain ⟨o, en⟩ := jr
    have hb : Below w4.heap.size w4 (w4.alloc (acO o (.slice Aj o.f6.length cj))) := (Below.refl _ _).alloc (Nat.le_refl _) _
    replace VA := Lib.hid (VA.out.below hb)
    replace HB := Lib.hid (HB.out.trans (hb.mono HB.out.size))
    clear hb how hlj hrj
    simp only [acV]
    go_wp2_with fail
    change Calls _ _ _ (w4.alloc (acO o (.slice Aj o.f6.length cj))) _
    generalize w4.alloc (acO o (.slice Aj o.f6.length cj)) = w5 at *
    clear hone
    refine (num_any _ _).mono ?_
    rintro e w' ⟨rfl, rfl⟩
    obtain ⟨a0, a1, a2, a3, a4, a5, a6, a7, a8, a9, a10, a11, a12, al⟩ := acO_facts VA.out.1
    simp only [z28, z26] at a0 a1 a2 a3 a4 a5 a6 a7 a8 a9 a10 a11
    go_wp2_with fail
    refine (num_any _ _).mono ?_
    rintro e w' ⟨rfl, rfl⟩
    go_wp2_with fail
    go_ret
    exact ⟨rfl, HB.out⟩
  · rw [hone] at how ⊢
    obtain ⟨Aa, ca, rfl, hla, hra⟩ := how.reads
    have hb : Below w2.heap.size w2 (w2.alloc (acO (one x bs) (.slice Aa (one x bs).f6.length ca))) := (Below.refl _ _).alloc (Nat.le_refl _) _
    have VA := Lib.hid (AVar.new (w := w2) (a := one x bs) hla hra)
    replace HX := Lib.hid (blk_below HX.out hb)
    replace HB := Lib.hid (HB.out.trans (hb.mono HB.out.size))
    have LA := Lib.hid (show (one x bs).f6.length = bs.length + 1 from hm1.len)
    have HM := Lib.hid hm1
    clear hb how hla hra hone hm1
    have hbm := HM.out.bm
    obtain ⟨nb, hnb⟩ : ∃ nb, nb = bs.length + 1 := ⟨_, rfl⟩
    have HNB := Lib.hid hnb
    rw [← hnb] at LA
    clear hnb
    rw [LA.out] at VA HB HX ⊢
    simp only [acV, one]
    go_wp2_with fail
    change Calls _ _ _ (w2.alloc (acO (one x bs) (.slice Aa nb ca))) _
    generalize w2.alloc (acO (one x bs) (.slice Aa nb ca)) = w3 at *
    generalize w2.heap.size = ab at *
    clear w2
    refine (join_any bs [] A c none 0 w3 (Kd.C_below HA.out HB.out) HC.out (rdA_nil _ _) (by decide)).mono ?_
    rintro e w4 ⟨vj, rfl, how, hb⟩
    rw [join_none hbm] at how ⊢
    have HBM := Lib.hid hbm
    clear hbm
    replace VA := Lib.hid (VA.out.below hb)
    replace HX := Lib.hid (blk_below HX.out hb)
    replace HB := Lib.hid (HB.out.trans (hb.mono HB.out.size))
    clear hb
    obtain ⟨An, cn, rfl, hln, hrn⟩ := how.reads
    have LN := Lib.hid (show (join0 bs).f6.length = nb from by rw [HNB.out]; simp [join0])
    have hb : Below w4.heap.size w4 (w4.alloc (acO (join0 bs) (.slice An (join0 bs).f6.length cn))) := (Below.refl _ _).alloc (Nat.le_refl _) _
    have VN := Lib.hid (AVar.new (w := w4) (a := join0 bs) hln hrn)
    replace VA := Lib.hid (VA.out.below hb)
    replace HX := Lib.hid (blk_below HX.out hb)
    replace HB := Lib.hid (HB.out.trans (hb.mono HB.out.size))
    clear hb how hln hrn
    rw [LN.out] at VN VA HB HX ⊢
    simp only [acV, join0, z26]
    go_wp2_with fail
    change Calls _ _ _ (w4.alloc (acO (join0 bs) (.slice An nb cn))) _
    generalize w4.alloc (acO (join0 bs) (.slice An nb cn)) = w5 at *
    generalize w4.heap.size = nn at *
    clear w4
    refine (num_any _ _).mono ?_
    rintro e w' ⟨rfl, rfl⟩
    obtain ⟨n0, n1, n2, n3, n4, n5, n6, n7, n8, n9, n10, n11, n12, nl⟩ := acO_facts VN.out.1
    obtain ⟨a0, a1, a2, a3, a4, a5, a6, a7, a8, a9, a10, a11, a12, al⟩ := acO_facts VA.out.1
    rw [LN.out] at n12
    rw [LA.out] at a12
    simp only [join0, z26] at n0 n1 n2 n3 n4 n5 n6 n7 n8 n9 n10 n11
    simp only [one] at a0 a1 a2 a3 a4 a5 a6 a7 a8 a9 a10 a11
    have hjj2 := HJJ.out
    go_wp2_with (refine at_store 49 48 rfl ?_)
    change AtOp _ _ _ _ _ (w5.alloc (four4 (join0 bs) (join0 bs) (join0 bs) (join0 bs) (.slice An nb cn) (.slice An nb cn) (.slice An nb cn) (.slice An nb cn)))
    have VP := Lib.hid (heap_alloc_new w5 (four4 (join0 bs) (join0 bs) (join0 bs) (join0 bs) (.slice An nb cn) (.slice An nb cn) (.slice An nb cn) (.slice An nb cn)))
    have BP := Lib.hid (((Below.refl w5.heap.size w5).alloc (Nat.le_refl _) (four4 (join0 bs) (join0 bs) (join0 bs) (join0 bs) (.slice An nb cn) (.slice An nb cn) (.slice An nb cn) (.slice An nb cn))))
    have hle := Nat.le_refl w5.heap.size
    have HLE : Hid (w5.heap.size ≤ w5.heap.size) := Lib.hid hle
    clear a0 a1 a2 a3 a4 a5 a6 a7 a8 a9 a10 a11 a12 al n0 n1 n2 n3 n4 n5 n6 n7 n8 n9 n10 n11 n12 nl hle
    generalize w5.alloc (four4 (join0 bs) (join0 bs) (join0 bs) (join0 bs) (.slice An nb cn) (.slice An nb cn) (.slice An nb cn) (.slice An nb cn)) = wP at *
    obtain ⟨pb, hpb⟩ : ∃ pb, pb = w5.heap.size := ⟨_, rfl⟩
    rw [← hpb] at VP ⊢
    have HPB := Lib.hid hpb
    clear hpb
    obtain ⟨q0, q1, q2, q3, q4, q5, q6, q7, q8, q9, q10, q11, q12⟩ := four4_1 VP.out
    have hpl := blk_lt VP.out
    have hfp := fun k => blk_free VP.out k
    refine AtOp.mk ?_
    go_wp2_with fail
    change Calls _ _ _ (put4_1 wP pb (one x bs) (.slice Aa nb ca)) _
    clear q0 q1 q2 q3 q4 q5 q6 q7 q8 q9 q10 q11 q12 hfp
    have hvq := put4_1_blk VP.out (one x bs) (.slice Aa nb ca)
    have VQ : Hid ((put4_1 wP pb (one x bs) (.slice Aa nb ca)).heap[pb]? = some (four4 (join0 bs) (one x bs) (join0 bs) (join0 bs) (.slice An (join0 bs).f6.length cn) (.slice Aa (one x bs).f6.length ca) (.slice An (join0 bs).f6.length cn) (.slice An (join0 bs).f6.length cn))) := by
      rw [LA.out, LN.out]
      exact Lib.hid hvq
    have BQ : Hid (Below w5.heap.size w5 (put4_1 wP pb (one x bs) (.slice Aa nb ca))) := Lib.hid (Chg.base BP.out (put4_1_chg wP pb (one x bs) (.slice Aa nb ca)) BP.out.size (fun i hi => by rw [hi, HPB.out]; exact Nat.le_refl _))
    clear hvq VP BP hpl
    generalize put4_1 wP pb (one x bs) (.slice Aa nb ca) = wQ at *
    clear wP
    replace VA := Lib.hid (VA.out.below BQ.out)
    replace VN := Lib.hid (VN.out.below BQ.out)
    replace HX := Lib.hid (blk_below HX.out BQ.out)
    replace HB := Lib.hid (HB.out.trans (BQ.out.mono HB.out.size))
    clear BQ HPB HLE
    have RQ : Hid (RdA wQ (some ⟨pb, 0, none⟩) (four bs (one x bs) 1)) := Lib.hid (rdA_four VQ.out VN.out.2 VA.out.2 VN.out.2 VN.out.2)
    have hp := join_any bs (four bs (one x bs) 1) A c (some ⟨pb, 0, none⟩) 4 wQ (Kd.C_below HA.out HB.out) HC.out RQ.out (by unfold four; simp)
    rw [join_four HM.out (by decide)] at hp
    clear RQ VQ
    refine hp.mono ?_
    rintro e w6 ⟨vb, rfl, how, hb⟩
    clear hp
    replace VA := Lib.hid (VA.out.below hb)
    replace VN := Lib.hid (VN.out.below hb)
    replace HX := Lib.hid (blk_below HX.out hb)
    replace HB := Lib.hid (HB.out.trans (hb.mono HB.out.size))
    clear hb
    obtain ⟨Ab, cb, rfl, hlb, hrb⟩ := how.reads
    have hb : Below w6.heap.size w6 (w6.alloc (acO (one x bs) (.slice Ab (one x bs).f6.length cb))) := (Below.refl _ _).alloc (Nat.le_refl _) _
    have VB := Lib.hid (AVar.new (w := w6) (a := one x bs) hlb hrb)
    replace VA := Lib.hid (VA.out.below hb)
    replace VN := Lib.hid (VN.out.below hb)
    replace HX := Lib.hid (blk_below HX.out hb)
    replace HB := Lib.hid (HB.out.trans (hb.mono HB.out.size))
    clear hb how hlb hrb
    rw [LA.out] at VB VA VN HB HX ⊢
    simp only [acV, one]
    go_wp2_with (refine at_load 9 rfl ?_)
    change AtOp _ _ _ _ _ (w6.alloc (acO (one x bs) (.slice Ab nb cb)))
    generalize w6.alloc (acO (one x bs) (.slice Ab nb cb)) = w7 at *
    generalize w6.heap.size = gb at *
    clear w6
    obtain ⟨n0, n1, n2, n3, n4, n5, n6, n7, n8, n9, n10, n11, n12, nl⟩ := acO_facts VN.out.1
    rw [LN.out] at n12
    simp only [join0, z26] at n0 n1 n2 n3 n4 n5 n6 n7 n8 n9 n10 n11
    refine AtOp.mk ?_
    go_wp2_with fail
    change Calls _ _ _ (w7.alloc (two2 (join0 bs) (join0 bs) (.slice An nb cn) (.slice An nb cn))) _
    clear n0 n1 n2 n3 n4 n5 n6 n7 n8 n9 n10 n11 n12 nl
    have hb : Below w7.heap.size w7 (w7.alloc (two2 (join0 bs) (join0 bs) (.slice An nb cn) (.slice An nb cn))) := (Below.refl _ _).alloc (Nat.le_refl _) _
    have VP : Hid ((w7.alloc (two2 (join0 bs) (join0 bs) (.slice An nb cn) (.slice An nb cn))).heap[w7.heap.size]? = some (two2 (join0 bs) (join0 bs) (.slice An (join0 bs).f6.length cn) (.slice An (join0 bs).f6.length cn))) := by
      rw [LN.out]
      exact Lib.hid (heap_alloc_new w7 _)
    replace VA := Lib.hid (VA.out.below hb)
    replace VN := Lib.hid (VN.out.below hb)
    replace VB := Lib.hid (VB.out.below hb)
    replace HX := Lib.hid (blk_below HX.out hb)
    replace HB := Lib.hid (HB.out.trans (hb.mono HB.out.size))
    clear hb
    generalize w7.alloc (two2 (join0 bs) (join0 bs) (.slice An nb cn) (.slice An nb cn)) = w8 at *
    generalize w7.heap.size = pc at *
    clear w7
    have RQ := Lib.hid (rdA_two2 VP.out VN.out.2 VN.out.2)
    have hp := join_any bs [join0 bs, join0 bs] A c (some ⟨pc, 0, none⟩) 2 w8 (Kd.C_below HA.out HB.out) HC.out RQ.out (by simp)
    rw [join_two0 HBM.out] at hp
    clear RQ VP
    refine hp.mono ?_
    rintro e w9 ⟨vc, rfl, how, hb⟩
    clear hp
    replace VA := Lib.hid (VA.out.below hb)
    replace VN := Lib.hid (VN.out.below hb)
    replace VB := Lib.hid (VB.out.below hb)
    replace HX := Lib.hid (blk_below HX.out hb)
    replace HB := Lib.hid (HB.out.trans (hb.mono HB.out.size))
    clear hb
    obtain ⟨Ac, cc, rfl, hlc, hrc⟩ := how.reads
    have hb : Below w9.heap.size w9 (w9.alloc (acO (join0 bs) (.slice Ac (join0 bs).f6.length cc))) := (Below.refl _ _).alloc (Nat.le_refl _) _
    have VC := Lib.hid (AVar.new (w := w9) (a := join0 bs) hlc hrc)
    replace VA := Lib.hid (VA.out.below hb)
    replace VN := Lib.hid (VN.out.below hb)
    replace VB := Lib.hid (VB.out.below hb)
    replace HX := Lib.hid (blk_below HX.out hb)
    replace HB := Lib.hid (HB.out.trans (hb.mono HB.out.size))
    clear hb how hlc hrc
    rw [LN.out] at VC VB VA VN HB HX ⊢
    simp only [acV, join0, z26]
    go_wp2_with fail
    change Calls _ _ _ (w9.alloc (acO (join0 bs) (.slice Ac nb cc))) _
    generalize w9.alloc (acO (join0 bs) (.slice Ac nb cc)) = w10 at *
    generalize w9.heap.size = gc at *
    clear w9
    refine (num_any _ _).mono ?_
    rintro e w' ⟨rfl, rfl⟩
    go_wp2_with fail
    refine (num_any _ _).mono ?_
    rintro e w' ⟨rfl, rfl⟩
    obtain ⟨a0, a1, a2, a3, a4, a5, a6, a7, a8, a9, a10, a11, a12, al⟩ := acO_facts VA.out.1
    rw [LA.out] at a12
    simp only [one] at a0 a1 a2 a3 a4 a5 a6 a7 a8 a9 a10 a11
    obtain ⟨b0, b1, b2, b3, b4, b5, b6, b7, b8, b9, b10, b11, b12, bl⟩ := acO_facts VB.out.1
    rw [LA.out] at b12
    simp only [one] at b0 b1 b2 b3 b4 b5 b6 b7 b8 b9 b10 b11
    go_wp2_with fail
    clear a0 a1 a2 a3 a4 a5 a6 a7 a8 a9 a10 a11 a12 al
    clear b0 b1 b2 b3 b4 b5 b6 b7 b8 b9 b10 b11 b12 bl
    have hs := same_yes (one x bs) Aa Ab ca cb w10 VA.out.2.2 VA.out.2.1 VB.out.2.2 VB.out.2.1 (by have := bmay_len HBM.out; have := LA.out; have := HNB.out; omega)
    rw [LA.out] at hs
    refine hs.mono ?_
    rintro e w11 ⟨rfl, hb⟩
    replace VA := Lib.hid (VA.out.below hb)
    replace VN := Lib.hid (VN.out.below hb)
    replace VB := Lib.hid (VB.out.below hb)
    replace HX := Lib.hid (blk_below HX.out hb)
    replace HB := Lib.hid (HB.out.trans (hb.mono HB.out.size))
    replace VC := Lib.hid (VC.out.below hb)
    clear hb hs
    go_wp2_with fail
    refine (num_any _ _).mono ?_
    rintro e w' ⟨rfl, rfl⟩
    obtain ⟨c0, c1, c2, c3, c4, c5, c6, c7, c8, c9, c10, c11, c12, cl⟩ := acO_facts VC.out.1
    rw [LN.out] at c12
    simp only [join0, z26] at c0 c1 c2 c3 c4 c5 c6 c7 c8 c9 c10 c11
    obtain ⟨n0, n1, n2, n3, n4, n5, n6, n7, n8, n9, n10, n11, n12, nl⟩ := acO_facts VN.out.1
    rw [LN.out] at n12
    simp only [join0, z26] at n0 n1 n2 n3 n4 n5 n6 n7 n8 n9 n10 n11
    go_wp2_with fail
    clear c0 c1 c2 c3 c4 c5 c6 c7 c8 c9 c10 c11 c12 cl
    clear n0 n1 n2 n3 n4 n5 n6 n7 n8 n9 n10 n11 n12 nl
    have hs := same_yes (join0 bs) Ac An cc cn w11 VC.out.2.2 VC.out.2.1 VN.out.2.2 VN.out.2.1 (by have := bmay_len HBM.out; have := LN.out; have := HNB.out; omega)
    rw [LN.out] at hs
    refine hs.mono ?_
    rintro e w12 ⟨rfl, hb⟩
    replace VA := Lib.hid (VA.out.below hb)
    replace VN := Lib.hid (VN.out.below hb)
    replace VB := Lib.hid (VB.out.below hb)
    replace HX := Lib.hid (blk_below HX.out hb)
    replace HB := Lib.hid (HB.out.trans (hb.mono HB.out.size))
    replace VC := Lib.hid (VC.out.below hb)
    clear hb hs
    obtain ⟨a0, a1, a2, a3, a4, a5, a6, a7, a8, a9, a10, a11, a12, al⟩ := acO_facts VA.out.1
    rw [LA.out] at a12
    simp only [one] at a0 a1 a2 a3 a4 a5 a6 a7 a8 a9 a10 a11
    obtain ⟨n0, n1, n2, n3, n4, n5, n6, n7, n8, n9, n10, n11, n12, nl⟩ := acO_facts VN.out.1
    rw [LN.out] at n12
    simp only [join0, z26] at n0 n1 n2 n3 n4 n5 n6 n7 n8 n9 n10 n11
    obtain ⟨i0, i1, i2, i3, il⟩ := itO_facts HX.out
    go_wp2_with fail
    go_ret
    exact ⟨rfl, HB.out⟩
end Go.Proofs.Ytggaefklcpbfnaa.My
