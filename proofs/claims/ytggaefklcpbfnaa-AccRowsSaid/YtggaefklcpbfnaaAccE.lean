/- What may be known: May, walked. No statement of the seed is proved here. -/
import Derived.Test.YtggaefklcpbfnaaAccD
namespace Go.Proofs.Ytggaefklcpbfnaa.My
open Go.RowKit Pa Go.Proofs.YtggaefklcpbfnaaW.PrintWords
attribute [local go_sem high] eqA26

/-- May such be known? -/
def amay (a : S28) (bs : List Int) : Bool := bmay bs && (decide (a.f6.length ≤ bs.length + 1) && (hmay a.f6 bs.length a.f0 && (decide (0 ≤ a.f0) && (decide (a.f0 ≤ 8192) && (if a.f0 = 0 then bareB a else wm a.f2 && (wm a.f3 && (decide (a.f2 ≤ a.f3) && (emay a && (decide (a.f0 * a.f2 ≤ a.f1) && decide (a.f1 ≤ a.f0 * a.f3))))))))))
theorem mul_bound {c m : Int} (h1 : 0 ≤ c) (h2 : c ≤ 8192) (h3 : -1099511627776 ≤ m) (h4 : m ≤ 1099511627776) : -9007199254740992 ≤ c * m ∧ c * m ≤ 9007199254740992 := by
  have e1 := Int.mul_le_mul_of_nonneg_left h4 h1
  have e2 := Int.mul_le_mul_of_nonneg_left h3 h1
  omega
theorem wm_iff {x : Int} (h : wm x = true) : -1099511627776 ≤ x ∧ x ≤ 1099511627776 := by
  unfold wm at h
  rwa [decide_eq_true_eq] at h

set_option maxHeartbeats 8000000 in
set_option maxRecDepth 100000 in
theorem may_any (a : S28) (bs : List Int) (Ah : Option Addr) (ch : Nat) (A1 : Option Addr) (c1 : Nat) (w : World) (hh : RdI w Ah a.f6) (hr : RdI w A1 bs) (hc : bs.length ≤ c1) :
    Calls Try.prog 32 #[acV a (.slice Ah a.f6.length ch), .slice A1 bs.length c1] w fun e w' => e = .returned (.bool (amay a bs)) ∧ Below w.heap.size w w' := by
  have HA := Lib.hid hh
  have HR := Lib.hid hr
  have HC := Lib.hid hc
  have hB : Below w.heap.size w (w.alloc (acO a (.slice Ah a.f6.length ch))) := (Below.refl w.heap.size w).alloc (Nat.le_refl _) _
  have hg : (w.alloc (acO a (.slice Ah a.f6.length ch))).heap[w.heap.size]? = some (acO a (.slice Ah a.f6.length ch)) := heap_alloc_new w _
  have HB := Lib.hid hB
  have HG := Lib.hid hg
  clear hh hr hc hB hg
  unfold acV
  go_enter Try.func32, Try.ntmps32
  go_wp2_with fail
  show Calls _ _ _ (w.alloc (acO a (.slice Ah a.f6.length ch))) _
  generalize w.alloc (acO a (.slice Ah a.f6.length ch)) = w1 at *
  obtain ⟨a0, a1, a2, a3, a4, a5, a6, a7, a8, a9, a10, a11, a12, al⟩ := acO_facts HG.out
  refine (bm_any bs A1 c1 _ (Kd.C_below HR.out HB.out) HC.out).mono ?_
  rintro e w2 ⟨rfl, hb⟩
  replace HG := Lib.hid (blk_below HG.out hb)
  replace HB := Lib.hid (HB.out.trans (hb.mono HB.out.size))
  clear hb a0 a1 a2 a3 a4 a5 a6 a7 a8 a9 a10 a11 a12 al
  obtain ⟨a0, a1, a2, a3, a4, a5, a6, a7, a8, a9, a10, a11, a12, al⟩ := acO_facts HG.out
  by_cases hbm : bmay bs = true
  · have hb8 := bmay_len hbm
    have HBM := Lib.hid hbm
    rw [hbm]
    clear hbm
    by_cases hl : a.f6.length ≤ bs.length + 1
    · have HL := Lib.hid hl
      have hdl : decide ((bs.length : Int) + 1 < a.f6.length) = false := decide_eq_false (by omega)
      clear hl
      go_wp2_with fail
      refine (hist_any a w.heap.size Ah ch A1 c1 bs.length _ HG.out (Kd.C_below HA.out HB.out) (by have := HL.out; omega) hb8).mono ?_
      rintro e w3 ⟨rfl, hb⟩
      replace HG := Lib.hid (blk_below HG.out hb)
      replace HB := Lib.hid (HB.out.trans (hb.mono HB.out.size))
      clear hb a0 a1 a2 a3 a4 a5 a6 a7 a8 a9 a10 a11 a12 al
      obtain ⟨a0, a1, a2, a3, a4, a5, a6, a7, a8, a9, a10, a11, a12, al⟩ := acO_facts HG.out
      by_cases hm : hmay a.f6 bs.length a.f0 = true
      · have HHM := Lib.hid hm
        rw [hm]
        clear hm
        by_cases h0 : 0 ≤ a.f0
        · have hdc : decide (a.f0 < 0) = false := decide_eq_false (by omega)
          by_cases h9 : a.f0 ≤ 8192
          · have H0 := Lib.hid (And.intro h0 h9)
            have hdd : decide (8192 < a.f0) = false := decide_eq_false (by omega)
            clear h0 h9
            by_cases hz : a.f0 = 0
            · have hres : amay a bs = bareB a := by unfold amay; rw [HBM.out, decide_eq_true HL.out, HHM.out, decide_eq_true H0.out.1, decide_eq_true H0.out.2, if_pos hz]; rfl
              have HRES := Lib.hid hres
              clear hres
              have hzb : (a.f0 == 0) = true := by rw [beq_iff_eq]; exact hz
              clear hz
              go_wp2_with fail
              refine (bare_any a w.heap.size (.slice Ah a.f6.length ch) _ HG.out).mono ?_
              rintro e w4 ⟨rfl, hb⟩
              replace HG := Lib.hid (blk_below HG.out hb)
              replace HB := Lib.hid (HB.out.trans (hb.mono HB.out.size))
              clear hb a0 a1 a2 a3 a4 a5 a6 a7 a8 a9 a10 a11 a12 al
              obtain ⟨a0, a1, a2, a3, a4, a5, a6, a7, a8, a9, a10, a11, a12, al⟩ := acO_facts HG.out
              go_wp2_with fail
              go_ret
              exact ⟨by rw [HRES.out]; rfl, HB.out⟩
            · have HZ := Lib.hid hz
              have hzb : (a.f0 == 0) = false := beq_eq_false_iff_ne.2 hz
              clear hz
              go_wp2_with fail
              refine (wm_any a.f2 _).mono ?_
              rintro e w4 ⟨rfl, hb⟩
              replace HG := Lib.hid (blk_below HG.out hb)
              replace HB := Lib.hid (HB.out.trans (hb.mono HB.out.size))
              clear hb a0 a1 a2 a3 a4 a5 a6 a7 a8 a9 a10 a11 a12 al
              obtain ⟨a0, a1, a2, a3, a4, a5, a6, a7, a8, a9, a10, a11, a12, al⟩ := acO_facts HG.out
              by_cases hw2 : wm a.f2 = true
              · have HW1 := Lib.hid hw2
                rw [hw2]
                clear hw2
                go_wp2_with fail
                refine (wm_any a.f3 _).mono ?_
                rintro e w5 ⟨rfl, hb⟩
                replace HG := Lib.hid (blk_below HG.out hb)
                replace HB := Lib.hid (HB.out.trans (hb.mono HB.out.size))
                clear hb a0 a1 a2 a3 a4 a5 a6 a7 a8 a9 a10 a11 a12 al
                obtain ⟨a0, a1, a2, a3, a4, a5, a6, a7, a8, a9, a10, a11, a12, al⟩ := acO_facts HG.out
                by_cases hw3 : wm a.f3 = true
                · have HW2 := Lib.hid (And.intro HW1.out hw3)
                  have HW := Lib.hid (And.intro (wm_iff HW1.out) (wm_iff hw3))
                  rw [hw3]
                  clear hw3
                  by_cases ho : a.f2 ≤ a.f3
                  · have HO := Lib.hid ho
                    have hd1 : decide (a.f2 ≤ a.f3) = true := decide_eq_true ho
                    clear ho
                    go_wp2_with fail
                    refine (ends_any a w.heap.size (.slice Ah a.f6.length ch) _ HG.out).mono ?_
                    rintro e w6 ⟨rfl, hb⟩
                    replace HG := Lib.hid (blk_below HG.out hb)
                    replace HB := Lib.hid (HB.out.trans (hb.mono HB.out.size))
                    clear hb a0 a1 a2 a3 a4 a5 a6 a7 a8 a9 a10 a11 a12 al
                    obtain ⟨a0, a1, a2, a3, a4, a5, a6, a7, a8, a9, a10, a11, a12, al⟩ := acO_facts HG.out
                    by_cases he : emay a = true
                    · rw [he]
                      have HE := Lib.hid he
                      clear he
                      obtain ⟨m1, m2⟩ := mul_bound H0.out.1 H0.out.2 HW.out.1.1 HW.out.1.2
                      obtain ⟨m3, m4⟩ := mul_bound H0.out.1 H0.out.2 HW.out.2.1 HW.out.2.2
                      have hv1 : wrap64 (a.f0 * a.f2) = a.f0 * a.f2 := by unfold wrap64; omega
                      have hv2 : wrap64 (a.f0 * a.f3) = a.f0 * a.f3 := by unfold wrap64; omega
                      have hv3 : IntKind.i64.wrap (a.f0 * a.f2) = a.f0 * a.f2 := by rw [IntKind.wrap_i64]; omega
                      have hv4 : IntKind.i64.wrap (a.f0 * a.f3) = a.f0 * a.f3 := by rw [IntKind.wrap_i64]; omega
                      by_cases hs1 : a.f0 * a.f2 ≤ a.f1
                      · by_cases hs2 : a.f1 ≤ a.f0 * a.f3
                        · have hres : amay a bs = true := by unfold amay; rw [HBM.out, decide_eq_true HL.out, HHM.out, decide_eq_true H0.out.1, decide_eq_true H0.out.2, if_neg HZ.out, HW2.out.1, HW2.out.2, decide_eq_true HO.out, HE.out, decide_eq_true hs1, decide_eq_true hs2]; rfl
                          have HRES := Lib.hid hres
                          clear hres
                          have hd2 : decide (a.f0 * a.f2 ≤ a.f1) = true := decide_eq_true hs1
                          have hd3 : decide (a.f1 ≤ a.f0 * a.f3) = true := decide_eq_true hs2
                          clear hs1 hs2
                          go_wp2_with fail
                          go_ret
                          exact ⟨by rw [HRES.out]; rfl, HB.out⟩
                        · have hres : amay a bs = false := by unfold amay; rw [HBM.out, decide_eq_true HL.out, HHM.out, decide_eq_true H0.out.1, decide_eq_true H0.out.2, if_neg HZ.out, HW2.out.1, HW2.out.2, decide_eq_true HO.out, HE.out, decide_eq_true hs1, decide_eq_false hs2]; rfl
                          have HRES := Lib.hid hres
                          clear hres
                          have hd2 : decide (a.f0 * a.f2 ≤ a.f1) = true := decide_eq_true hs1
                          have hd3 : decide (a.f1 ≤ a.f0 * a.f3) = false := decide_eq_false hs2
                          clear hs1 hs2
                          go_wp2_with fail
                          go_ret
                          exact ⟨by rw [HRES.out]; rfl, HB.out⟩
                      · have hres : amay a bs = false := by unfold amay; rw [HBM.out, decide_eq_true HL.out, HHM.out, decide_eq_true H0.out.1, decide_eq_true H0.out.2, if_neg HZ.out, HW2.out.1, HW2.out.2, decide_eq_true HO.out, HE.out, decide_eq_false hs1]; rfl
                        have HRES := Lib.hid hres
                        clear hres
                        have hd2 : decide (a.f0 * a.f2 ≤ a.f1) = false := decide_eq_false hs1
                        clear hs1
                        go_wp2_with fail
                        go_ret
                        exact ⟨by rw [HRES.out]; rfl, HB.out⟩
                    · have he' := bne_ he
                      rw [he']
                      have hres : amay a bs = false := by unfold amay; rw [HBM.out, decide_eq_true HL.out, HHM.out, decide_eq_true H0.out.1, decide_eq_true H0.out.2, if_neg HZ.out, HW2.out.1, HW2.out.2, decide_eq_true HO.out, he']; rfl
                      have HRES := Lib.hid hres
                      clear hres
                      clear he he'
                      go_wp2_with fail
                      go_ret
                      exact ⟨by rw [HRES.out]; rfl, HB.out⟩
                  · have hres : amay a bs = false := by unfold amay; rw [HBM.out, decide_eq_true HL.out, HHM.out, decide_eq_true H0.out.1, decide_eq_true H0.out.2, if_neg HZ.out, HW2.out.1, HW2.out.2, decide_eq_false ho]; rfl
                    have HRES := Lib.hid hres
                    clear hres
                    have hd1 : decide (a.f2 ≤ a.f3) = false := decide_eq_false ho
                    clear ho
                    go_wp2_with fail
                    go_ret
                    exact ⟨by rw [HRES.out]; rfl, HB.out⟩
                · have hw3' := bne_ hw3
                  rw [hw3']
                  have hres : amay a bs = false := by unfold amay; rw [HBM.out, decide_eq_true HL.out, HHM.out, decide_eq_true H0.out.1, decide_eq_true H0.out.2, if_neg HZ.out, HW1.out, hw3']; rfl
                  have HRES := Lib.hid hres
                  clear hres
                  clear hw3 hw3'
                  go_wp2_with fail
                  go_ret
                  exact ⟨by rw [HRES.out]; rfl, HB.out⟩
              · have hw2' := bne_ hw2
                rw [hw2']
                have hres : amay a bs = false := by unfold amay; rw [HBM.out, decide_eq_true HL.out, HHM.out, decide_eq_true H0.out.1, decide_eq_true H0.out.2, if_neg HZ.out, hw2']; rfl
                have HRES := Lib.hid hres
                clear hres
                clear hw2 hw2'
                go_wp2_with fail
                go_ret
                exact ⟨by rw [HRES.out]; rfl, HB.out⟩
          · have hres : amay a bs = false := by unfold amay; rw [HBM.out, decide_eq_true HL.out, HHM.out, decide_eq_true h0, decide_eq_false h9]; rfl
            have HRES := Lib.hid hres
            clear hres
            have hdd : decide (8192 < a.f0) = true := decide_eq_true (by omega)
            clear h0 h9
            go_wp2_with fail
            go_ret
            exact ⟨by rw [HRES.out]; rfl, HB.out⟩
        · have hres : amay a bs = false := by unfold amay; rw [HBM.out, decide_eq_true HL.out, HHM.out, decide_eq_false h0]; rfl
          have HRES := Lib.hid hres
          clear hres
          have hdc : decide (a.f0 < 0) = true := decide_eq_true (by omega)
          clear h0
          go_wp2_with fail
          go_ret
          exact ⟨by rw [HRES.out]; rfl, HB.out⟩
      · have hm' := bne_ hm
        rw [hm']
        have hres : amay a bs = false := by unfold amay; rw [HBM.out, decide_eq_true HL.out, hm']; rfl
        have HRES := Lib.hid hres
        clear hres
        clear hm hm'
        go_wp2_with fail
        go_ret
        exact ⟨by rw [HRES.out]; rfl, HB.out⟩
    · have hres : amay a bs = false := by unfold amay; rw [HBM.out, decide_eq_false hl]; rfl
      have HRES := Lib.hid hres
      clear hres
      have hdl : decide ((bs.length : Int) + 1 < a.f6.length) = true := decide_eq_true (by omega)
      clear hl
      go_wp2_with fail
      go_ret
      exact ⟨by rw [HRES.out]; rfl, HB.out⟩
  · have hbm' := bne_ hbm
    rw [hbm']
    have hres : amay a bs = false := by unfold amay; rw [hbm']; rfl
    have HRES := Lib.hid hres
    clear hres
    clear hbm hbm'
    go_wp2_with fail
    go_ret
    exact ⟨by rw [HRES.out]; rfl, HB.out⟩
end Go.Proofs.Ytggaefklcpbfnaa.My
