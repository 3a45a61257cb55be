/- What is told of a window: Value, walked. No statement of the seed is proved here. -/
import Derived.Test.YtggaefklcpbfnaaLowA
import Derived.Test.YtggaefklcpbfnaaAccP
namespace Go.Proofs.Ytggaefklcpbfnaa.My
open Go.RowKit Pa Go.Proofs.YtggaefklcpbfnaaW.PrintWords

def tabO : Obj := .cells #[.func (.func 60) #[] #[], .func (.func 61) #[] #[], .func (.func 62) #[] #[], .func (.func 63) #[] #[], .func (.func 64) #[] #[], .func (.func 65) #[] #[], .func (.func 66) #[] #[], .func (.func 67) #[] #[]] 69
theorem tabO_facts {w : World} {b : Nat} (h : w.heap[b]? = some tabO) : w.cell? ⟨b, 0, none⟩ = some (.func (.func 60) #[] #[]) ∧ w.cell? ⟨b, 1, none⟩ = some (.func (.func 61) #[] #[]) ∧ w.cell? ⟨b, 2, none⟩ = some (.func (.func 62) #[] #[]) ∧ w.cell? ⟨b, 3, none⟩ = some (.func (.func 63) #[] #[]) ∧ w.cell? ⟨b, 4, none⟩ = some (.func (.func 64) #[] #[]) ∧ w.cell? ⟨b, 5, none⟩ = some (.func (.func 65) #[] #[]) ∧ w.cell? ⟨b, 6, none⟩ = some (.func (.func 66) #[] #[]) ∧ w.cell? ⟨b, 7, none⟩ = some (.func (.func 67) #[] #[]) :=
  ⟨(blk_cell h 0).trans rfl, (blk_cell h 1).trans rfl, (blk_cell h 2).trans rfl, (blk_cell h 3).trans rfl, (blk_cell h 4).trans rfl, (blk_cell h 5).trans rfl, (blk_cell h 6).trans rfl, (blk_cell h 7).trans rfl⟩
set_option maxHeartbeats 2000000 in
set_option maxRecDepth 100000 in
theorem table_any (w : World) :
    Calls Try.prog 40 #[] w fun e w' => e = .returned (.slice (some ⟨w.heap.size, 0, none⟩) 8 8) ∧ w' = w.alloc tabO := by
  go_enter Try.func40, Try.ntmps40
  go_wp2_with fail
  go_ret
  exact ⟨rfl, rfl⟩

/-- What is told. -/
def lowOut (q : Qy) (bs : List Int) (a : S28) : Int × Bool × List Int :=
  if q.agg = 0 then (a.f0, false, []) else if q.agg = 1 then (sumVal a.f1, sumOver a.f1, []) else if q.agg = 2 then (a.f2, false, []) else if q.agg = 3 then (a.f3, false, []) else if q.agg = 4 then (a.f4.f3, false, []) else if q.agg = 5 then (a.f5.f3, false, []) else if q.agg = 6 then (0, false, a.f6) else (rankGo a.f6 bs a.f3 bs.length 0 (rankK q.rank a.f0), false, [])
def valMay (q : Qy) (bs : List Int) (a : S28) : Bool := decide (0 ≤ q.agg) && (decide (q.agg < 8) && (decide (0 ≤ q.rank) && (decide (q.rank ≤ 1000) && (amay a bs && (!decide (a.f0 = 0) && !(decide (q.agg = 7) && decide (bs.length = 0)))))))
def valRes (q : Qy) (bs : List Int) (a : S28) : (Int × Bool × List Int) × Int := if valMay q bs a = true then (lowOut q bs a, 0) else ((0, false, []), 200)
/-- The end of Value. -/
theorem results_val {fn : Func} {p u : Tmp} (h : fn.results = #[.cell p 31, .tmp u]) (tmps : Array Value) (w : World) (g : Nat) (n : Int) (o : Bool) (v : Value) (hp : tmps.getD p undef = .pointer (some ⟨g, 0, none⟩)) (hg : w.heap[g]? = some (ouO n o v)) :
    (results fn tmps).run Try.prog w = .ok (.tuple #[ouV n o v, tmps.getD u undef]) w :=
  results_ct h tmps w g 31 _ (0, 0) _ hp hg Try.underlying31 rfl (by kernel_rfl)

theorem Own.lower {w : World} {b b1 : Nat} {v : Value} {l : List Int} (h : Own w b v l) (hb : b1 ≤ b) : Own w b1 v l := own_lower h hb
set_option maxHeartbeats 8000000 in
set_option maxRecDepth 100000 in
theorem value_any (q : Qy) (bs : List Int) (a : S28) (A1 : Option Addr) (c1 : Nat) (Ah : Option Addr) (ch : Nat) (w : World) (hr : RdI w A1 bs) (hc : bs.length ≤ c1) (hh : RdI w Ah a.f6) (hch : a.f6.length ≤ ch) :
    Calls Try.prog 17 #[.agg #[.int .i64 q.k, .int .i64 q.agg, .int .i64 q.size, .int .i64 q.slide, .slice A1 bs.length c1, .int .i64 q.rank], acV a (.slice Ah a.f6.length ch)] w fun e w' => ∃ v, e = .returned (.tuple #[ouV (valRes q bs a).1.1 (valRes q bs a).1.2.1 v, .int .i64 (valRes q bs a).2]) ∧ Own w' w.heap.size v (valRes q bs a).1.2.2 ∧ Below w.heap.size w w' := by
  have hB : Below w.heap.size w (((w.alloc (quO q (.slice A1 bs.length c1))).alloc (acO a (.slice Ah a.f6.length ch))).alloc (ouO 0 false (.slice none 0 0))) := (((Below.refl w.heap.size w).alloc (Nat.le_refl _) _).alloc (by simp) _).alloc (by simp; omega) _
  have hq0 : (((w.alloc (quO q (.slice A1 bs.length c1))).alloc (acO a (.slice Ah a.f6.length ch))).alloc (ouO 0 false (.slice none 0 0))).heap[w.heap.size]? = some (quO q (.slice A1 bs.length c1)) := blk_below (heap_alloc_new w _) (((Below.refl _ _).alloc (Nat.le_refl _) _).alloc (by simp) _)
  have ha0 : (((w.alloc (quO q (.slice A1 bs.length c1))).alloc (acO a (.slice Ah a.f6.length ch))).alloc (ouO 0 false (.slice none 0 0))).heap[w.heap.size + 1]? = some (acO a (.slice Ah a.f6.length ch)) := by
    have := blk_below (heap_alloc_new (w.alloc (quO q (.slice A1 bs.length c1))) (acO a (.slice Ah a.f6.length ch))) ((Below.refl _ _).alloc (Nat.le_refl _) (ouO 0 false (.slice none 0 0)))
    simpa using this
  have ho0 : (((w.alloc (quO q (.slice A1 bs.length c1))).alloc (acO a (.slice Ah a.f6.length ch))).alloc (ouO 0 false (.slice none 0 0))).heap[w.heap.size + 2]? = some (ouO 0 false (.slice none 0 0)) := by
    have := heap_alloc_new ((w.alloc (quO q (.slice A1 bs.length c1))).alloc (acO a (.slice Ah a.f6.length ch))) (ouO 0 false (.slice none 0 0))
    simpa using this
  have hs0 : (((w.alloc (quO q (.slice A1 bs.length c1))).alloc (acO a (.slice Ah a.f6.length ch))).alloc (ouO 0 false (.slice none 0 0))).heap.size = w.heap.size + 3 := by simp
  have HR := Lib.hid hr
  have HC := Lib.hid hc
  have HH := Lib.hid hh
  have HCH := Lib.hid hch
  have HB := Lib.hid hB
  have HQ := Lib.hid hq0
  have HA := Lib.hid ha0
  have HO := Lib.hid ho0
  have HS := Lib.hid hs0
  clear hr hc hh hch hB hq0 ha0 ho0 hs0
  obtain ⟨qk, agg, qs, ql, rank⟩ := q
  unfold acV
  go_enter Try.func17, Try.ntmps17
  go_wp2_with fail
  show Calls _ _ _ (((w.alloc (quO ⟨qk, agg, qs, ql, rank⟩ (.slice A1 bs.length c1))).alloc (acO a (.slice Ah a.f6.length ch))).alloc (ouO 0 false (.slice none 0 0))) _
  generalize ((w.alloc (quO ⟨qk, agg, qs, ql, rank⟩ (.slice A1 bs.length c1))).alloc (acO a (.slice Ah a.f6.length ch))).alloc (ouO 0 false (.slice none 0 0)) = w3 at *
  refine (table_any w3).mono ?_
  rintro e w4 ⟨rfl, rfl⟩
  have hb4 : Below w3.heap.size w3 (w3.alloc tabO) := (Below.refl _ _).alloc (Nat.le_refl _) _
  have HT := Lib.hid (show (w3.alloc tabO).heap[w.heap.size + 3]? = some tabO by rw [← HS.out]; exact heap_alloc_new w3 tabO)
  have HQ4 := Lib.hid (blk_below HQ.out hb4)
  have HA4 := Lib.hid (blk_below HA.out hb4)
  have HO4 := Lib.hid (blk_below HO.out hb4)
  have HB4 := Lib.hid (HB.out.trans (hb4.mono HB.out.size))
  rw [HS.out]
  clear HB HQ HA HO hb4 HS
  generalize w3.alloc tabO = w4 at *
  obtain ⟨q0, q1, q2, q3, q4, q5, qlt⟩ := quO_facts HQ4.out
  obtain ⟨a0, a1, a2, a3, a4, a5, a6, a7, a8, a9, a10, a11, a12, al⟩ := acO_facts HA4.out
  obtain ⟨z0, z1, z2, zl⟩ := ouO_facts HO4.out
  have hf := fun j => blk_free HO4.out j
  simp only at q0 q1 q2 q3 q4 q5
  by_cases h0 : agg < 0
  · have hd0 : decide (agg < 0) = true := decide_eq_true h0
    have HRES := Lib.hid (show valRes ⟨qk, agg, qs, ql, rank⟩ bs a = ((0, false, []), 200) by unfold valRes; rw [if_neg (by unfold valMay; simp only [Bool.and_eq_true, decide_eq_true_eq, Bool.not_eq_true', decide_eq_false_iff_not, Bool.and_eq_false_imp]; intro hx; omega)])
    go_wp2_with fail
    refine bodyPost_ret (results_val rfl _ _ (w.heap.size + 2) 0 false (.slice none 0 0) rfl (ouO_put HO4.out)) rfl ?_
    have hcg := ouO_chg w4 (w.heap.size + 2) 0 false (.slice none 0 0)
    exact ⟨.slice none 0 0, by rw [HRES.out]; rfl, by rw [HRES.out]; exact Own.nil _ _, Chg.base HB4.out hcg HB4.out.size (fun i hi => by omega)⟩
  · have hd0 : decide (agg < 0) = false := decide_eq_false h0
    by_cases h1 : 8 ≤ agg
    · have hd1 : decide (8 ≤ agg) = true := decide_eq_true h1
      have HRES := Lib.hid (show valRes ⟨qk, agg, qs, ql, rank⟩ bs a = ((0, false, []), 200) by unfold valRes; rw [if_neg (by unfold valMay; simp only [Bool.and_eq_true, decide_eq_true_eq, Bool.not_eq_true', decide_eq_false_iff_not, Bool.and_eq_false_imp]; intro hx; omega)])
      go_wp2_with fail
      refine bodyPost_ret (results_val rfl _ _ (w.heap.size + 2) 0 false (.slice none 0 0) rfl (ouO_put HO4.out)) rfl ?_
      have hcg := ouO_chg w4 (w.heap.size + 2) 0 false (.slice none 0 0)
      exact ⟨.slice none 0 0, by rw [HRES.out]; rfl, by rw [HRES.out]; exact Own.nil _ _, Chg.base HB4.out hcg HB4.out.size (fun i hi => by omega)⟩
    · have hd1 : decide (8 ≤ agg) = false := decide_eq_false h1
      by_cases h2 : rank < 0
      · have hd2 : decide (rank < 0) = true := decide_eq_true h2
        have HRES := Lib.hid (show valRes ⟨qk, agg, qs, ql, rank⟩ bs a = ((0, false, []), 200) by unfold valRes; rw [if_neg (by unfold valMay; simp only [Bool.and_eq_true, decide_eq_true_eq, Bool.not_eq_true', decide_eq_false_iff_not, Bool.and_eq_false_imp]; intro hx; omega)])
        go_wp2_with fail
        refine bodyPost_ret (results_val rfl _ _ (w.heap.size + 2) 0 false (.slice none 0 0) rfl (ouO_put HO4.out)) rfl ?_
        have hcg := ouO_chg w4 (w.heap.size + 2) 0 false (.slice none 0 0)
        exact ⟨.slice none 0 0, by rw [HRES.out]; rfl, by rw [HRES.out]; exact Own.nil _ _, Chg.base HB4.out hcg HB4.out.size (fun i hi => by omega)⟩
      · have hd2 : decide (rank < 0) = false := decide_eq_false h2
        by_cases h3 : 1000 < rank
        · have hd3 : decide (1000 < rank) = true := decide_eq_true h3
          have HRES := Lib.hid (show valRes ⟨qk, agg, qs, ql, rank⟩ bs a = ((0, false, []), 200) by unfold valRes; rw [if_neg (by unfold valMay; simp only [Bool.and_eq_true, decide_eq_true_eq, Bool.not_eq_true', decide_eq_false_iff_not, Bool.and_eq_false_imp]; intro hx; omega)])
          go_wp2_with fail
          refine bodyPost_ret (results_val rfl _ _ (w.heap.size + 2) 0 false (.slice none 0 0) rfl (ouO_put HO4.out)) rfl ?_
          have hcg := ouO_chg w4 (w.heap.size + 2) 0 false (.slice none 0 0)
          exact ⟨.slice none 0 0, by rw [HRES.out]; rfl, by rw [HRES.out]; exact Own.nil _ _, Chg.base HB4.out hcg HB4.out.size (fun i hi => by omega)⟩
        · have hd3 : decide (1000 < rank) = false := decide_eq_false h3
          go_wp2_with fail
          clear q0 q1 q2 q3 q4 q5 qlt a0 a1 a2 a3 a4 a5 a6 a7 a8 a9 a10 a11 a12 al z0 z1 z2 zl hf
          refine (may_any a bs Ah ch A1 c1 _ (Kd.C_below HH.out HB4.out) (Kd.C_below HR.out HB4.out) HC.out).mono ?_
          rintro e w5 ⟨rfl, hb⟩
          have HT5 := Lib.hid (blk_below HT.out hb)
          have HQ5 := Lib.hid (blk_below HQ4.out hb)
          have HA5 := Lib.hid (blk_below HA4.out hb)
          have HO5 := Lib.hid (blk_below HO4.out hb)
          have HB5 := Lib.hid (HB4.out.trans (hb.mono HB4.out.size))
          clear hb HT HQ4 HA4 HO4 HB4
          obtain ⟨q0, q1, q2, q3, q4, q5, qlt⟩ := quO_facts HQ5.out
          obtain ⟨a0, a1, a2, a3, a4, a5, a6, a7, a8, a9, a10, a11, a12, al⟩ := acO_facts HA5.out
          obtain ⟨z0, z1, z2, zl⟩ := ouO_facts HO5.out
          obtain ⟨t0, t1, t2, t3, t4, t5, t6, t7⟩ := tabO_facts HT5.out
          have hf := fun j => blk_free HO5.out j
          simp only at q0 q1 q2 q3 q4 q5
          by_cases hm : amay a bs = true
          rotate_left 1
          · have hm' := bne_ hm
            rw [hm']
            have HRES := Lib.hid (show valRes ⟨qk, agg, qs, ql, rank⟩ bs a = ((0, false, []), 200) by unfold valRes; rw [if_neg (by unfold valMay; simp only [Bool.and_eq_true, decide_eq_true_eq, Bool.not_eq_true', decide_eq_false_iff_not, Bool.and_eq_false_imp]; intro hx; exact hm hx.2.2.2.2.1)])
            go_wp2_with fail
            refine bodyPost_ret (results_val rfl _ _ (w.heap.size + 2) 0 false (.slice none 0 0) rfl (ouO_put HO5.out)) rfl ?_
            have hcg := ouO_chg w5 (w.heap.size + 2) 0 false (.slice none 0 0)
            exact ⟨.slice none 0 0, by rw [HRES.out]; rfl, by rw [HRES.out]; exact Own.nil _ _, Chg.base HB5.out hcg HB5.out.size (fun i hi => by omega)⟩
          · rw [hm]
            have HM := Lib.hid hm
            have HF := Lib.hid (amay_fit hm)
            clear hm
            by_cases h5 : a.f0 = 0
            · have hd5 : (a.f0 == 0) = true := by rw [beq_iff_eq]; exact h5
              have H5 := Lib.hid h5
              clear h5
              have HRES := Lib.hid (show valRes ⟨qk, agg, qs, ql, rank⟩ bs a = ((0, false, []), 200) by unfold valRes; rw [if_neg (by unfold valMay; simp only [Bool.and_eq_true, decide_eq_true_eq, Bool.not_eq_true', decide_eq_false_iff_not, Bool.and_eq_false_imp]; intro hx; exact hx.2.2.2.2.2.1 H5.out)])
              go_wp2_with fail
              refine bodyPost_ret (results_val rfl _ _ (w.heap.size + 2) 0 false (.slice none 0 0) rfl (ouO_put HO5.out)) rfl ?_
              have hcg := ouO_chg w5 (w.heap.size + 2) 0 false (.slice none 0 0)
              exact ⟨.slice none 0 0, by rw [HRES.out]; rfl, by rw [HRES.out]; exact Own.nil _ _, Chg.base HB5.out hcg HB5.out.size (fun i hi => by omega)⟩
            · have hd5 : (a.f0 == 0) = false := beq_eq_false_iff_ne.2 h5
              have H5 := Lib.hid h5
              clear h5
              by_cases h6 : agg = 7 ∧ bs.length = 0
              · obtain ⟨h6, h7⟩ := h6
                subst h6
                have hd6 : ((bs.length : Int) == 0) = true := by rw [beq_iff_eq]; omega
                have H7 := Lib.hid h7
                clear h7
                have HRES := Lib.hid (show valRes ⟨qk, 7, qs, ql, rank⟩ bs a = ((0, false, []), 200) by unfold valRes; rw [if_neg (by unfold valMay; simp only [Bool.and_eq_true, decide_eq_true_eq, Bool.not_eq_true', decide_eq_false_iff_not, Bool.and_eq_false_imp]; intro hx; exact hx.2.2.2.2.2.2 trivial H7.out)])
                go_wp2_with fail
                refine bodyPost_ret (results_val rfl _ _ (w.heap.size + 2) 0 false (.slice none 0 0) rfl (ouO_put HO5.out)) rfl ?_
                have hcg := ouO_chg w5 (w.heap.size + 2) 0 false (.slice none 0 0)
                exact ⟨.slice none 0 0, by rw [HRES.out]; rfl, by rw [HRES.out]; exact Own.nil _ _, Chg.base HB5.out hcg HB5.out.size (fun i hi => by omega)⟩
              · have HRES := Lib.hid (show valRes ⟨qk, agg, qs, ql, rank⟩ bs a = (lowOut ⟨qk, agg, qs, ql, rank⟩ bs a, 0) by unfold valRes; rw [if_pos (by unfold valMay; simp only [Bool.and_eq_true, decide_eq_true_eq, Bool.not_eq_true', decide_eq_false_iff_not, Bool.and_eq_false_imp]; exact ⟨by omega, by omega, by omega, by omega, HM.out, H5.out, fun e1 e2 => h6 ⟨e1, e2⟩⟩)])
                rcases (by omega : agg = 0 ∨ agg = 1 ∨ agg = 2 ∨ agg = 3 ∨ agg = 4 ∨ agg = 5 ∨ agg = 6 ∨ agg = 7) with rfl | rfl | rfl | rfl | rfl | rfl | rfl | rfl
                · clear hd0 hd1 h0 h1 h6
                  go_wp2_with fail
                  clear q0 q1 q2 q3 q4 q5 qlt a0 a1 a2 a3 a4 a5 a6 a7 a8 a9 a10 a11 a12 al z0 z1 z2 zl t0 t1 t2 t3 t4 t5 t6 t7 hf
                  refine (low_count_any a _ w.heap.size (w.heap.size + 1) _ HA5.out).mono ?_
                  rintro e w6 ⟨rfl, hb⟩
                  have hz6 := blk_below HO5.out hb
                  have HB6 := Lib.hid (HB5.out.trans (hb.mono HB5.out.size))
                  obtain ⟨z0, z1, z2, zl⟩ := ouO_facts hz6
                  have hf := fun j => blk_free hz6 j
                  have HZ6 := Lib.hid hz6
                  clear hz6
                  clear hb
                  obtain ⟨tn, htn⟩ : ∃ n : Int, n = a.f0 := ⟨_, rfl⟩
                  obtain ⟨tb, htb⟩ : ∃ b : Bool, b = false := ⟨_, rfl⟩
                  unfold ouV
                  rw [← htn]
                  subst htb
                  have HTN := Lib.hid htn
                  clear htn
                  go_wp2_with fail
                  refine bodyPost_ret (results_val rfl _ _ (w.heap.size + 2) tn false (.slice none 0 0) rfl (ouO_put HZ6.out)) rfl ?_
                  have hcg := ouO_chg w6 (w.heap.size + 2) tn false (.slice none 0 0)
                  exact ⟨(.slice none 0 0), by rw [HRES.out, HTN.out]; rfl, by rw [HRES.out]; exact Own.nil _ _, Chg.base HB6.out hcg HB6.out.size (fun i hi => by omega)⟩
                · clear hd0 hd1 h0 h1 h6
                  go_wp2_with fail
                  clear q0 q1 q2 q3 q4 q5 qlt a0 a1 a2 a3 a4 a5 a6 a7 a8 a9 a10 a11 a12 al z0 z1 z2 zl t0 t1 t2 t3 t4 t5 t6 t7 hf
                  refine (low_sum_any a _ w.heap.size (w.heap.size + 1) _ HA5.out).mono ?_
                  rintro e w6 ⟨rfl, hb⟩
                  have hz6 := blk_below HO5.out hb
                  have HB6 := Lib.hid (HB5.out.trans (hb.mono HB5.out.size))
                  obtain ⟨z0, z1, z2, zl⟩ := ouO_facts hz6
                  have hf := fun j => blk_free hz6 j
                  have HZ6 := Lib.hid hz6
                  clear hz6
                  clear hb
                  obtain ⟨tn, htn⟩ : ∃ n : Int, n = (sumVal a.f1) := ⟨_, rfl⟩
                  obtain ⟨tb, htb⟩ : ∃ b : Bool, b = (sumOver a.f1) := ⟨_, rfl⟩
                  unfold ouV
                  rw [← htn]
                  rw [← htb]
                  have HTN := Lib.hid htn
                  clear htn
                  have HTB := Lib.hid htb
                  clear htb
                  go_wp2_with fail
                  refine bodyPost_ret (results_val rfl _ _ (w.heap.size + 2) tn tb (.slice none 0 0) rfl (ouO_put HZ6.out)) rfl ?_
                  have hcg := ouO_chg w6 (w.heap.size + 2) tn tb (.slice none 0 0)
                  exact ⟨(.slice none 0 0), by rw [HRES.out, HTN.out, HTB.out]; rfl, by rw [HRES.out]; exact Own.nil _ _, Chg.base HB6.out hcg HB6.out.size (fun i hi => by omega)⟩
                · clear hd0 hd1 h0 h1 h6
                  go_wp2_with fail
                  clear q0 q1 q2 q3 q4 q5 qlt a0 a1 a2 a3 a4 a5 a6 a7 a8 a9 a10 a11 a12 al z0 z1 z2 zl t0 t1 t2 t3 t4 t5 t6 t7 hf
                  refine (low_least_any a _ w.heap.size (w.heap.size + 1) _ HA5.out).mono ?_
                  rintro e w6 ⟨rfl, hb⟩
                  have hz6 := blk_below HO5.out hb
                  have HB6 := Lib.hid (HB5.out.trans (hb.mono HB5.out.size))
                  obtain ⟨z0, z1, z2, zl⟩ := ouO_facts hz6
                  have hf := fun j => blk_free hz6 j
                  have HZ6 := Lib.hid hz6
                  clear hz6
                  clear hb
                  obtain ⟨tn, htn⟩ : ∃ n : Int, n = a.f2 := ⟨_, rfl⟩
                  obtain ⟨tb, htb⟩ : ∃ b : Bool, b = false := ⟨_, rfl⟩
                  unfold ouV
                  rw [← htn]
                  subst htb
                  have HTN := Lib.hid htn
                  clear htn
                  go_wp2_with fail
                  refine bodyPost_ret (results_val rfl _ _ (w.heap.size + 2) tn false (.slice none 0 0) rfl (ouO_put HZ6.out)) rfl ?_
                  have hcg := ouO_chg w6 (w.heap.size + 2) tn false (.slice none 0 0)
                  exact ⟨(.slice none 0 0), by rw [HRES.out, HTN.out]; rfl, by rw [HRES.out]; exact Own.nil _ _, Chg.base HB6.out hcg HB6.out.size (fun i hi => by omega)⟩
                · clear hd0 hd1 h0 h1 h6
                  go_wp2_with fail
                  clear q0 q1 q2 q3 q4 q5 qlt a0 a1 a2 a3 a4 a5 a6 a7 a8 a9 a10 a11 a12 al z0 z1 z2 zl t0 t1 t2 t3 t4 t5 t6 t7 hf
                  refine (low_greatest_any a _ w.heap.size (w.heap.size + 1) _ HA5.out).mono ?_
                  rintro e w6 ⟨rfl, hb⟩
                  have hz6 := blk_below HO5.out hb
                  have HB6 := Lib.hid (HB5.out.trans (hb.mono HB5.out.size))
                  obtain ⟨z0, z1, z2, zl⟩ := ouO_facts hz6
                  have hf := fun j => blk_free hz6 j
                  have HZ6 := Lib.hid hz6
                  clear hz6
                  clear hb
                  obtain ⟨tn, htn⟩ : ∃ n : Int, n = a.f3 := ⟨_, rfl⟩
                  obtain ⟨tb, htb⟩ : ∃ b : Bool, b = false := ⟨_, rfl⟩
                  unfold ouV
                  rw [← htn]
                  subst htb
                  have HTN := Lib.hid htn
                  clear htn
                  go_wp2_with fail
                  refine bodyPost_ret (results_val rfl _ _ (w.heap.size + 2) tn false (.slice none 0 0) rfl (ouO_put HZ6.out)) rfl ?_
                  have hcg := ouO_chg w6 (w.heap.size + 2) tn false (.slice none 0 0)
                  exact ⟨(.slice none 0 0), by rw [HRES.out, HTN.out]; rfl, by rw [HRES.out]; exact Own.nil _ _, Chg.base HB6.out hcg HB6.out.size (fun i hi => by omega)⟩
                · clear hd0 hd1 h0 h1 h6
                  go_wp2_with fail
                  clear q0 q1 q2 q3 q4 q5 qlt a0 a1 a2 a3 a4 a5 a6 a7 a8 a9 a10 a11 a12 al z0 z1 z2 zl t0 t1 t2 t3 t4 t5 t6 t7 hf
                  refine (low_first_any a _ w.heap.size (w.heap.size + 1) _ HA5.out).mono ?_
                  rintro e w6 ⟨rfl, hb⟩
                  have hz6 := blk_below HO5.out hb
                  have HB6 := Lib.hid (HB5.out.trans (hb.mono HB5.out.size))
                  obtain ⟨z0, z1, z2, zl⟩ := ouO_facts hz6
                  have hf := fun j => blk_free hz6 j
                  have HZ6 := Lib.hid hz6
                  clear hz6
                  clear hb
                  obtain ⟨tn, htn⟩ : ∃ n : Int, n = a.f4.f3 := ⟨_, rfl⟩
                  obtain ⟨tb, htb⟩ : ∃ b : Bool, b = false := ⟨_, rfl⟩
                  unfold ouV
                  rw [← htn]
                  subst htb
                  have HTN := Lib.hid htn
                  clear htn
                  go_wp2_with fail
                  refine bodyPost_ret (results_val rfl _ _ (w.heap.size + 2) tn false (.slice none 0 0) rfl (ouO_put HZ6.out)) rfl ?_
                  have hcg := ouO_chg w6 (w.heap.size + 2) tn false (.slice none 0 0)
                  exact ⟨(.slice none 0 0), by rw [HRES.out, HTN.out]; rfl, by rw [HRES.out]; exact Own.nil _ _, Chg.base HB6.out hcg HB6.out.size (fun i hi => by omega)⟩
                · clear hd0 hd1 h0 h1 h6
                  go_wp2_with fail
                  clear q0 q1 q2 q3 q4 q5 qlt a0 a1 a2 a3 a4 a5 a6 a7 a8 a9 a10 a11 a12 al z0 z1 z2 zl t0 t1 t2 t3 t4 t5 t6 t7 hf
                  refine (low_last_any a _ w.heap.size (w.heap.size + 1) _ HA5.out).mono ?_
                  rintro e w6 ⟨rfl, hb⟩
                  have hz6 := blk_below HO5.out hb
                  have HB6 := Lib.hid (HB5.out.trans (hb.mono HB5.out.size))
                  obtain ⟨z0, z1, z2, zl⟩ := ouO_facts hz6
                  have hf := fun j => blk_free hz6 j
                  have HZ6 := Lib.hid hz6
                  clear hz6
                  clear hb
                  obtain ⟨tn, htn⟩ : ∃ n : Int, n = a.f5.f3 := ⟨_, rfl⟩
                  obtain ⟨tb, htb⟩ : ∃ b : Bool, b = false := ⟨_, rfl⟩
                  unfold ouV
                  rw [← htn]
                  subst htb
                  have HTN := Lib.hid htn
                  clear htn
                  go_wp2_with fail
                  refine bodyPost_ret (results_val rfl _ _ (w.heap.size + 2) tn false (.slice none 0 0) rfl (ouO_put HZ6.out)) rfl ?_
                  have hcg := ouO_chg w6 (w.heap.size + 2) tn false (.slice none 0 0)
                  exact ⟨(.slice none 0 0), by rw [HRES.out, HTN.out]; rfl, by rw [HRES.out]; exact Own.nil _ _, Chg.base HB6.out hcg HB6.out.size (fun i hi => by omega)⟩
                · clear hd0 hd1 h0 h1 h6
                  go_wp2_with fail
                  clear q0 q1 q2 q3 q4 q5 qlt a0 a1 a2 a3 a4 a5 a6 a7 a8 a9 a10 a11 a12 al z0 z1 z2 zl t0 t1 t2 t3 t4 t5 t6 t7 hf
                  refine (low_hist_any a Ah ch w.heap.size (w.heap.size + 1) _ HA5.out (Kd.C_below HH.out HB5.out) HCH.out (by have := HF.out.len; have := bmay_len HF.out.bm; omega)).mono ?_
                  rintro e w6 ⟨v, rfl, how, hb⟩
                  obtain ⟨Av, cv, rfl, _, _⟩ := how.reads
                  have hz6 := blk_below HO5.out hb
                  have HB6 := Lib.hid (HB5.out.trans (hb.mono HB5.out.size))
                  obtain ⟨z0, z1, z2, zl⟩ := ouO_facts hz6
                  have hf := fun j => blk_free hz6 j
                  have HZ6 := Lib.hid hz6
                  clear hz6
                  have hnb : ∀ k, (Value.slice Av a.f6.length cv).ownBlock = some k → k ≠ w.heap.size + 2 := fun k hk => by
                    have h8 := own_base how k hk
                    have h9 := blk_lt HO5.out
                    omega
                  have HW := Lib.hid how
                  have HN := Lib.hid hnb
                  clear how hnb
                  clear hb
                  obtain ⟨tn, htn⟩ : ∃ n : Int, n = 0 := ⟨_, rfl⟩
                  obtain ⟨tb, htb⟩ : ∃ b : Bool, b = false := ⟨_, rfl⟩
                  unfold ouV
                  rw [← htn]
                  subst htb
                  have HTN := Lib.hid htn
                  clear htn
                  go_wp2_with fail
                  refine bodyPost_ret (results_val rfl _ _ (w.heap.size + 2) tn false (.slice Av a.f6.length cv) rfl (ouO_put HZ6.out)) rfl ?_
                  have hcg := ouO_chg w6 (w.heap.size + 2) tn false (.slice Av a.f6.length cv)
                  exact ⟨(.slice Av a.f6.length cv), by rw [HRES.out, HTN.out]; rfl, by rw [HRES.out]; exact (HW.out.keep hcg (fun k hk e => HN.out k hk e)).lower HB5.out.size, Chg.base HB6.out hcg HB6.out.size (fun i hi => by omega)⟩
                · have hl7 : ¬ bs.length = 0 := fun e => h6 ⟨rfl, e⟩
                  have hd7 : ((bs.length : Int) == 0) = false := beq_eq_false_iff_ne.2 (by omega)
                  clear hd0 hd1 h0 h1 h6
                  go_wp2_with fail
                  clear q0 q1 q2 q3 q4 q5 qlt a0 a1 a2 a3 a4 a5 a6 a7 a8 a9 a10 a11 a12 al z0 z1 z2 zl t0 t1 t2 t3 t4 t5 t6 t7 hf
                  refine (low_rank_any a ⟨qk, 7, qs, ql, rank⟩ bs Ah ch A1 c1 w.heap.size (w.heap.size + 1) _ HA5.out (Kd.C_below HH.out HB5.out) HQ5.out (Kd.C_below HR.out HB5.out) (bmay_len HF.out.bm) HF.out.len (fun i hi => by have h8 := HF.out.h i hi; have h9 := HF.out.c; omega) (by omega) (by omega) HF.out.c.1 HF.out.c.2).mono ?_
                  rintro e w6 ⟨rfl, hb⟩
                  have hz6 := blk_below HO5.out hb
                  have HB6 := Lib.hid (HB5.out.trans (hb.mono HB5.out.size))
                  obtain ⟨z0, z1, z2, zl⟩ := ouO_facts hz6
                  have hf := fun j => blk_free hz6 j
                  have HZ6 := Lib.hid hz6
                  clear hz6
                  clear hb
                  obtain ⟨tn, htn⟩ : ∃ n : Int, n = (rankGo a.f6 bs a.f3 bs.length 0 (rankK rank a.f0)) := ⟨_, rfl⟩
                  obtain ⟨tb, htb⟩ : ∃ b : Bool, b = false := ⟨_, rfl⟩
                  unfold ouV
                  rw [← htn]
                  subst htb
                  have HTN := Lib.hid htn
                  clear htn
                  go_wp2_with fail
                  refine bodyPost_ret (results_val rfl _ _ (w.heap.size + 2) tn false (.slice none 0 0) rfl (ouO_put HZ6.out)) rfl ?_
                  have hcg := ouO_chg w6 (w.heap.size + 2) tn false (.slice none 0 0)
                  exact ⟨(.slice none 0 0), by rw [HRES.out, HTN.out]; rfl, by rw [HRES.out]; exact Own.nil _ _, Chg.base HB6.out hcg HB6.out.size (fun i hi => by omega)⟩
end Go.Proofs.Ytggaefklcpbfnaa.My
