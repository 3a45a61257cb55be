/- What may be known: the first and the last item. No statement of the seed is proved here. -/
import Derived.Test.YtggaefklcpbfnaaAccC
namespace Go.Proofs.Ytggaefklcpbfnaa.My
open Go.RowKit Pa Go.Proofs.YtggaefklcpbfnaaW.PrintWords
attribute [local go_sem high] eqA26

/-- May an item be an end? -/
def iok (a : S28) (x : S26) : Bool := imay x && (decide (a.f2 ≤ x.f3) && decide (x.f3 ≤ a.f3))
/-- May the ends be? -/
def emay (a : S28) : Bool := iok a a.f4 && (iok a a.f5 && (decide (a.f4.f0 = a.f5.f0) && decide (ord a.f4 a.f5 ≤ 0)))
def pairO (x y : S26) : Obj := .cells #[.int .i64 x.f0, .int .i64 x.f1, .int .i64 x.f2, .int .i64 x.f3, .int .i64 y.f0, .int .i64 y.f1, .int .i64 y.f2, .int .i64 y.f3] 26
def pick2 (x y : S26) (k : Nat) : S26 := if k = 0 then x else y
theorem pair_facts {w : World} {b : Nat} {x y : S26} (h : w.heap[b]? = some (pairO x y)) {k : Nat} (hk : k < 2) : w.cell? ⟨b, k * 4, none⟩ = some (.int .i64 (pick2 x y k).f0) ∧ w.cell? ⟨b, k * 4 + 1, none⟩ = some (.int .i64 (pick2 x y k).f1) ∧ w.cell? ⟨b, k * 4 + 2, none⟩ = some (.int .i64 (pick2 x y k).f2) ∧ w.cell? ⟨b, k * 4 + 3, none⟩ = some (.int .i64 (pick2 x y k).f3) ∧ b < w.heap.size := by
  rcases (by omega : k = 0 ∨ k = 1) with rfl | rfl
  · exact ⟨(blk_cell h 0).trans rfl, (blk_cell h 1).trans rfl, (blk_cell h 2).trans rfl, (blk_cell h 3).trans rfl, blk_lt h⟩
  · exact ⟨(blk_cell h 4).trans rfl, (blk_cell h 5).trans rfl, (blk_cell h 6).trans rfl, (blk_cell h 7).trans rfl, blk_lt h⟩
theorem emay_no {a : S28} {k : Nat} (h : iok a (pick2 a.f4 a.f5 k) = false) : emay a = false := by
  unfold emay
  unfold pick2 at h
  split at h
  · rw [h]; rfl
  · rw [h]; simp

set_option maxHeartbeats 4000000 in
set_option maxRecDepth 100000 in
theorem ends_any (a : S28) (g : Nat) (v : Value) (w : World) (h : w.heap[g]? = some (acO a v)) :
    Calls Try.prog 57 #[.pointer (some ⟨g, 0, none⟩)] w fun e w' => e = .returned (.bool (emay a)) ∧ Below w.heap.size w w' := by
  obtain ⟨a0, a1, a2, a3, a4, a5, a6, a7, a8, a9, a10, a11, a12, al⟩ := acO_facts h
  have HH := Lib.hid h
  clear h
  go_enter Try.func57, Try.ntmps57
  go_wp2_with fail
  refine Txt.wp_region_text (by kernel_rfl) (by kernel_rfl) ?_
  repeat (first
    | (refine Txt.text_p (by rfl) rfl (fun K hK => ?_); go_big_quiet_op; refine hK _ ?_; clear hK K)
    | (refine Txt.text_r (by rfl) rfl (fun K hK => ?_); go_big_quiet_op; refine hK _ ?_; clear hK K)
    | (refine Txt.text_pass (by rfl) (by rfl) ?_; simp only [List.set_cons_succ, List.set_cons_zero]))
  refine Txt.text_a (by rfl) rfl (fun K hK => ?_)
  go_wp2_with fail
  have hal : Below w.heap.size w (w.drew.alloc (pairO a.f4 a.f5)) := (Below.refl w.heap.size w).drew.alloc (Nat.le_refl _) _
  have hp : (w.drew.alloc (pairO a.f4 a.f5)).heap[w.heap.size]? = some (pairO a.f4 a.f5) := heap_alloc_new w.drew _
  repeat (first
    | (refine Txt.text_p (by rfl) rfl (fun K hK => ?_); go_big_quiet_op; refine hK _ ?_; clear hK K)
    | (refine Txt.text_r (by rfl) rfl (fun K hK => ?_); go_big_quiet_op; refine hK _ ?_; clear hK K)
    | (refine Txt.text_pass (by rfl) (by rfl) ?_; simp only [List.set_cons_succ, List.set_cons_zero]))
  refine Txt.text_nil ?_
  show Exit.then _ _ _ _ (w.drew.alloc (pairO a.f4 a.f5))
  clear a0 a1 a2 a3 a4 a5 a6 a7 a8 a9 a10 a11 a12 al
  have HH1 := Lib.hid (blk_below HH.out hal)
  have HP := Lib.hid hp
  have HB := Lib.hid hal
  clear hp hal HH
  generalize w.drew.alloc (pairO a.f4 a.f5) = w1 at *
  go_wp2_with fail
  go_loopw [15] (fun i wr => ∃ k : Nat, i = .int .i64 k ∧ k ≤ 2 ∧ Below w.heap.size w wr ∧ wr.heap[w.heap.size]? = some (pairO a.f4 a.f5) ∧ wr.heap[g]? = some (acO a v) ∧ Rel (∀ j, j < k → iok a (pick2 a.f4 a.f5 j) = true)) (fun i _ => 2 - (intOf i).toNat)
  case atStart => exact ⟨0, rfl, by omega, HB.out, HP.out, HH1.out, fun j hj => absurd hj (by omega)⟩
  case round =>
    obtain ⟨k, rfl, hk, hb, hp, hg, hx⟩ := hrel
    have HX := Lib.hid hx
    have HB2 := Lib.hid hb
    have HP2 := Lib.hid hp
    have HG2 := Lib.hid hg
    clear hx hb hp hg HB HP HH1
    by_cases hlt : k < 2
    · obtain ⟨p0, p1, p2, p3, pl⟩ := pair_facts HP2.out hlt
      have hno := emay_no (a := a) (k := k)
      have hup : iok a (pick2 a.f4 a.f5 k) = true → ∀ j, j < k + 1 → iok a (pick2 a.f4 a.f5 j) = true := fun h j hj => by
        by_cases e : j = k
        · rw [e]; exact h
        · exact HX.out j (by omega)
      generalize pick2 a.f4 a.f5 k = x at *
      have HNO := Lib.hid hno
      have HUP := Lib.hid hup
      clear hno hup
      have hal : Below wr.heap.size wr (wr.alloc (itO x)) := (Below.refl wr.heap.size wr).alloc (Nat.le_refl _) _
      have hxv : (wr.alloc (itO x)).heap[wr.heap.size]? = some (itO x) := heap_alloc_new wr _
      have hg2 := blk_below HG2.out hal
      have hp2 := blk_below HP2.out hal
      obtain ⟨x0, x1, x2, x3, xl⟩ := itO_facts hxv
      obtain ⟨a0, a1, a2, a3, a4, a5, a6, a7, a8, a9, a10, a11, a12, al⟩ := acO_facts hg2
      have HB3 := Lib.hid (HB2.out.trans (hal.mono HB2.out.size))
      have HXV := Lib.hid hxv
      have HG3 := Lib.hid hg2
      have HP3 := Lib.hid hp2
      clear hal hxv hg2 hp2 HB2 HG2 HP2
      unfold itO at x0 x1 x2 x3 xl a0 a1 a2 a3 a4 a5 a6 a7 a8 a9 a10 a11 a12 al
      go_wp2_with fail
      show Code.wp _ _ _ _ (wr.alloc (itO x))
      clear x0 x1 x2 x3 xl a0 a1 a2 a3 a4 a5 a6 a7 a8 a9 a10 a11 a12 al p0 p1 p2 p3 pl
      generalize wr.alloc (itO x) = wa at *
      generalize wr.heap.size = xb at *
      obtain ⟨x0, x1, x2, x3, xl⟩ := itO_facts HXV.out
      obtain ⟨a0, a1, a2, a3, a4, a5, a6, a7, a8, a9, a10, a11, a12, al⟩ := acO_facts HG3.out
      refine Txt.wp_region_text (by kernel_rfl) (by kernel_rfl) ?_
      repeat (first
        | (refine Txt.text_p (by rfl) rfl (fun K hK => ?_); go_big_quiet_op; refine hK _ ?_; clear hK K)
        | (refine Txt.text_r (by rfl) rfl (fun K hK => ?_); go_big_quiet_op; refine hK _ ?_; clear hK K)
        | (refine Txt.text_pass (by rfl) (by rfl) ?_; simp only [List.set_cons_succ, List.set_cons_zero]))
      refine Txt.text_a (by rfl) rfl (fun K hK => ?_)
      go_wp2_with fail
      refine (im_any x _).mono ?_
      rintro e w3 ⟨rfl, hb⟩
      have hb2 := Txt.Bw.undrew hb
      have hx3 := blk_below HXV.out hb2
      have hg3 := blk_below HG3.out hb2
      have HP4 := Lib.hid (blk_below HP3.out hb2)
      have HB4 := Lib.hid (HB3.out.trans (hb2.mono HB3.out.size))
      have HG4 := Lib.hid hg3
      clear x0 x1 x2 x3 xl a0 a1 a2 a3 a4 a5 a6 a7 a8 a9 a10 a11 a12 al
      obtain ⟨x0, x1, x2, x3, xl⟩ := itO_facts hx3
      obtain ⟨a0, a1, a2, a3, a4, a5, a6, a7, a8, a9, a10, a11, a12, al⟩ := acO_facts hg3
      clear hb hb2 hx3 hg3 HXV HG3 HP3 HB3
      by_cases h1 : imay x = true
      · by_cases h2 : a.f2 ≤ x.f3
        · by_cases h3 : x.f3 ≤ a.f3
          · have hok : iok a x = true := by unfold iok; rw [h1, decide_eq_true h2, decide_eq_true h3]; rfl
            have HOK := Lib.hid (HUP.out hok)
            have hd1 : decide (x.f3 < a.f2) = false := decide_eq_false (by omega)
            have hd2 : decide (a.f3 < x.f3) = false := decide_eq_false (by omega)
            rw [h1]
            clear hok h1 h2 h3
            go_wp2_with fail
            repeat (first
              | (refine Txt.text_p (by rfl) rfl (fun K hK => ?_); go_big_quiet_op; refine hK _ ?_; clear hK K)
              | (refine Txt.text_r (by rfl) rfl (fun K hK => ?_); go_big_quiet_op; refine hK _ ?_; clear hK K)
              | (refine Txt.text_pass (by rfl) (by rfl) ?_; simp only [List.set_cons_succ, List.set_cons_zero]))
            refine Txt.text_nil ?_
            go_wp2_with fail
            exact ⟨⟨k + 1, by go_num, by omega, HB4.out, HP4.out, HG4.out, HOK.out⟩, by simp [intOf]; omega⟩
          · have hok : iok a x = false := by unfold iok; rw [h1, decide_eq_true h2, decide_eq_false h3]; rfl
            have HRES := Lib.hid (HNO.out hok)
            have hd1 : decide (x.f3 < a.f2) = false := decide_eq_false (by omega)
            have hd2 : decide (a.f3 < x.f3) = true := decide_eq_true (by omega)
            rw [h1]
            clear hok h1 h2 h3
            go_wp2_with fail
            repeat (first
              | (refine Txt.text_p (by rfl) rfl (fun K hK => ?_); go_big_quiet_op; refine hK _ ?_; clear hK K)
              | (refine Txt.text_r (by rfl) rfl (fun K hK => ?_); go_big_quiet_op; refine hK _ ?_; clear hK K)
              | (refine Txt.text_pass (by rfl) (by rfl) ?_; simp only [List.set_cons_succ, List.set_cons_zero]))
            refine Txt.text_nil ?_
            go_wp2_with fail
            go_ret
            exact ⟨by rw [HRES.out]; rfl, HB4.out⟩
        · have hok : iok a x = false := by unfold iok; rw [h1, decide_eq_false h2]; rfl
          have HRES := Lib.hid (HNO.out hok)
          have hd1 : decide (x.f3 < a.f2) = true := decide_eq_true (by omega)
          rw [h1]
          clear hok h1 h2
          go_wp2_with fail
          repeat (first
            | (refine Txt.text_p (by rfl) rfl (fun K hK => ?_); go_big_quiet_op; refine hK _ ?_; clear hK K)
            | (refine Txt.text_r (by rfl) rfl (fun K hK => ?_); go_big_quiet_op; refine hK _ ?_; clear hK K)
            | (refine Txt.text_pass (by rfl) (by rfl) ?_; simp only [List.set_cons_succ, List.set_cons_zero]))
          refine Txt.text_nil ?_
          go_wp2_with fail
          go_ret
          exact ⟨by rw [HRES.out]; rfl, HB4.out⟩
      · have h1' := bne_ h1
        have hok : iok a x = false := by unfold iok; rw [h1']; rfl
        have HRES := Lib.hid (HNO.out hok)
        rw [h1']
        clear hok h1 h1'
        go_wp2_with fail
        repeat (first
          | (refine Txt.text_p (by rfl) rfl (fun K hK => ?_); go_big_quiet_op; refine hK _ ?_; clear hK K)
          | (refine Txt.text_r (by rfl) rfl (fun K hK => ?_); go_big_quiet_op; refine hK _ ?_; clear hK K)
          | (refine Txt.text_pass (by rfl) (by rfl) ?_; simp only [List.set_cons_succ, List.set_cons_zero]))
        refine Txt.text_nil ?_
        go_wp2_with fail
        go_ret
        exact ⟨by rw [HRES.out]; rfl, HB4.out⟩
    · obtain rfl : k = 2 := by omega
      have hf := HX.out 0 (by omega)
      have hl := HX.out 1 (by omega)
      unfold pick2 at hf hl
      rw [if_pos rfl] at hf
      rw [if_neg (by omega)] at hl
      have HFL := Lib.hid (And.intro hf hl)
      clear hf hl
      obtain ⟨a0, a1, a2, a3, a4, a5, a6, a7, a8, a9, a10, a11, a12, al⟩ := acO_facts HG2.out
      have HB5 := Lib.hid HB2.out.drew
      by_cases h1 : a.f4.f0 = a.f5.f0
      · have hd1 : (a.f4.f0 == a.f5.f0) = true := by rw [beq_iff_eq]; exact h1
        have H1 := Lib.hid h1
        clear h1
        go_wp2_with fail
        refine Txt.wp_region_text (by kernel_rfl) (by kernel_rfl) ?_
        repeat (first
          | (refine Txt.text_p (by rfl) rfl (fun K hK => ?_); go_big_quiet_op; refine hK _ ?_; clear hK K)
          | (refine Txt.text_r (by rfl) rfl (fun K hK => ?_); go_big_quiet_op; refine hK _ ?_; clear hK K)
          | (refine Txt.text_pass (by rfl) (by rfl) ?_; simp only [List.set_cons_succ, List.set_cons_zero]))
        refine Txt.text_a (by rfl) rfl (fun K hK => ?_)
        go_wp2_with fail
        refine (ord_any a.f4 a.f5 _).mono ?_
        rintro e w3 ⟨rfl, hb⟩
        have HB6 := Lib.hid (HB2.out.trans ((Txt.Bw.undrew hb).mono HB2.out.size))
        clear hb
        by_cases h2 : ord a.f4 a.f5 ≤ 0
        · have hres : emay a = true := by unfold emay; rw [HFL.out.1, HFL.out.2, decide_eq_true H1.out, decide_eq_true h2]; rfl
          have HRES := Lib.hid hres
          have hd2 : decide (ord a.f4 a.f5 ≤ 0) = true := decide_eq_true h2
          clear hres h2
          generalize ord a.f4 a.f5 = o at *
          go_wp2_with fail
          repeat (first
            | (refine Txt.text_p (by rfl) rfl (fun K hK => ?_); go_big_quiet_op; refine hK _ ?_; clear hK K)
            | (refine Txt.text_r (by rfl) rfl (fun K hK => ?_); go_big_quiet_op; refine hK _ ?_; clear hK K)
            | (refine Txt.text_pass (by rfl) (by rfl) ?_; simp only [List.set_cons_succ, List.set_cons_zero]))
          refine Txt.text_nil ?_
          go_wp2_with fail
          go_ret
          exact ⟨by rw [HRES.out]; rfl, HB6.out⟩
        · have hres : emay a = false := by unfold emay; rw [HFL.out.1, HFL.out.2, decide_eq_true H1.out, decide_eq_false h2]; rfl
          have HRES := Lib.hid hres
          have hd2 : decide (ord a.f4 a.f5 ≤ 0) = false := decide_eq_false h2
          clear hres h2
          generalize ord a.f4 a.f5 = o at *
          go_wp2_with fail
          repeat (first
            | (refine Txt.text_p (by rfl) rfl (fun K hK => ?_); go_big_quiet_op; refine hK _ ?_; clear hK K)
            | (refine Txt.text_r (by rfl) rfl (fun K hK => ?_); go_big_quiet_op; refine hK _ ?_; clear hK K)
            | (refine Txt.text_pass (by rfl) (by rfl) ?_; simp only [List.set_cons_succ, List.set_cons_zero]))
          refine Txt.text_nil ?_
          go_wp2_with fail
          go_ret
          exact ⟨by rw [HRES.out]; rfl, HB6.out⟩
      · have hd1 : (a.f4.f0 == a.f5.f0) = false := beq_eq_false_iff_ne.2 h1
        have hres : emay a = false := by unfold emay; rw [HFL.out.1, HFL.out.2, decide_eq_false h1]; rfl
        have HRES := Lib.hid hres
        clear hres h1
        go_wp2_with fail
        refine Txt.wp_region_text (by kernel_rfl) (by kernel_rfl) ?_
        repeat (first
          | (refine Txt.text_p (by rfl) rfl (fun K hK => ?_); go_big_quiet_op; refine hK _ ?_; clear hK K)
          | (refine Txt.text_r (by rfl) rfl (fun K hK => ?_); go_big_quiet_op; refine hK _ ?_; clear hK K)
          | (refine Txt.text_pass (by rfl) (by rfl) ?_; simp only [List.set_cons_succ, List.set_cons_zero]))
        refine Txt.text_nil ?_
        go_wp2_with fail
        go_ret
        exact ⟨by rw [HRES.out]; rfl, HB5.out⟩
end Go.Proofs.Ytggaefklcpbfnaa.My
