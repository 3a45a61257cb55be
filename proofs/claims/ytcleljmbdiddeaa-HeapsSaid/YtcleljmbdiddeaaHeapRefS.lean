/- The reference's 'sorted': an item is laid into a sorted row, a new one. No statement of the seed is proved here. -/
import Derived.Test.YtcleljmbdiddeaaHeapRefP
namespace Go.Proofs.Ytcleljmbdiddeaa
open Go.RowKit HP PHeaps

theorem Rd.takeA {w : World} {A : Option Addr} {ys : List It} (h : Rd w A ys) (n : Nat) : Rd w A (ys.take n) := fun hp => by
  rw [List.length_take] at hp
  obtain ⟨b1, o1, e, hb, hc⟩ := h (by omega)
  refine ⟨b1, o1, e, hb, fun i hi => ?_⟩
  rw [List.length_take] at hi
  rw [take_at (by omega)]
  exact hc i (by omega)
theorem Rd.quiet {w w1 : World} {A : Option Addr} {ys : List It} (h : Rd w A ys) (hb : Below w.heap.size w w1) : Rd w1 A ys := fun hp => by
  obtain ⟨b, o, e, hbs, hc⟩ := h hp
  refine ⟨b, o, e, Nat.lt_of_lt_of_le hbs hb.size, fun i hi => ?_⟩
  obtain ⟨a0, a1, a2, a3⟩ := hc i hi
  exact ⟨(hb.cell (p := ⟨b, o + i * 4, none⟩) hbs).trans a0, (hb.cell (p := ⟨b, o + i * 4 + 1, none⟩) hbs).trans a1, (hb.cell (p := ⟨b, o + i * 4 + 2, none⟩) hbs).trans a2, (hb.cell (p := ⟨b, o + i * 4 + 3, none⟩) hbs).trans a3⟩
theorem below_grown {B : Nat} {w0 w w1 : World} {row : Option Nat} (h : Below B w0 w) (hg : w.grownBy w1 row) (hB : B ≤ w.heap.size) (hr : ∀ k, row = some k → B ≤ k) : Below B w0 w1 :=
  Chg.base h ((Chg.refl (fun k => row = some k) w).grown hg (fun _ hk => .inl hk)) hB hr

set_option maxHeartbeats 4000000 in
set_option maxRecDepth 100000 in
theorem sorted_any (A : Option Addr) (c : Nat) (ys : List It) (x : It) (w : World) (hA : Rd w A ys) (hn : ys.length ≤ 100000) (hc : ys.length ≤ c) (h0 : A = none → c = 0) :
    Calls Try.prog 37 #[.slice A ys.length c, .agg #[.int .i64 x.s, .int .i64 x.t, .int .i64 x.q, .int .i64 x.v]] w fun e w' => ∃ v', e = .returned v' ∧ w'.ownsRow 0 34 4 v' (HP.insert ys x).length (flat (HP.insert ys x)) ∧ Below w.heap.size w w' ∧ ∀ k, v'.ownBlock = some k → w.heap.size ≤ k := by
  have HA := Lib.hid hA
  clear hA
  go_enter Try.func37, Try.ntmps37
  go_wp2_with fail
  have hb0 := (Below.refl w.heap.size w).alloc (Nat.le_refl _) (itObj x)
  have hx0 := heap_alloc_new w (itObj x)
  have HB0 := Lib.hid hb0
  have HX0 := Lib.hid hx0
  clear hb0 hx0
  go_loopw [5] (fun i wr => ∃ k : Nat, i = .int .i64 k ∧ k ≤ ys.length ∧ Rel (place ys x ys.length = place ys x k) ∧ Below w.heap.size w wr ∧ wr.heap[w.heap.size]? = some (itObj x)) (fun i _ => (intOf i).toNat)
  case atStart => exact ⟨ys.length, rfl, Nat.le_refl _, rfl, HB0.out, HX0.out⟩
  case round =>
    obtain ⟨k, rfl, hk, hpl, hb, hx⟩ := hrel
    have HP := Lib.hid hpl
    have HB := Lib.hid hb
    have HX := Lib.hid hx
    clear hpl hb hx
    obtain ⟨x0, x1, x2, x3, x4⟩ := it_facts HX.out
    cases k with
    | zero =>
      have hpl : place ys x ys.length = 0 := HP.out.trans rfl
      go_wp2_with fail
      refine Txt.wp_region_text (by kernel_rfl) (by kernel_rfl) ?_
      repeat (first
        | (refine Txt.text_p (by rfl) rfl (fun K hK => ?_); go_big_quiet_op; refine hK _ ?_; clear hK K)
        | (refine Txt.text_r (by rfl) rfl (fun K hK => ?_); go_big_quiet_op; refine hK _ ?_; clear hK K)
        | (refine Txt.text_pass (by rfl) (by rfl) ?_; simp only [List.set_cons_succ, List.set_cons_zero]))
      refine Txt.text_nil ?_
      have hbd := HB.out.drew
      have hxd : wr.drew.heap[w.heap.size]? = some (itObj x) := HX.out
      generalize wr.drew = wd at *
      clear HB HX x0 x1 x2 x3 x4 HP
      obtain ⟨a0, a1, a2, a3, a4⟩ := it_facts hxd
      go_wp2_with (at_builtin; refine at_append _ _ _ rfl ?_)
      have hal := (Below.refl wd.heap.size wd).alloc (Nat.le_refl _) (.cells #[] 34)
      have hbe := hbd.trans (hal.mono hbd.size)
      have hxe := (hal.block _ (blk_lt hxd)).trans hxd
      have hws := blk_lt hxd
      refine cat_any (.tmp 22) (.tmp 25) rfl rfl (fresh_row wd) rfl _ (ys.take (0)) (0) c (by simp <;> omega) rfl ((HA.out.quiet hbe).takeA _) (by first | exact h0 | exact fun e => by cases e) (by simp <;> omega) ?_
      rintro v1 w4 row1 hgr1 hat1
      rw [List.nil_append] at row1
      have own1 : ∀ k, v1.ownBlock = some k → w.heap.size + 1 ≤ k := fun k hk => by
        rcases hat1 with e | e
        · rw [hk] at e
          have e1 : k = wd.heap.size := by simpa [Value.ownBlock] using e
          omega
        · rw [hk] at e
          have e1 : k = wd.heap.size + 1 := by simpa using e
          omega
      have hb4 := below_grown hbe hgr1 hbe.size (fun k hk => by
        have e1 : wd.heap.size = k := by simpa [Value.ownBlock] using hk
        omega)
      have hx4 := (hgr1.block w.heap.size (blk_lt hxe) (fun e => by
        have e1 : w.heap.size = wd.heap.size := by simpa [Value.ownBlock] using e
        omega)).trans hxe
      clear a0 a1 a2 a3 a4 hal hbe hxe hgr1 hat1 hbd hxd hws
      obtain ⟨a0, a1, a2, a3, a4⟩ := it_facts hx4
      simp only [Act.put, List.setIfInBounds_toArray, List.set_cons_succ, List.set_cons_zero]
      go_wp2_with (at_builtin; refine at_append _ _ _ rfl ?_)
      have hal := (Below.refl w4.heap.size w4).alloc (Nat.le_refl _) (itObj x)
      have hbe := hb4.trans (hal.mono hb4.size)
      have rowe := row_keep (S := fun _ => False) row1 (Chg.of_below hal) (fun _ _ h => h)
      refine cat_any (.tmp 27) (.tmp 29) rfl rfl rowe rfl (some ⟨w4.heap.size, 0, none⟩) [x] 1 1 rfl rfl (rd_blk (ys := [x]) (sp := []) (heap_alloc_new w4 (itObj x))) (fun e => by cases e) (by simp <;> omega) ?_
      rintro v2 w5 row2 hgr2 hat2
      have own2 : ∀ k, v2.ownBlock = some k → w.heap.size + 1 ≤ k := fun k hk => by
        rcases hat2 with e | e
        · exact own1 k (e.symm.trans hk)
        · rw [hk] at e
          have e1 : k = w4.heap.size + 1 := by simpa using e
          omega
      have hb5 := below_grown hbe hgr2 hbe.size (fun k hk => by have := own1 k hk; omega)
      clear a0 a1 a2 a3 a4 hal hbe hgr2 hat2 hx4 hb4 row1 rowe own1
      simp only [Act.put, List.setIfInBounds_toArray, List.set_cons_succ, List.set_cons_zero]
      go_wp2_with (at_builtin; refine at_append _ _ _ rfl ?_)
      all_goals
        have hz0 : (ys.drop (0)).length = ys.length - (0) := List.length_drop ..
        have hins : ys.take (0) ++ [x] ++ ys.drop (0) = HP.insert ys x := by
          unfold HP.insert
          rw [hpl, List.append_assoc]
          rfl
        have HIN := Lib.hid hins
        clear hins
        first
        | refine cat_any (.tmp 31) (.tmp 34) rfl rfl row2 rfl _ (ys.drop (0)) (ys.length - (0)) (c - (0)) hz0 rfl ((HA.out.quiet hb5).drop _) (fun e => by cases e) (by simp <;> omega) ?_
        | refine cat_any (.tmp 31) (.tmp 34) rfl rfl row2 rfl _ (ys.drop (0)) (ys.length - (0)) 0 hz0 rfl (fun h => absurd h (by rw [hz0]; omega)) (fun e => by cases e) (by simp <;> omega) ?_
        | refine cat_any (.tmp 31) (.tmp 34) rfl rfl row2 rfl _ (ys.drop (0)) (ys.length - (0)) c hz0 rfl (by rw [List.drop_zero]; exact HA.out.quiet hb5) (by first | exact h0 | exact fun e => by cases e) (by simp <;> omega) ?_
        rintro v3 w6 row3 hgr3 hat3
        rw [HIN.out] at row3
        have own3 : ∀ k, v3.ownBlock = some k → w.heap.size ≤ k := fun k hk => by
          rcases hat3 with e | e
          · have := own2 k (e.symm.trans hk)
            omega
          · rw [hk] at e
            have e1 : k = w5.heap.size := by simpa using e
            have := hb5.size
            omega
        have hb6 := below_grown hb5 hgr3 hb5.size (fun k hk => by have := own2 k hk; omega)
        simp only [Act.put, List.setIfInBounds_toArray, List.set_cons_succ, List.set_cons_zero]
        go_wp2_with fail
        go_ret
        exact ⟨_, rfl, row3, hb6, own3⟩
    | succ k =>
      obtain ⟨b, o, rfl, hbs, hcells⟩ := HA.out (by omega)
      obtain ⟨a0, a1, a2, a3⟩ := hcells k (by omega)
      have e0 := HB.out.cell (p := ⟨b, o + k * 4, none⟩) hbs
      have e1 := HB.out.cell (p := ⟨b, o + k * 4 + 1, none⟩) hbs
      have e2 := HB.out.cell (p := ⟨b, o + k * 4 + 2, none⟩) hbs
      have e3 := HB.out.cell (p := ⟨b, o + k * 4 + 3, none⟩) hbs
      rw [a0] at e0
      rw [a1] at e1
      rw [a2] at e2
      rw [a3] at e3
      have hsz := HB.out.size
      clear a0 a1 a2 a3 hcells
      go_wp2_with fail
      refine Txt.wp_region_text (by kernel_rfl) (by kernel_rfl) ?_
      repeat (first
        | (refine Txt.text_p (by rfl) rfl (fun K hK => ?_); go_big_quiet_op; refine hK _ ?_; clear hK K)
        | (refine Txt.text_r (by rfl) rfl (fun K hK => ?_); go_big_quiet_op; refine hK _ ?_; clear hK K)
        | (refine Txt.text_pass (by rfl) (by rfl) ?_; simp only [List.set_cons_succ, List.set_cons_zero]))
      refine Txt.text_a (by rfl) rfl (fun K hK => ?_)
      go_wp2_with fail
      have hbd := HB.out.drew
      have hxd : wr.drew.heap[w.heap.size]? = some (itObj x) := HX.out
      generalize wr.drew = wd at *
      clear e0 e1 e2 e3 x0 x1 x2 x3 x4 hsz
      refine (bourneref1_less.calls x.s x.t x.q x.v (at_ ys k).s (at_ ys k).t (at_ ys k).q (at_ ys k).v _ _ (ref_less_f x (at_ ys k))).mono ?_
      rintro e we ⟨rfl, hb⟩
      have hbe := hbd.trans (hb.mono hbd.size)
      have hxe := (hb.block _ (blk_lt hxd)).trans hxd
      clear hb hbd hxd
      cases hl : lt x (at_ ys k) with
      | true =>
        go_wp2_with fail
        repeat (first
          | (refine Txt.text_p (by rfl) rfl (fun K hK => ?_); go_big_quiet_op; refine hK _ ?_; clear hK K)
          | (refine Txt.text_r (by rfl) rfl (fun K hK => ?_); go_big_quiet_op; refine hK _ ?_; clear hK K)
          | (refine Txt.text_pass (by rfl) (by rfl) ?_; simp only [List.set_cons_succ, List.set_cons_zero]))
        refine Txt.text_nil ?_
        go_wp2_with fail
        refine ⟨⟨k, rfl, by omega, ?_, hbe, hxe⟩, by simp [intOf]⟩
        rw [show place ys x ys.length = place ys x (k + 1) from HP.out]
        show place ys x (k + 1) = place ys x k
        rw [place, if_pos hl]
      | false =>
        have hpl : place ys x ys.length = k + 1 := by
          rw [HP.out]
          unfold place
          rw [if_neg (by simp [hl])]
        go_wp2_with fail
        repeat (first
          | (refine Txt.text_p (by rfl) rfl (fun K hK => ?_); go_big_quiet_op; refine hK _ ?_; clear hK K)
          | (refine Txt.text_r (by rfl) rfl (fun K hK => ?_); go_big_quiet_op; refine hK _ ?_; clear hK K)
          | (refine Txt.text_pass (by rfl) (by rfl) ?_; simp only [List.set_cons_succ, List.set_cons_zero]))
        refine Txt.text_nil ?_
        generalize we = wd at *
        have hbd := hbe
        have hxd := hxe
        clear hbe hxe HB HX HP
        obtain ⟨a0, a1, a2, a3, a4⟩ := it_facts hxd
        go_wp2_with (at_builtin; refine at_append _ _ _ rfl ?_)
        have hal := (Below.refl wd.heap.size wd).alloc (Nat.le_refl _) (.cells #[] 34)
        have hbe := hbd.trans (hal.mono hbd.size)
        have hxe := (hal.block _ (blk_lt hxd)).trans hxd
        have hws := blk_lt hxd
        refine cat_any (.tmp 22) (.tmp 25) rfl rfl (fresh_row wd) rfl _ (ys.take (k + 1)) (k + 1) c (by simp <;> omega) rfl ((HA.out.quiet hbe).takeA _) (by first | exact h0 | exact fun e => by cases e) (by simp <;> omega) ?_
        rintro v1 w4 row1 hgr1 hat1
        rw [List.nil_append] at row1
        have own1 : ∀ k, v1.ownBlock = some k → w.heap.size + 1 ≤ k := fun k hk => by
          rcases hat1 with e | e
          · rw [hk] at e
            have e1 : k = wd.heap.size := by simpa [Value.ownBlock] using e
            omega
          · rw [hk] at e
            have e1 : k = wd.heap.size + 1 := by simpa using e
            omega
        have hb4 := below_grown hbe hgr1 hbe.size (fun k hk => by
          have e1 : wd.heap.size = k := by simpa [Value.ownBlock] using hk
          omega)
        have hx4 := (hgr1.block w.heap.size (blk_lt hxe) (fun e => by
          have e1 : w.heap.size = wd.heap.size := by simpa [Value.ownBlock] using e
          omega)).trans hxe
        clear a0 a1 a2 a3 a4 hal hbe hxe hgr1 hat1 hbd hxd hws
        obtain ⟨a0, a1, a2, a3, a4⟩ := it_facts hx4
        simp only [Act.put, List.setIfInBounds_toArray, List.set_cons_succ, List.set_cons_zero]
        go_wp2_with (at_builtin; refine at_append _ _ _ rfl ?_)
        have hal := (Below.refl w4.heap.size w4).alloc (Nat.le_refl _) (itObj x)
        have hbe := hb4.trans (hal.mono hb4.size)
        have rowe := row_keep (S := fun _ => False) row1 (Chg.of_below hal) (fun _ _ h => h)
        refine cat_any (.tmp 27) (.tmp 29) rfl rfl rowe rfl (some ⟨w4.heap.size, 0, none⟩) [x] 1 1 rfl rfl (rd_blk (ys := [x]) (sp := []) (heap_alloc_new w4 (itObj x))) (fun e => by cases e) (by simp <;> omega) ?_
        rintro v2 w5 row2 hgr2 hat2
        have own2 : ∀ k, v2.ownBlock = some k → w.heap.size + 1 ≤ k := fun k hk => by
          rcases hat2 with e | e
          · exact own1 k (e.symm.trans hk)
          · rw [hk] at e
            have e1 : k = w4.heap.size + 1 := by simpa using e
            omega
        have hb5 := below_grown hbe hgr2 hbe.size (fun k hk => by have := own1 k hk; omega)
        clear a0 a1 a2 a3 a4 hal hbe hgr2 hat2 hx4 hb4 row1 rowe own1
        simp only [Act.put, List.setIfInBounds_toArray, List.set_cons_succ, List.set_cons_zero]
        go_wp2_with (at_builtin; refine at_append _ _ _ rfl ?_)
        all_goals
          have hz0 : (ys.drop (k + 1)).length = ys.length - (k + 1) := List.length_drop ..
          have hins : ys.take (k + 1) ++ [x] ++ ys.drop (k + 1) = HP.insert ys x := by
            unfold HP.insert
            rw [hpl, List.append_assoc]
            rfl
          have HIN := Lib.hid hins
          clear hins
          first
          | refine cat_any (.tmp 31) (.tmp 34) rfl rfl row2 rfl _ (ys.drop (k + 1)) (ys.length - (k + 1)) (c - (k + 1)) hz0 rfl ((HA.out.quiet hb5).drop _) (fun e => by cases e) (by simp <;> omega) ?_
          | refine cat_any (.tmp 31) (.tmp 34) rfl rfl row2 rfl _ (ys.drop (k + 1)) (ys.length - (k + 1)) 0 hz0 rfl (fun h => absurd h (by rw [hz0]; omega)) (fun e => by cases e) (by simp <;> omega) ?_
          | refine cat_any (.tmp 31) (.tmp 34) rfl rfl row2 rfl _ (ys.drop (k + 1)) (ys.length - (k + 1)) c hz0 rfl (by rw [List.drop_zero]; exact HA.out.quiet hb5) (by first | exact h0 | exact fun e => by cases e) (by simp <;> omega) ?_
          rintro v3 w6 row3 hgr3 hat3
          rw [HIN.out] at row3
          have own3 : ∀ k, v3.ownBlock = some k → w.heap.size ≤ k := fun k hk => by
            rcases hat3 with e | e
            · have := own2 k (e.symm.trans hk)
              omega
            · rw [hk] at e
              have e1 : k = w5.heap.size := by simpa using e
              have := hb5.size
              omega
          have hb6 := below_grown hb5 hgr3 hb5.size (fun k hk => by have := own2 k hk; omega)
          simp only [Act.put, List.setIfInBounds_toArray, List.set_cons_succ, List.set_cons_zero]
          go_wp2_with fail
          go_ret
          exact ⟨_, rfl, row3, hb6, own3⟩
end Go.Proofs.Ytcleljmbdiddeaa
