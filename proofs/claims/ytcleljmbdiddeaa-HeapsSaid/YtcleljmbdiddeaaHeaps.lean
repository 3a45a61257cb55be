/- Heaps returns true: a heap under any pushes and pops answers as a sorted row does; the items stay. No conditions. -/
import Derived.Test.YtcleljmbdiddeaaHeapInv
namespace Go.Proofs.Ytcleljmbdiddeaa
open Go.RowKit HP PHeaps
attribute [local go_sem high] eqA34

set_option maxHeartbeats 8000000 in
set_option maxRecDepth 100000 in
theorem heaps_any (most : Int) (A : Option Addr) (xs : List It) (c : Nat) (A2 : Option Addr) (l : List Int) (c2 : Nat) (w : World) (hA : Rd w A xs) (h0 : A = none → c = 0) (hc0 : xs.length ≤ c) (hx : xs.length ≤ 4398046511104) (hB : RdI w A2 l) (hl : l.length ≤ 140737488351232) :
    Calls Try.prog 4 #[.int .i64 most, .slice A xs.length c, .slice A2 l.length c2] w fun e w' => e = .returned (.bool true) ∧ Below w.heap.size w w' := by
  have HA := Lib.hid hA
  have HL := Lib.hid hB
  have HC := Lib.hid h0
  clear hA hB h0
  go_enter Try.func4, Try.ntmps4
  go_wp2_with fail
  by_cases hm : 1 ≤ most ∧ most ≤ 8192
  · obtain ⟨hm1, hm2⟩ := hm
    refine (new_ok most _ hm1 hm2).mono ?_
    rintro e w1 ⟨rfl, rfl⟩
    have hs1 := new_hs (w0 := w) (w := w) most (Below.refl _ _)
    generalize w.alloc (.cells #[.int .i64 most, .slice none 0 0] 54) = w1 at *
    go_wp2_with fail
    refine (ref_new_ok most _ hm1 hm2).mono ?_
    rintro e w2 ⟨rfl, rfl⟩
    have hal := (Below.refl w1.heap.size w1).alloc (Nat.le_refl _) (.cells #[.int .i64 most, .slice none 0 0] 47)
    have hs2 := hs1.quiet hal
    have hr2 := ref_new_at most w1
    have h2 : Two w _ w.heap.size (.slice none 0 0) w1.heap.size (.slice none 0 0) most [] [] := ⟨hs2, hr2, fun k hk => by
      rcases hk with rfl | hk
      · exact hs1.bel.size
      · simp [Value.ownBlock] at hk, fun k hk ho => by
      rcases hk with rfl | hk
      · have := hs1.lt _ ho
        omega
      · simp [Value.ownBlock] at hk⟩
    clear hs1 hal hs2 hr2
    generalize w1.alloc (.cells #[.int .i64 most, .slice none 0 0] 47) = w2 at *
    generalize w1.heap.size = r at *
    have H := Lib.hid h2
    clear h2
    go_wp2_with fail
    refine (num_any _ _).mono ?_
    rintro e w' ⟨rfl, rfl⟩
    go_wp2_with fail
    go_loopw [11, 12] (fun t i wr => ∃ (k p : Nat) (v u : Value) (zs ys : List It), t = .int .i64 p ∧ i = .int .i64 k ∧ k ≤ l.length ∧ k ≤ 60 ∧ p ≤ xs.length ∧ Two w wr w.heap.size v r u most zs ys ∧ Rel (zs.Perm ys ∧ Sorted ys ∧ ys.length ≤ 3 * k)) (fun _ i _ => l.length - (intOf i).toNat)
    case atStart => exact ⟨0, 0, _, _, [], [], rfl, rfl, by omega, by omega, by omega, H.out, List.Perm.refl _, List.Pairwise.nil, by simp⟩
    case round =>
      obtain ⟨k, p, v, u, zs, ys, rfl, rfl, hk, hk6, hp, h2, hx⟩ := hrel
      have HX := Lib.hid hx
      have H1 := Lib.hid h2
      clear hx h2
      by_cases hlt : k < l.length ∧ k < 60
      · obtain ⟨hk1, hk2⟩ := hlt
        have hd1 : decide ((k : Int) < l.length) = true := decide_eq_true (by omega)
        obtain ⟨b2, o2, rfl, hbs, hcells⟩ := HL.out (by omega)
        have e0 := H1.out.hs.bel.cell (p := ⟨b2, o2 + k, none⟩) hbs
        rw [hcells k hk1] at e0
        clear hcells
        generalize l.getD k 0 = s at *
        have HE := Lib.hid e0
        have hd2 : decide ((k : Int) < 60) = true := decide_eq_true (by omega)
        by_cases hc : bits .and .i64 s 3 = 0
        · go_wp2_with fail
          clear e0 HE hd1 hc
          have hyl := HX.out.2.2
          have hzl := HX.out.1.length_eq
          refine (pop_hs H1.out.hs (by omega)).mono ?_
          rintro e wa ⟨rfl, v3, h3, hst⟩
          have h4 := H1.out.heap h3 hst
          obtain ⟨ht1, ht2⟩ := inv_told H1.out.hs.heap HX.out.2.1 HX.out.1
          obtain ⟨hp2, hs2⟩ := inv_pop H1.out.hs.heap HX.out.2.1 HX.out.1
          obtain ⟨x, wd, zt, hpr⟩ : ∃ x wd zt, popRes zs = (x, wd, zt) := ⟨_, _, _, rfl⟩
          rw [hpr] at ht1 ht2 hp2 h4 h3 ⊢
          simp only at ht1 ht2 hp2 h4 h3
          have HT := Lib.hid (And.intro ht1 ht2)
          clear hpr h3 hst ht1 ht2
          have h5 : Two w (wa.alloc (.cells #[.int .i64 x.s, .int .i64 x.t, .int .i64 x.q, .int .i64 x.v] 34)) w.heap.size v3 r u most zt ys := h4.quiet ((Below.refl wa.heap.size wa).alloc (Nat.le_refl _) (itObj x))
          have hb5 : (wa.alloc (.cells #[.int .i64 x.s, .int .i64 x.t, .int .i64 x.q, .int .i64 x.v] 34)).heap[wa.heap.size]? = some (itObj x) := heap_alloc_new wa (itObj x)
          have hn5 : ¬ own r u wa.heap.size := fun ho => by have := h4.rf.lt _ ho; omega
          clear h4 H1
          go_wp2_with fail
          generalize wa.alloc (.cells #[.int .i64 x.s, .int .i64 x.t, .int .i64 x.q, .int .i64 x.v] 34) = wc at *
          generalize wa.heap.size = xb at *
          refine (ref_pop h5.rf (by omega)).mono ?_
          rintro e wd2 ⟨x2, wo, rfl, hxw, u3, hr3, hst⟩
          have hxw2 : (x2, wo) = (x, wd) := hxw.trans (Prod.ext HT.out.1.symm HT.out.2.symm)
          injection hxw2 with hx2 hw2
          subst hx2 hw2
          have h6 := h5.ref_ hr3 hst
          obtain ⟨hb6, hn6⟩ := hst.obj hb5 hn5
          have h7 : Two w (wd2.alloc (.cells #[.int .i64 x2.s, .int .i64 x2.t, .int .i64 x2.q, .int .i64 x2.v] 34)) w.heap.size v3 r u3 most zt (ys.drop 1) := h6.quiet ((Below.refl wd2.heap.size wd2).alloc (Nat.le_refl _) (itObj x2))
          have hb7 : (wd2.alloc (.cells #[.int .i64 x2.s, .int .i64 x2.t, .int .i64 x2.q, .int .i64 x2.v] 34)).heap[wd2.heap.size]? = some (itObj x2) := heap_alloc_new wd2 (itObj x2)
          have hb8 : (wd2.alloc (.cells #[.int .i64 x2.s, .int .i64 x2.t, .int .i64 x2.q, .int .i64 x2.v] 34)).heap[xb]? = some (itObj x2) := ((Chg.of_below (S := fun _ => False) ((Below.refl wd2.heap.size wd2).alloc (Nat.le_refl _) (itObj x2))).obj hb6 (fun h => h))
          have HQ := Lib.hid (show zt.Perm (ys.drop 1) ∧ Sorted (ys.drop 1) ∧ (ys.drop 1).length ≤ 3 * (k + 1) from ⟨hp2, hs2, by rw [List.length_drop]; omega⟩)
          clear h5 hb5 hn5 hxw HT hst hr3 hb6 hn6 h6 hp2 hs2 HX hyl hzl
          obtain ⟨a0, a1, a2, a3, a4⟩ := it_facts hb7
          obtain ⟨b0, b1, b3, b4, b5⟩ := it_facts hb8
          have H7 := Lib.hid h7
          clear h7 hb7 hb8
          go_wp2_with fail
          generalize wd2.alloc (.cells #[.int .i64 x2.s, .int .i64 x2.t, .int .i64 x2.q, .int .i64 x2.v] 34) = we at *
          generalize wd2.heap.size = yb at *
          refine (num_any _ _).mono ?_
          rintro e w' ⟨rfl, rfl⟩
          go_wp2_with fail
          generalize ys.drop 1 = yt at *
          clear a0 a1 a2 a3 a4 b0 b1 b3 b4 b5
          have H8 := Lib.hid H7.out
          clear H7
          refine (peek_hs H8.out.hs).mono ?_
          rintro e wp ⟨rfl, hb⟩
          have H9 := Lib.hid (H8.out.quiet hb)
          clear hb H8
          have HT := Lib.hid (inv_told H9.out.hs.heap HQ.out.2.1 HQ.out.1)
          obtain ⟨x, wd, zr, hpr⟩ : ∃ x wd zr, popRes zt = (x, wd, zr) := ⟨_, _, _, rfl⟩
          rw [hpr] at HT ⊢
          clear hpr
          have h5 : Two w (wp.alloc (.cells #[.int .i64 x.s, .int .i64 x.t, .int .i64 x.q, .int .i64 x.v] 34)) w.heap.size v3 r u3 most zt yt := H9.out.quiet ((Below.refl wp.heap.size wp).alloc (Nat.le_refl _) (itObj x))
          have hb5 : (wp.alloc (.cells #[.int .i64 x.s, .int .i64 x.t, .int .i64 x.q, .int .i64 x.v] 34)).heap[wp.heap.size]? = some (itObj x) := heap_alloc_new wp (itObj x)
          clear H9
          go_wp2_with fail
          generalize wp.alloc (.cells #[.int .i64 x.s, .int .i64 x.t, .int .i64 x.q, .int .i64 x.v] 34) = wq at *
          generalize wp.heap.size = xp at *
          refine (ref_peek h5.rf).mono ?_
          rintro e wr2 ⟨x2, wo, rfl, hxw, hb⟩
          have hxw2 : (x2, wo) = (x, wd) := hxw.trans (Prod.ext HT.out.1.symm HT.out.2.symm)
          injection hxw2 with hx2 hw2
          subst hx2 hw2
          have h6 := h5.quiet hb
          have hb6 := (Chg.of_below (S := fun _ => False) hb).obj hb5 (fun h => h)
          have h7 : Two w (wr2.alloc (.cells #[.int .i64 x2.s, .int .i64 x2.t, .int .i64 x2.q, .int .i64 x2.v] 34)) w.heap.size v3 r u3 most zt yt := h6.quiet ((Below.refl wr2.heap.size wr2).alloc (Nat.le_refl _) (itObj x2))
          have hb7 : (wr2.alloc (.cells #[.int .i64 x2.s, .int .i64 x2.t, .int .i64 x2.q, .int .i64 x2.v] 34)).heap[wr2.heap.size]? = some (itObj x2) := heap_alloc_new wr2 (itObj x2)
          have hb8 : (wr2.alloc (.cells #[.int .i64 x2.s, .int .i64 x2.t, .int .i64 x2.q, .int .i64 x2.v] 34)).heap[xp]? = some (itObj x2) := ((Chg.of_below (S := fun _ => False) ((Below.refl wr2.heap.size wr2).alloc (Nat.le_refl _) (itObj x2))).obj hb6 (fun h => h))
          clear h5 hb5 hxw HT hb hb6 h6
          obtain ⟨ua, uc, hu⟩ := h7.rf.any
          subst hu
          have d0 := blk_cell h7.rf.head 1
          have d1 := blk_lt h7.rf.head
          obtain ⟨a0, a1, a2, a3, a4⟩ := it_facts hb7
          obtain ⟨b0, b1, b3, b4, b5⟩ := it_facts hb8
          simp only [List.getElem?_toArray, List.getElem?_cons_succ, List.getElem?_cons_zero] at d0
          have H7 := Lib.hid h7
          clear h7 hb7 hb8
          go_wp2_with fail
          generalize wr2.alloc (.cells #[.int .i64 x2.s, .int .i64 x2.t, .int .i64 x2.q, .int .i64 x2.v] 34) = wt at *
          generalize wr2.heap.size = yp at *
          refine Txt.wp_region_mix (by kernel_rfl) (by kernel_rfl) (fun HB => ?_)
          repeat (first
            | (refine Txt.mix_p (by rfl) rfl rfl (fun K hK => ?_); go_big_quiet_op; refine hK _ ?_; clear hK K)
            | (refine Txt.mix_re (by rfl) (by decide +kernel) (by rfl) (by rfl) (by go_simp) HB (fun K hK => ?_); go_big_quiet_op; refine hK _ ?_; clear hK K)
            | (refine Txt.mix_rl (by rfl) (by decide +kernel) (by rfl) (by rfl) (by go_simp) HB (fun K hK => ?_); go_big_quiet_op; refine hK _ ?_; clear hK K)
            | (refine Txt.mix_pass (by rfl) (by rfl) ?_; simp only [List.set_cons_succ, List.set_cons_zero]))
          refine Txt.mix_c (by rfl) (by decide +kernel) HB ?_
          intro w3 hw1 K hK
          replace HB := HB.trans hw1
          clear hw1
          go_wp2_with fail
          refine (num_any _ _).mono ?_
          rintro e w' ⟨rfl, rfl⟩
          refine hK _ _ ⟨Txt.Bw.refl _, ?_⟩
          clear hK K
          repeat (first
            | (refine Txt.mix_p (by rfl) rfl rfl (fun K hK => ?_); go_big_quiet_op; refine hK _ ?_; clear hK K)
            | (refine Txt.mix_re (by rfl) (by decide +kernel) (by rfl) (by rfl) (by go_simp) HB (fun K hK => ?_); go_big_quiet_op; refine hK _ ?_; clear hK K)
            | (refine Txt.mix_rl (by rfl) (by decide +kernel) (by rfl) (by rfl) (by go_simp) HB (fun K hK => ?_); go_big_quiet_op; refine hK _ ?_; clear hK K)
            | (refine Txt.mix_pass (by rfl) (by rfl) ?_; simp only [List.set_cons_succ, List.set_cons_zero]))
          refine Txt.mix_c (by rfl) (by decide +kernel) HB ?_
          intro w4 hw1 K hK
          replace HB := HB.trans hw1
          clear hw1
          go_wp2_with fail
          have hlen := len_hs (H7.out.quiet HB.undrew).hs
          rw [HQ.out.1.length_eq] at hlen
          refine hlen.mono ?_
          rintro e w' ⟨rfl, rfl⟩
          refine hK _ _ ⟨Txt.Bw.refl _, ?_⟩
          clear hK K hlen
          repeat (first
            | (refine Txt.mix_p (by rfl) rfl rfl (fun K hK => ?_); go_big_quiet_op; refine hK _ ?_; clear hK K)
            | (refine Txt.mix_re (by rfl) (by decide +kernel) (by rfl) (by rfl) (by go_simp) HB (fun K hK => ?_); go_big_quiet_op; refine hK _ ?_; clear hK K)
            | (refine Txt.mix_rl (by rfl) (by decide +kernel) (by rfl) (by rfl) (by go_simp) HB (fun K hK => ?_); go_big_quiet_op; refine hK _ ?_; clear hK K)
            | (refine Txt.mix_pass (by rfl) (by rfl) ?_; simp only [List.set_cons_succ, List.set_cons_zero]))
          refine Txt.mix_nil ?_
          go_wp2_with fail
          exact ⟨⟨k + 1, p, v3, _, zt, yt, rfl, by go_num, by omega, by omega, by omega, H7.out.quiet HB.undrew, HQ.out⟩, by simp [intOf]; omega⟩
        · obtain ⟨m4, m5⟩ := and3 (s / 4)
          have hbq : (bits .and .i64 s 3 == 0) = false := beq_eq_false_iff_ne.2 hc
          obtain ⟨d, hd⟩ : ∃ d : Nat, bits .and .i64 (s / 4) 3 = d := ⟨(bits .and .i64 (s / 4) 3).toNat, by omega⟩
          have hd3 : d ≤ 3 := by omega
          rw [hd] at m4
          rw [hd] at m5
          rcases (show xs.length ≤ p + d ∨ p + d < xs.length by omega) with hmn | hmn
          · by_cases hcp : p = c
            · go_wp2_with fail
              have hcut : cutA A p c = A := if_pos hcp.symm
              have hhc : xs.length ≤ c := hc0
              clear e0 HE hd1 hc
              obtain ⟨ch, hch⟩ : ∃ ch, ch = (xs.drop p).take (0) := ⟨_, rfl⟩
              have hn : ch.length = 0 := by rw [hch, List.length_take, List.length_drop]; omega
              have hB := HA.out.cut hhc p (0)
              have hBo : 0 < ch.length → ∀ b o, cutA A p c = some ⟨b, o, none⟩ → b < w.heap.size := fun h0 b o e => cutA_old (p := p) (k := 0) HA.out (by rw [← hch]; exact h0) e
              have hB0 : cutA A p c = none → 0 = 0 := fun e => by have := HC.out (cutA_none e); omega
              rw [hcut] at hB hBo hB0
              rw [← hch] at hB
              have HBR := Lib.hid (And.intro hB (And.intro hBo hB0))
              clear hB hBo hB0 hcut hch
              have hp2 := lend_any A (0) ch wr (HBR.out.1.quiet H1.out.hs.bel) (by omega) HBR.out.2.2
              rw [hn] at hp2
              refine hp2.mono ?_
              rintro e wa ⟨lb, lc, rfl, hrow, hbl, hlb⟩
              have hnv : ¬ own w.heap.size v lb := fun ho => by have := H1.out.hs.lt _ ho; omega
              have hnu : ¬ own r u lb := fun ho => by have := H1.out.rf.lt _ ho; omega
              have hlw : w.heap.size ≤ lb := Nat.le_trans H1.out.hs.bel.size hlb
              have H2 := Lib.hid (H1.out.quiet hbl)
              have HROW := Lib.hid hrow
              have HN := Lib.hid (And.intro hnv (And.intro hnu hlw))
              clear H1 hp2 hbl hrow hlb hnv hnu hlw
              go_wp2_with fail
              have hyl := HX.out.2.2
              have hzl := HX.out.1.length_eq
              have hrd : Rd wa (some ⟨lb, 0, none⟩) ch := by
                have h2 : Rd wa (some ⟨lb, 0, none⟩) (ch ++ [mark, mark]) := row_rd (c := lc) (by rw [show (ch ++ [mark, mark]).length = 0 + 2 by simp [hn]]; exact HROW.out)
                have h3 := h2.take ch.length
                rw [List.take_left] at h3
                exact h3
              have hp2 := push_hs ch (some ⟨lb, 0, none⟩) lc H2.out.hs hrd (fun b o e => by injection e with e; injection e with e; rw [← e]; exact HN.out.1) hm2 (by omega) (by omega)
              rw [hn] at hp2
              refine hp2.mono ?_
              rintro e wb ⟨rfl, v3, h3, hst⟩
              have h4 := H2.out.heap h3 hst
              have hro := row_keep HROW.out hst.chg (fun k hk ho => by
                have e1 : lb = k := by simpa [Value.ownBlock] using hk
                subst e1
                exact HN.out.1 ho)
              have hnv3 := hst.apart lb (HROW.out.lt lb rfl).2 HN.out.1
              have hiv := inv_push (most := most) ch H2.out.hs.heap HX.out.2.1 HX.out.1
              obtain ⟨wo, zt, hpr⟩ : ∃ wo zt, pushRes most zs ch = (wo, zt) := ⟨_, _, rfl⟩
              rw [hpr] at hiv h4 ⊢
              have HIV := Lib.hid hiv
              have H4 := Lib.hid h4
              have HRO := Lib.hid hro
              have HN3 := Lib.hid hnv3
              clear hp2 hpr h3 h4 hro hnv3 hiv hst HROW H2 hrd
              go_wp2_with fail
              refine Txt.wp_region_text (by kernel_rfl) (by kernel_rfl) ?_
              repeat (first
                | (refine Txt.text_p (by rfl) rfl (fun K hK => ?_); go_big_quiet_op; refine hK _ ?_; clear hK K)
                | (refine Txt.text_r (by rfl) rfl (fun K hK => ?_); go_big_quiet_op; refine hK _ ?_; clear hK K)
                | (refine Txt.text_pass (by rfl) (by rfl) ?_; simp only [List.set_cons_succ, List.set_cons_zero]))
              refine Txt.text_a (by rfl) rfl (fun K hK => ?_)
              go_wp2_with fail
              refine (num_any _ _).mono ?_
              rintro e w' ⟨rfl, rfl⟩
              go_wp2_with fail
              repeat (first
                | (refine Txt.text_p (by rfl) rfl (fun K hK => ?_); go_big_quiet_op; refine hK _ ?_; clear hK K)
                | (refine Txt.text_r (by rfl) rfl (fun K hK => ?_); go_big_quiet_op; refine hK _ ?_; clear hK K)
                | (refine Txt.text_pass (by rfl) (by rfl) ?_; simp only [List.set_cons_succ, List.set_cons_zero]))
              refine Txt.text_a (by rfl) rfl (fun K hK => ?_)
              go_wp2_with fail
              have hdr := (Below.refl wb.heap.size wb).drew
              have h5 := H4.out.quiet hdr
              have hp2 := ref_push r u most ys ch A (0) wb.drew h5.rf (HBR.out.1.quiet h5.hs.bel) (fun h0 b o e ho => by have := HBR.out.2.1 h0 b o e; have := h5.new b ho; omega) (by omega) hm2 (by omega) (by omega)
              rw [hn] at hp2
              refine hp2.mono ?_
              rintro e wc ⟨rfl, u3, hr3, hst⟩
              have h6 := h5.ref_ hr3 hst
              have hro := row_keep (row_keep (S := fun _ => False) HRO.out (Chg.of_below hdr) (fun _ _ h => h)) hst.chg (fun k hk ho => by
                have e1 : lb = k := by simpa [Value.ownBlock] using hk
                subst e1
                exact HN.out.2.1 ho)
              have hnu3 := hst.apart lb (HRO.out.lt lb rfl).2 HN.out.2.1
              obtain ⟨wo2, yt, hpr⟩ : ∃ wo2 yt, rpushRes most ys ch = (wo2, yt) := ⟨_, _, rfl⟩
              have hiv := HIV.out
              have hyt : yt.length ≤ ys.length + ch.length := by
                have e1 : yt = (rpushRes most ys ch).2 := by rw [hpr]
                rw [e1]
                unfold rpushRes
                split
                · simp only []; omega
                · split
                  · simp only []; omega
                  · rw [rpushAll_length]; simp
              rw [hpr] at hiv h6 ⊢
              obtain ⟨hwo, hpm, hso⟩ := hiv
              simp only at hwo
              subst hwo
              have HQ := Lib.hid (show zt.Perm yt ∧ Sorted yt ∧ yt.length ≤ 3 * (k + 1) from ⟨hpm, hso, by omega⟩)
              have H6 := Lib.hid h6
              have HRP := Lib.hid hro
              have HNU := Lib.hid hnu3
              clear hp2 hpr hr3 h6 hro hnu3 hpm hso hst HIV h5 HRO H4 hdr hyt HX hyl hzl
              go_wp2_with fail
              repeat (first
                | (refine Txt.text_p (by rfl) rfl (fun K hK => ?_); go_big_quiet_op; refine hK _ ?_; clear hK K)
                | (refine Txt.text_r (by rfl) rfl (fun K hK => ?_); go_big_quiet_op; refine hK _ ?_; clear hK K)
                | (refine Txt.text_pass (by rfl) (by rfl) ?_; simp only [List.set_cons_succ, List.set_cons_zero]))
              refine Txt.text_a (by rfl) rfl (fun K hK => ?_)
              go_wp2_with fail
              refine (kept_any lb (0) lc A (0) ch _ HRP.out (HBR.out.1.quiet H6.out.hs.bel) hn (by omega)).mono ?_
              rintro e wd ⟨rfl, hb⟩
              have H7 := Lib.hid (H6.out.quiet hb)
              have HRR := Lib.hid (row_keep (S := fun _ => False) HRP.out (Chg.of_below hb) (fun _ _ h => h))
              clear hb H6 HRP
              go_wp2_with fail
              repeat (first
                | (refine Txt.text_p (by rfl) rfl (fun K hK => ?_); go_big_quiet_op; refine hK _ ?_; clear hK K)
                | (refine Txt.text_r (by rfl) rfl (fun K hK => ?_); go_big_quiet_op; refine hK _ ?_; clear hK K)
                | (refine Txt.text_pass (by rfl) (by rfl) ?_; simp only [List.set_cons_succ, List.set_cons_zero]))
              refine Txt.text_nil ?_
              go_wp2_with fail
              refine (spoil_any lb (0) (0 + 2) lc (ch ++ [mark, mark]) _ HRR.out (by omega) (by omega)).mono ?_
              rintro e we ⟨rfl, hcg⟩
              have h8 := H7.out.chg hcg (fun k hk => by subst hk; exact ⟨HN3.out, HNU.out, HN.out.2.2⟩)
              have H8 := Lib.hid h8
              clear hcg h8 H7 HRR HN3 HNU HN HBR hn
              go_wp2_with fail
              refine (peek_hs H8.out.hs).mono ?_
              rintro e wp ⟨rfl, hb⟩
              have H9 := Lib.hid (H8.out.quiet hb)
              clear hb H8
              have HT := Lib.hid (inv_told H9.out.hs.heap HQ.out.2.1 HQ.out.1)
              obtain ⟨x, wd, zr, hpr⟩ : ∃ x wd zr, popRes zt = (x, wd, zr) := ⟨_, _, _, rfl⟩
              rw [hpr] at HT ⊢
              clear hpr
              have h5 : Two w (wp.alloc (.cells #[.int .i64 x.s, .int .i64 x.t, .int .i64 x.q, .int .i64 x.v] 34)) w.heap.size v3 r u3 most zt yt := H9.out.quiet ((Below.refl wp.heap.size wp).alloc (Nat.le_refl _) (itObj x))
              have hb5 : (wp.alloc (.cells #[.int .i64 x.s, .int .i64 x.t, .int .i64 x.q, .int .i64 x.v] 34)).heap[wp.heap.size]? = some (itObj x) := heap_alloc_new wp (itObj x)
              clear H9
              go_wp2_with fail
              generalize wp.alloc (.cells #[.int .i64 x.s, .int .i64 x.t, .int .i64 x.q, .int .i64 x.v] 34) = wq at *
              generalize wp.heap.size = xp at *
              refine (ref_peek h5.rf).mono ?_
              rintro e wr2 ⟨x2, wo, rfl, hxw, hb⟩
              have hxw2 : (x2, wo) = (x, wd) := hxw.trans (Prod.ext HT.out.1.symm HT.out.2.symm)
              injection hxw2 with hx2 hw2
              subst hx2 hw2
              have h6 := h5.quiet hb
              have hb6 := (Chg.of_below (S := fun _ => False) hb).obj hb5 (fun h => h)
              have h7 : Two w (wr2.alloc (.cells #[.int .i64 x2.s, .int .i64 x2.t, .int .i64 x2.q, .int .i64 x2.v] 34)) w.heap.size v3 r u3 most zt yt := h6.quiet ((Below.refl wr2.heap.size wr2).alloc (Nat.le_refl _) (itObj x2))
              have hb7 : (wr2.alloc (.cells #[.int .i64 x2.s, .int .i64 x2.t, .int .i64 x2.q, .int .i64 x2.v] 34)).heap[wr2.heap.size]? = some (itObj x2) := heap_alloc_new wr2 (itObj x2)
              have hb8 : (wr2.alloc (.cells #[.int .i64 x2.s, .int .i64 x2.t, .int .i64 x2.q, .int .i64 x2.v] 34)).heap[xp]? = some (itObj x2) := ((Chg.of_below (S := fun _ => False) ((Below.refl wr2.heap.size wr2).alloc (Nat.le_refl _) (itObj x2))).obj hb6 (fun h => h))
              clear h5 hb5 hxw HT hb hb6 h6
              obtain ⟨ua, uc, hu⟩ := h7.rf.any
              subst hu
              have d0 := blk_cell h7.rf.head 1
              have d1 := blk_lt h7.rf.head
              obtain ⟨a0, a1, a2, a3, a4⟩ := it_facts hb7
              obtain ⟨b0, b1, b3, b4, b5⟩ := it_facts hb8
              simp only [List.getElem?_toArray, List.getElem?_cons_succ, List.getElem?_cons_zero] at d0
              have H7 := Lib.hid h7
              clear h7 hb7 hb8
              go_wp2_with fail
              generalize wr2.alloc (.cells #[.int .i64 x2.s, .int .i64 x2.t, .int .i64 x2.q, .int .i64 x2.v] 34) = wt at *
              generalize wr2.heap.size = yp at *
              refine Txt.wp_region_mix (by kernel_rfl) (by kernel_rfl) (fun HB => ?_)
              repeat (first
                | (refine Txt.mix_p (by rfl) rfl rfl (fun K hK => ?_); go_big_quiet_op; refine hK _ ?_; clear hK K)
                | (refine Txt.mix_re (by rfl) (by decide +kernel) (by rfl) (by rfl) (by go_simp) HB (fun K hK => ?_); go_big_quiet_op; refine hK _ ?_; clear hK K)
                | (refine Txt.mix_rl (by rfl) (by decide +kernel) (by rfl) (by rfl) (by go_simp) HB (fun K hK => ?_); go_big_quiet_op; refine hK _ ?_; clear hK K)
                | (refine Txt.mix_pass (by rfl) (by rfl) ?_; simp only [List.set_cons_succ, List.set_cons_zero]))
              refine Txt.mix_c (by rfl) (by decide +kernel) HB ?_
              intro w3 hw1 K hK
              replace HB := HB.trans hw1
              clear hw1
              go_wp2_with fail
              refine (num_any _ _).mono ?_
              rintro e w' ⟨rfl, rfl⟩
              refine hK _ _ ⟨Txt.Bw.refl _, ?_⟩
              clear hK K
              repeat (first
                | (refine Txt.mix_p (by rfl) rfl rfl (fun K hK => ?_); go_big_quiet_op; refine hK _ ?_; clear hK K)
                | (refine Txt.mix_re (by rfl) (by decide +kernel) (by rfl) (by rfl) (by go_simp) HB (fun K hK => ?_); go_big_quiet_op; refine hK _ ?_; clear hK K)
                | (refine Txt.mix_rl (by rfl) (by decide +kernel) (by rfl) (by rfl) (by go_simp) HB (fun K hK => ?_); go_big_quiet_op; refine hK _ ?_; clear hK K)
                | (refine Txt.mix_pass (by rfl) (by rfl) ?_; simp only [List.set_cons_succ, List.set_cons_zero]))
              refine Txt.mix_c (by rfl) (by decide +kernel) HB ?_
              intro w4 hw1 K hK
              replace HB := HB.trans hw1
              clear hw1
              go_wp2_with fail
              have hlen := len_hs (H7.out.quiet HB.undrew).hs
              rw [HQ.out.1.length_eq] at hlen
              refine hlen.mono ?_
              rintro e w' ⟨rfl, rfl⟩
              refine hK _ _ ⟨Txt.Bw.refl _, ?_⟩
              clear hK K hlen
              repeat (first
                | (refine Txt.mix_p (by rfl) rfl rfl (fun K hK => ?_); go_big_quiet_op; refine hK _ ?_; clear hK K)
                | (refine Txt.mix_re (by rfl) (by decide +kernel) (by rfl) (by rfl) (by go_simp) HB (fun K hK => ?_); go_big_quiet_op; refine hK _ ?_; clear hK K)
                | (refine Txt.mix_rl (by rfl) (by decide +kernel) (by rfl) (by rfl) (by go_simp) HB (fun K hK => ?_); go_big_quiet_op; refine hK _ ?_; clear hK K)
                | (refine Txt.mix_pass (by rfl) (by rfl) ?_; simp only [List.set_cons_succ, List.set_cons_zero]))
              refine Txt.mix_nil ?_
              go_wp2_with fail
              exact ⟨⟨k + 1, xs.length, v3, _, zt, yt, rfl, by go_num, by omega, by omega, by omega, H7.out.quiet HB.undrew, HQ.out⟩, by simp [intOf]; omega⟩
            · replace hcp : ¬ c = p := fun e => hcp e.symm
              go_wp2_with fail
              have hcut : cutA A p c = A.map (·.add (p * 4)) := if_neg hcp
              have hhc : xs.length ≤ c := hc0
              clear e0 HE hd1 hc
              obtain ⟨ch, hch⟩ : ∃ ch, ch = (xs.drop p).take (xs.length - p) := ⟨_, rfl⟩
              have hn : ch.length = xs.length - p := by rw [hch, List.length_take, List.length_drop]; omega
              have hB := HA.out.cut hhc p (xs.length - p)
              have hBo : 0 < ch.length → ∀ b o, cutA A p c = some ⟨b, o, none⟩ → b < w.heap.size := fun h0 b o e => cutA_old (p := p) (k := xs.length - p) HA.out (by rw [← hch]; exact h0) e
              have hB0 : cutA A p c = none → c - p = 0 := fun e => by have := HC.out (cutA_none e); omega
              rw [hcut] at hB hBo hB0
              rw [← hch] at hB
              have HBR := Lib.hid (And.intro hB (And.intro hBo hB0))
              clear hB hBo hB0 hcut hch
              have hp2 := lend_any (A.map (·.add (p * 4))) (c - p) ch wr (HBR.out.1.quiet H1.out.hs.bel) (by omega) HBR.out.2.2
              rw [hn] at hp2
              refine hp2.mono ?_
              rintro e wa ⟨lb, lc, rfl, hrow, hbl, hlb⟩
              have hnv : ¬ own w.heap.size v lb := fun ho => by have := H1.out.hs.lt _ ho; omega
              have hnu : ¬ own r u lb := fun ho => by have := H1.out.rf.lt _ ho; omega
              have hlw : w.heap.size ≤ lb := Nat.le_trans H1.out.hs.bel.size hlb
              have H2 := Lib.hid (H1.out.quiet hbl)
              have HROW := Lib.hid hrow
              have HN := Lib.hid (And.intro hnv (And.intro hnu hlw))
              clear H1 hp2 hbl hrow hlb hnv hnu hlw
              go_wp2_with fail
              have hyl := HX.out.2.2
              have hzl := HX.out.1.length_eq
              have hrd : Rd wa (some ⟨lb, 0, none⟩) ch := by
                have h2 : Rd wa (some ⟨lb, 0, none⟩) (ch ++ [mark, mark]) := row_rd (c := lc) (by rw [show (ch ++ [mark, mark]).length = xs.length - p + 2 by simp [hn]]; exact HROW.out)
                have h3 := h2.take ch.length
                rw [List.take_left] at h3
                exact h3
              have hp2 := push_hs ch (some ⟨lb, 0, none⟩) lc H2.out.hs hrd (fun b o e => by injection e with e; injection e with e; rw [← e]; exact HN.out.1) hm2 (by omega) (by omega)
              rw [hn] at hp2
              refine hp2.mono ?_
              rintro e wb ⟨rfl, v3, h3, hst⟩
              have h4 := H2.out.heap h3 hst
              have hro := row_keep HROW.out hst.chg (fun k hk ho => by
                have e1 : lb = k := by simpa [Value.ownBlock] using hk
                subst e1
                exact HN.out.1 ho)
              have hnv3 := hst.apart lb (HROW.out.lt lb rfl).2 HN.out.1
              have hiv := inv_push (most := most) ch H2.out.hs.heap HX.out.2.1 HX.out.1
              obtain ⟨wo, zt, hpr⟩ : ∃ wo zt, pushRes most zs ch = (wo, zt) := ⟨_, _, rfl⟩
              rw [hpr] at hiv h4 ⊢
              have HIV := Lib.hid hiv
              have H4 := Lib.hid h4
              have HRO := Lib.hid hro
              have HN3 := Lib.hid hnv3
              clear hp2 hpr h3 h4 hro hnv3 hiv hst HROW H2 hrd
              go_wp2_with fail
              refine Txt.wp_region_text (by kernel_rfl) (by kernel_rfl) ?_
              repeat (first
                | (refine Txt.text_p (by rfl) rfl (fun K hK => ?_); go_big_quiet_op; refine hK _ ?_; clear hK K)
                | (refine Txt.text_r (by rfl) rfl (fun K hK => ?_); go_big_quiet_op; refine hK _ ?_; clear hK K)
                | (refine Txt.text_pass (by rfl) (by rfl) ?_; simp only [List.set_cons_succ, List.set_cons_zero]))
              refine Txt.text_a (by rfl) rfl (fun K hK => ?_)
              go_wp2_with fail
              refine (num_any _ _).mono ?_
              rintro e w' ⟨rfl, rfl⟩
              go_wp2_with fail
              repeat (first
                | (refine Txt.text_p (by rfl) rfl (fun K hK => ?_); go_big_quiet_op; refine hK _ ?_; clear hK K)
                | (refine Txt.text_r (by rfl) rfl (fun K hK => ?_); go_big_quiet_op; refine hK _ ?_; clear hK K)
                | (refine Txt.text_pass (by rfl) (by rfl) ?_; simp only [List.set_cons_succ, List.set_cons_zero]))
              refine Txt.text_a (by rfl) rfl (fun K hK => ?_)
              go_wp2_with fail
              have hdr := (Below.refl wb.heap.size wb).drew
              have h5 := H4.out.quiet hdr
              have hp2 := ref_push r u most ys ch (A.map (·.add (p * 4))) (c - p) wb.drew h5.rf (HBR.out.1.quiet h5.hs.bel) (fun h0 b o e ho => by have := HBR.out.2.1 h0 b o e; have := h5.new b ho; omega) (by omega) hm2 (by omega) (by omega)
              rw [hn] at hp2
              refine hp2.mono ?_
              rintro e wc ⟨rfl, u3, hr3, hst⟩
              have h6 := h5.ref_ hr3 hst
              have hro := row_keep (row_keep (S := fun _ => False) HRO.out (Chg.of_below hdr) (fun _ _ h => h)) hst.chg (fun k hk ho => by
                have e1 : lb = k := by simpa [Value.ownBlock] using hk
                subst e1
                exact HN.out.2.1 ho)
              have hnu3 := hst.apart lb (HRO.out.lt lb rfl).2 HN.out.2.1
              obtain ⟨wo2, yt, hpr⟩ : ∃ wo2 yt, rpushRes most ys ch = (wo2, yt) := ⟨_, _, rfl⟩
              have hiv := HIV.out
              have hyt : yt.length ≤ ys.length + ch.length := by
                have e1 : yt = (rpushRes most ys ch).2 := by rw [hpr]
                rw [e1]
                unfold rpushRes
                split
                · simp only []; omega
                · split
                  · simp only []; omega
                  · rw [rpushAll_length]; simp
              rw [hpr] at hiv h6 ⊢
              obtain ⟨hwo, hpm, hso⟩ := hiv
              simp only at hwo
              subst hwo
              have HQ := Lib.hid (show zt.Perm yt ∧ Sorted yt ∧ yt.length ≤ 3 * (k + 1) from ⟨hpm, hso, by omega⟩)
              have H6 := Lib.hid h6
              have HRP := Lib.hid hro
              have HNU := Lib.hid hnu3
              clear hp2 hpr hr3 h6 hro hnu3 hpm hso hst HIV h5 HRO H4 hdr hyt HX hyl hzl
              go_wp2_with fail
              repeat (first
                | (refine Txt.text_p (by rfl) rfl (fun K hK => ?_); go_big_quiet_op; refine hK _ ?_; clear hK K)
                | (refine Txt.text_r (by rfl) rfl (fun K hK => ?_); go_big_quiet_op; refine hK _ ?_; clear hK K)
                | (refine Txt.text_pass (by rfl) (by rfl) ?_; simp only [List.set_cons_succ, List.set_cons_zero]))
              refine Txt.text_a (by rfl) rfl (fun K hK => ?_)
              go_wp2_with fail
              refine (kept_any lb (xs.length - p) lc (A.map (·.add (p * 4))) (c - p) ch _ HRP.out (HBR.out.1.quiet H6.out.hs.bel) hn (by omega)).mono ?_
              rintro e wd ⟨rfl, hb⟩
              have H7 := Lib.hid (H6.out.quiet hb)
              have HRR := Lib.hid (row_keep (S := fun _ => False) HRP.out (Chg.of_below hb) (fun _ _ h => h))
              clear hb H6 HRP
              go_wp2_with fail
              repeat (first
                | (refine Txt.text_p (by rfl) rfl (fun K hK => ?_); go_big_quiet_op; refine hK _ ?_; clear hK K)
                | (refine Txt.text_r (by rfl) rfl (fun K hK => ?_); go_big_quiet_op; refine hK _ ?_; clear hK K)
                | (refine Txt.text_pass (by rfl) (by rfl) ?_; simp only [List.set_cons_succ, List.set_cons_zero]))
              refine Txt.text_nil ?_
              go_wp2_with fail
              refine (spoil_any lb (xs.length - p) (xs.length - p + 2) lc (ch ++ [mark, mark]) _ HRR.out (by omega) (by omega)).mono ?_
              rintro e we ⟨rfl, hcg⟩
              have h8 := H7.out.chg hcg (fun k hk => by subst hk; exact ⟨HN3.out, HNU.out, HN.out.2.2⟩)
              have H8 := Lib.hid h8
              clear hcg h8 H7 HRR HN3 HNU HN HBR hn
              go_wp2_with fail
              refine (peek_hs H8.out.hs).mono ?_
              rintro e wp ⟨rfl, hb⟩
              have H9 := Lib.hid (H8.out.quiet hb)
              clear hb H8
              have HT := Lib.hid (inv_told H9.out.hs.heap HQ.out.2.1 HQ.out.1)
              obtain ⟨x, wd, zr, hpr⟩ : ∃ x wd zr, popRes zt = (x, wd, zr) := ⟨_, _, _, rfl⟩
              rw [hpr] at HT ⊢
              clear hpr
              have h5 : Two w (wp.alloc (.cells #[.int .i64 x.s, .int .i64 x.t, .int .i64 x.q, .int .i64 x.v] 34)) w.heap.size v3 r u3 most zt yt := H9.out.quiet ((Below.refl wp.heap.size wp).alloc (Nat.le_refl _) (itObj x))
              have hb5 : (wp.alloc (.cells #[.int .i64 x.s, .int .i64 x.t, .int .i64 x.q, .int .i64 x.v] 34)).heap[wp.heap.size]? = some (itObj x) := heap_alloc_new wp (itObj x)
              clear H9
              go_wp2_with fail
              generalize wp.alloc (.cells #[.int .i64 x.s, .int .i64 x.t, .int .i64 x.q, .int .i64 x.v] 34) = wq at *
              generalize wp.heap.size = xp at *
              refine (ref_peek h5.rf).mono ?_
              rintro e wr2 ⟨x2, wo, rfl, hxw, hb⟩
              have hxw2 : (x2, wo) = (x, wd) := hxw.trans (Prod.ext HT.out.1.symm HT.out.2.symm)
              injection hxw2 with hx2 hw2
              subst hx2 hw2
              have h6 := h5.quiet hb
              have hb6 := (Chg.of_below (S := fun _ => False) hb).obj hb5 (fun h => h)
              have h7 : Two w (wr2.alloc (.cells #[.int .i64 x2.s, .int .i64 x2.t, .int .i64 x2.q, .int .i64 x2.v] 34)) w.heap.size v3 r u3 most zt yt := h6.quiet ((Below.refl wr2.heap.size wr2).alloc (Nat.le_refl _) (itObj x2))
              have hb7 : (wr2.alloc (.cells #[.int .i64 x2.s, .int .i64 x2.t, .int .i64 x2.q, .int .i64 x2.v] 34)).heap[wr2.heap.size]? = some (itObj x2) := heap_alloc_new wr2 (itObj x2)
              have hb8 : (wr2.alloc (.cells #[.int .i64 x2.s, .int .i64 x2.t, .int .i64 x2.q, .int .i64 x2.v] 34)).heap[xp]? = some (itObj x2) := ((Chg.of_below (S := fun _ => False) ((Below.refl wr2.heap.size wr2).alloc (Nat.le_refl _) (itObj x2))).obj hb6 (fun h => h))
              clear h5 hb5 hxw HT hb hb6 h6
              obtain ⟨ua, uc, hu⟩ := h7.rf.any
              subst hu
              have d0 := blk_cell h7.rf.head 1
              have d1 := blk_lt h7.rf.head
              obtain ⟨a0, a1, a2, a3, a4⟩ := it_facts hb7
              obtain ⟨b0, b1, b3, b4, b5⟩ := it_facts hb8
              simp only [List.getElem?_toArray, List.getElem?_cons_succ, List.getElem?_cons_zero] at d0
              have H7 := Lib.hid h7
              clear h7 hb7 hb8
              go_wp2_with fail
              generalize wr2.alloc (.cells #[.int .i64 x2.s, .int .i64 x2.t, .int .i64 x2.q, .int .i64 x2.v] 34) = wt at *
              generalize wr2.heap.size = yp at *
              refine Txt.wp_region_mix (by kernel_rfl) (by kernel_rfl) (fun HB => ?_)
              repeat (first
                | (refine Txt.mix_p (by rfl) rfl rfl (fun K hK => ?_); go_big_quiet_op; refine hK _ ?_; clear hK K)
                | (refine Txt.mix_re (by rfl) (by decide +kernel) (by rfl) (by rfl) (by go_simp) HB (fun K hK => ?_); go_big_quiet_op; refine hK _ ?_; clear hK K)
                | (refine Txt.mix_rl (by rfl) (by decide +kernel) (by rfl) (by rfl) (by go_simp) HB (fun K hK => ?_); go_big_quiet_op; refine hK _ ?_; clear hK K)
                | (refine Txt.mix_pass (by rfl) (by rfl) ?_; simp only [List.set_cons_succ, List.set_cons_zero]))
              refine Txt.mix_c (by rfl) (by decide +kernel) HB ?_
              intro w3 hw1 K hK
              replace HB := HB.trans hw1
              clear hw1
              go_wp2_with fail
              refine (num_any _ _).mono ?_
              rintro e w' ⟨rfl, rfl⟩
              refine hK _ _ ⟨Txt.Bw.refl _, ?_⟩
              clear hK K
              repeat (first
                | (refine Txt.mix_p (by rfl) rfl rfl (fun K hK => ?_); go_big_quiet_op; refine hK _ ?_; clear hK K)
                | (refine Txt.mix_re (by rfl) (by decide +kernel) (by rfl) (by rfl) (by go_simp) HB (fun K hK => ?_); go_big_quiet_op; refine hK _ ?_; clear hK K)
                | (refine Txt.mix_rl (by rfl) (by decide +kernel) (by rfl) (by rfl) (by go_simp) HB (fun K hK => ?_); go_big_quiet_op; refine hK _ ?_; clear hK K)
                | (refine Txt.mix_pass (by rfl) (by rfl) ?_; simp only [List.set_cons_succ, List.set_cons_zero]))
              refine Txt.mix_c (by rfl) (by decide +kernel) HB ?_
              intro w4 hw1 K hK
              replace HB := HB.trans hw1
              clear hw1
              go_wp2_with fail
              have hlen := len_hs (H7.out.quiet HB.undrew).hs
              rw [HQ.out.1.length_eq] at hlen
              refine hlen.mono ?_
              rintro e w' ⟨rfl, rfl⟩
              refine hK _ _ ⟨Txt.Bw.refl _, ?_⟩
              clear hK K hlen
              repeat (first
                | (refine Txt.mix_p (by rfl) rfl rfl (fun K hK => ?_); go_big_quiet_op; refine hK _ ?_; clear hK K)
                | (refine Txt.mix_re (by rfl) (by decide +kernel) (by rfl) (by rfl) (by go_simp) HB (fun K hK => ?_); go_big_quiet_op; refine hK _ ?_; clear hK K)
                | (refine Txt.mix_rl (by rfl) (by decide +kernel) (by rfl) (by rfl) (by go_simp) HB (fun K hK => ?_); go_big_quiet_op; refine hK _ ?_; clear hK K)
                | (refine Txt.mix_pass (by rfl) (by rfl) ?_; simp only [List.set_cons_succ, List.set_cons_zero]))
              refine Txt.mix_nil ?_
              go_wp2_with fail
              exact ⟨⟨k + 1, xs.length, v3, _, zt, yt, rfl, by go_num, by omega, by omega, by omega, H7.out.quiet HB.undrew, HQ.out⟩, by simp [intOf]; omega⟩
          · by_cases hcp : c = p
            · exact absurd hmn (by omega)
            · go_wp2_with fail
              have hcut : cutA A p c = A.map (·.add (p * 4)) := if_neg hcp
              have hhc : xs.length ≤ c := hc0
              clear e0 HE hd1 hc
              obtain ⟨ch, hch⟩ : ∃ ch, ch = (xs.drop p).take (d) := ⟨_, rfl⟩
              have hn : ch.length = d := by rw [hch, List.length_take, List.length_drop]; omega
              have hB := HA.out.cut hhc p (d)
              have hBo : 0 < ch.length → ∀ b o, cutA A p c = some ⟨b, o, none⟩ → b < w.heap.size := fun h0 b o e => cutA_old (p := p) (k := d) HA.out (by rw [← hch]; exact h0) e
              have hB0 : cutA A p c = none → c - p = 0 := fun e => by have := HC.out (cutA_none e); omega
              rw [hcut] at hB hBo hB0
              rw [← hch] at hB
              have HBR := Lib.hid (And.intro hB (And.intro hBo hB0))
              clear hB hBo hB0 hcut hch
              have hp2 := lend_any (A.map (·.add (p * 4))) (c - p) ch wr (HBR.out.1.quiet H1.out.hs.bel) (by omega) HBR.out.2.2
              rw [hn] at hp2
              refine hp2.mono ?_
              rintro e wa ⟨lb, lc, rfl, hrow, hbl, hlb⟩
              have hnv : ¬ own w.heap.size v lb := fun ho => by have := H1.out.hs.lt _ ho; omega
              have hnu : ¬ own r u lb := fun ho => by have := H1.out.rf.lt _ ho; omega
              have hlw : w.heap.size ≤ lb := Nat.le_trans H1.out.hs.bel.size hlb
              have H2 := Lib.hid (H1.out.quiet hbl)
              have HROW := Lib.hid hrow
              have HN := Lib.hid (And.intro hnv (And.intro hnu hlw))
              clear H1 hp2 hbl hrow hlb hnv hnu hlw
              go_wp2_with fail
              have hyl := HX.out.2.2
              have hzl := HX.out.1.length_eq
              have hrd : Rd wa (some ⟨lb, 0, none⟩) ch := by
                have h2 : Rd wa (some ⟨lb, 0, none⟩) (ch ++ [mark, mark]) := row_rd (c := lc) (by rw [show (ch ++ [mark, mark]).length = d + 2 by simp [hn]]; exact HROW.out)
                have h3 := h2.take ch.length
                rw [List.take_left] at h3
                exact h3
              have hp2 := push_hs ch (some ⟨lb, 0, none⟩) lc H2.out.hs hrd (fun b o e => by injection e with e; injection e with e; rw [← e]; exact HN.out.1) hm2 (by omega) (by omega)
              rw [hn] at hp2
              refine hp2.mono ?_
              rintro e wb ⟨rfl, v3, h3, hst⟩
              have h4 := H2.out.heap h3 hst
              have hro := row_keep HROW.out hst.chg (fun k hk ho => by
                have e1 : lb = k := by simpa [Value.ownBlock] using hk
                subst e1
                exact HN.out.1 ho)
              have hnv3 := hst.apart lb (HROW.out.lt lb rfl).2 HN.out.1
              have hiv := inv_push (most := most) ch H2.out.hs.heap HX.out.2.1 HX.out.1
              obtain ⟨wo, zt, hpr⟩ : ∃ wo zt, pushRes most zs ch = (wo, zt) := ⟨_, _, rfl⟩
              rw [hpr] at hiv h4 ⊢
              have HIV := Lib.hid hiv
              have H4 := Lib.hid h4
              have HRO := Lib.hid hro
              have HN3 := Lib.hid hnv3
              clear hp2 hpr h3 h4 hro hnv3 hiv hst HROW H2 hrd
              go_wp2_with fail
              refine Txt.wp_region_text (by kernel_rfl) (by kernel_rfl) ?_
              repeat (first
                | (refine Txt.text_p (by rfl) rfl (fun K hK => ?_); go_big_quiet_op; refine hK _ ?_; clear hK K)
                | (refine Txt.text_r (by rfl) rfl (fun K hK => ?_); go_big_quiet_op; refine hK _ ?_; clear hK K)
                | (refine Txt.text_pass (by rfl) (by rfl) ?_; simp only [List.set_cons_succ, List.set_cons_zero]))
              refine Txt.text_a (by rfl) rfl (fun K hK => ?_)
              go_wp2_with fail
              refine (num_any _ _).mono ?_
              rintro e w' ⟨rfl, rfl⟩
              go_wp2_with fail
              repeat (first
                | (refine Txt.text_p (by rfl) rfl (fun K hK => ?_); go_big_quiet_op; refine hK _ ?_; clear hK K)
                | (refine Txt.text_r (by rfl) rfl (fun K hK => ?_); go_big_quiet_op; refine hK _ ?_; clear hK K)
                | (refine Txt.text_pass (by rfl) (by rfl) ?_; simp only [List.set_cons_succ, List.set_cons_zero]))
              refine Txt.text_a (by rfl) rfl (fun K hK => ?_)
              go_wp2_with fail
              have hdr := (Below.refl wb.heap.size wb).drew
              have h5 := H4.out.quiet hdr
              have hp2 := ref_push r u most ys ch (A.map (·.add (p * 4))) (c - p) wb.drew h5.rf (HBR.out.1.quiet h5.hs.bel) (fun h0 b o e ho => by have := HBR.out.2.1 h0 b o e; have := h5.new b ho; omega) (by omega) hm2 (by omega) (by omega)
              rw [hn] at hp2
              refine hp2.mono ?_
              rintro e wc ⟨rfl, u3, hr3, hst⟩
              have h6 := h5.ref_ hr3 hst
              have hro := row_keep (row_keep (S := fun _ => False) HRO.out (Chg.of_below hdr) (fun _ _ h => h)) hst.chg (fun k hk ho => by
                have e1 : lb = k := by simpa [Value.ownBlock] using hk
                subst e1
                exact HN.out.2.1 ho)
              have hnu3 := hst.apart lb (HRO.out.lt lb rfl).2 HN.out.2.1
              obtain ⟨wo2, yt, hpr⟩ : ∃ wo2 yt, rpushRes most ys ch = (wo2, yt) := ⟨_, _, rfl⟩
              have hiv := HIV.out
              have hyt : yt.length ≤ ys.length + ch.length := by
                have e1 : yt = (rpushRes most ys ch).2 := by rw [hpr]
                rw [e1]
                unfold rpushRes
                split
                · simp only []; omega
                · split
                  · simp only []; omega
                  · rw [rpushAll_length]; simp
              rw [hpr] at hiv h6 ⊢
              obtain ⟨hwo, hpm, hso⟩ := hiv
              simp only at hwo
              subst hwo
              have HQ := Lib.hid (show zt.Perm yt ∧ Sorted yt ∧ yt.length ≤ 3 * (k + 1) from ⟨hpm, hso, by omega⟩)
              have H6 := Lib.hid h6
              have HRP := Lib.hid hro
              have HNU := Lib.hid hnu3
              clear hp2 hpr hr3 h6 hro hnu3 hpm hso hst HIV h5 HRO H4 hdr hyt HX hyl hzl
              go_wp2_with fail
              repeat (first
                | (refine Txt.text_p (by rfl) rfl (fun K hK => ?_); go_big_quiet_op; refine hK _ ?_; clear hK K)
                | (refine Txt.text_r (by rfl) rfl (fun K hK => ?_); go_big_quiet_op; refine hK _ ?_; clear hK K)
                | (refine Txt.text_pass (by rfl) (by rfl) ?_; simp only [List.set_cons_succ, List.set_cons_zero]))
              refine Txt.text_a (by rfl) rfl (fun K hK => ?_)
              go_wp2_with fail
              refine (kept_any lb (d) lc (A.map (·.add (p * 4))) (c - p) ch _ HRP.out (HBR.out.1.quiet H6.out.hs.bel) hn (by omega)).mono ?_
              rintro e wd ⟨rfl, hb⟩
              have H7 := Lib.hid (H6.out.quiet hb)
              have HRR := Lib.hid (row_keep (S := fun _ => False) HRP.out (Chg.of_below hb) (fun _ _ h => h))
              clear hb H6 HRP
              go_wp2_with fail
              repeat (first
                | (refine Txt.text_p (by rfl) rfl (fun K hK => ?_); go_big_quiet_op; refine hK _ ?_; clear hK K)
                | (refine Txt.text_r (by rfl) rfl (fun K hK => ?_); go_big_quiet_op; refine hK _ ?_; clear hK K)
                | (refine Txt.text_pass (by rfl) (by rfl) ?_; simp only [List.set_cons_succ, List.set_cons_zero]))
              refine Txt.text_nil ?_
              go_wp2_with fail
              refine (spoil_any lb (d) (d + 2) lc (ch ++ [mark, mark]) _ HRR.out (by omega) (by omega)).mono ?_
              rintro e we ⟨rfl, hcg⟩
              have h8 := H7.out.chg hcg (fun k hk => by subst hk; exact ⟨HN3.out, HNU.out, HN.out.2.2⟩)
              have H8 := Lib.hid h8
              clear hcg h8 H7 HRR HN3 HNU HN HBR hn
              go_wp2_with fail
              refine (peek_hs H8.out.hs).mono ?_
              rintro e wp ⟨rfl, hb⟩
              have H9 := Lib.hid (H8.out.quiet hb)
              clear hb H8
              have HT := Lib.hid (inv_told H9.out.hs.heap HQ.out.2.1 HQ.out.1)
              obtain ⟨x, wd, zr, hpr⟩ : ∃ x wd zr, popRes zt = (x, wd, zr) := ⟨_, _, _, rfl⟩
              rw [hpr] at HT ⊢
              clear hpr
              have h5 : Two w (wp.alloc (.cells #[.int .i64 x.s, .int .i64 x.t, .int .i64 x.q, .int .i64 x.v] 34)) w.heap.size v3 r u3 most zt yt := H9.out.quiet ((Below.refl wp.heap.size wp).alloc (Nat.le_refl _) (itObj x))
              have hb5 : (wp.alloc (.cells #[.int .i64 x.s, .int .i64 x.t, .int .i64 x.q, .int .i64 x.v] 34)).heap[wp.heap.size]? = some (itObj x) := heap_alloc_new wp (itObj x)
              clear H9
              go_wp2_with fail
              generalize wp.alloc (.cells #[.int .i64 x.s, .int .i64 x.t, .int .i64 x.q, .int .i64 x.v] 34) = wq at *
              generalize wp.heap.size = xp at *
              refine (ref_peek h5.rf).mono ?_
              rintro e wr2 ⟨x2, wo, rfl, hxw, hb⟩
              have hxw2 : (x2, wo) = (x, wd) := hxw.trans (Prod.ext HT.out.1.symm HT.out.2.symm)
              injection hxw2 with hx2 hw2
              subst hx2 hw2
              have h6 := h5.quiet hb
              have hb6 := (Chg.of_below (S := fun _ => False) hb).obj hb5 (fun h => h)
              have h7 : Two w (wr2.alloc (.cells #[.int .i64 x2.s, .int .i64 x2.t, .int .i64 x2.q, .int .i64 x2.v] 34)) w.heap.size v3 r u3 most zt yt := h6.quiet ((Below.refl wr2.heap.size wr2).alloc (Nat.le_refl _) (itObj x2))
              have hb7 : (wr2.alloc (.cells #[.int .i64 x2.s, .int .i64 x2.t, .int .i64 x2.q, .int .i64 x2.v] 34)).heap[wr2.heap.size]? = some (itObj x2) := heap_alloc_new wr2 (itObj x2)
              have hb8 : (wr2.alloc (.cells #[.int .i64 x2.s, .int .i64 x2.t, .int .i64 x2.q, .int .i64 x2.v] 34)).heap[xp]? = some (itObj x2) := ((Chg.of_below (S := fun _ => False) ((Below.refl wr2.heap.size wr2).alloc (Nat.le_refl _) (itObj x2))).obj hb6 (fun h => h))
              clear h5 hb5 hxw HT hb hb6 h6
              obtain ⟨ua, uc, hu⟩ := h7.rf.any
              subst hu
              have d0 := blk_cell h7.rf.head 1
              have d1 := blk_lt h7.rf.head
              obtain ⟨a0, a1, a2, a3, a4⟩ := it_facts hb7
              obtain ⟨b0, b1, b3, b4, b5⟩ := it_facts hb8
              simp only [List.getElem?_toArray, List.getElem?_cons_succ, List.getElem?_cons_zero] at d0
              have H7 := Lib.hid h7
              clear h7 hb7 hb8
              go_wp2_with fail
              generalize wr2.alloc (.cells #[.int .i64 x2.s, .int .i64 x2.t, .int .i64 x2.q, .int .i64 x2.v] 34) = wt at *
              generalize wr2.heap.size = yp at *
              refine Txt.wp_region_mix (by kernel_rfl) (by kernel_rfl) (fun HB => ?_)
              repeat (first
                | (refine Txt.mix_p (by rfl) rfl rfl (fun K hK => ?_); go_big_quiet_op; refine hK _ ?_; clear hK K)
                | (refine Txt.mix_re (by rfl) (by decide +kernel) (by rfl) (by rfl) (by go_simp) HB (fun K hK => ?_); go_big_quiet_op; refine hK _ ?_; clear hK K)
                | (refine Txt.mix_rl (by rfl) (by decide +kernel) (by rfl) (by rfl) (by go_simp) HB (fun K hK => ?_); go_big_quiet_op; refine hK _ ?_; clear hK K)
                | (refine Txt.mix_pass (by rfl) (by rfl) ?_; simp only [List.set_cons_succ, List.set_cons_zero]))
              refine Txt.mix_c (by rfl) (by decide +kernel) HB ?_
              intro w3 hw1 K hK
              replace HB := HB.trans hw1
              clear hw1
              go_wp2_with fail
              refine (num_any _ _).mono ?_
              rintro e w' ⟨rfl, rfl⟩
              refine hK _ _ ⟨Txt.Bw.refl _, ?_⟩
              clear hK K
              repeat (first
                | (refine Txt.mix_p (by rfl) rfl rfl (fun K hK => ?_); go_big_quiet_op; refine hK _ ?_; clear hK K)
                | (refine Txt.mix_re (by rfl) (by decide +kernel) (by rfl) (by rfl) (by go_simp) HB (fun K hK => ?_); go_big_quiet_op; refine hK _ ?_; clear hK K)
                | (refine Txt.mix_rl (by rfl) (by decide +kernel) (by rfl) (by rfl) (by go_simp) HB (fun K hK => ?_); go_big_quiet_op; refine hK _ ?_; clear hK K)
                | (refine Txt.mix_pass (by rfl) (by rfl) ?_; simp only [List.set_cons_succ, List.set_cons_zero]))
              refine Txt.mix_c (by rfl) (by decide +kernel) HB ?_
              intro w4 hw1 K hK
              replace HB := HB.trans hw1
              clear hw1
              go_wp2_with fail
              have hlen := len_hs (H7.out.quiet HB.undrew).hs
              rw [HQ.out.1.length_eq] at hlen
              refine hlen.mono ?_
              rintro e w' ⟨rfl, rfl⟩
              refine hK _ _ ⟨Txt.Bw.refl _, ?_⟩
              clear hK K hlen
              repeat (first
                | (refine Txt.mix_p (by rfl) rfl rfl (fun K hK => ?_); go_big_quiet_op; refine hK _ ?_; clear hK K)
                | (refine Txt.mix_re (by rfl) (by decide +kernel) (by rfl) (by rfl) (by go_simp) HB (fun K hK => ?_); go_big_quiet_op; refine hK _ ?_; clear hK K)
                | (refine Txt.mix_rl (by rfl) (by decide +kernel) (by rfl) (by rfl) (by go_simp) HB (fun K hK => ?_); go_big_quiet_op; refine hK _ ?_; clear hK K)
                | (refine Txt.mix_pass (by rfl) (by rfl) ?_; simp only [List.set_cons_succ, List.set_cons_zero]))
              refine Txt.mix_nil ?_
              go_wp2_with fail
              exact ⟨⟨k + 1, (p + d), v3, _, zt, yt, rfl, by go_num, by omega, by omega, by omega, H7.out.quiet HB.undrew, HQ.out⟩, by simp [intOf]; omega⟩
      · have hk5 : (k = l.length ∨ k = 60) := by omega
        rcases hk5 with hk5 | hk5
        · have hd : decide (k < l.length) = false := decide_eq_false (by omega)
          go_wp2_with fail
          refine (awake_any _).mono ?_
          rintro e w3 ⟨rfl, hb⟩
          go_wp2_with fail
          go_ret
          exact ⟨rfl, (H1.out.quiet hb).hs.bel⟩
        · by_cases hk6 : k < l.length
          · have hd : decide (k < l.length) = true := decide_eq_true hk6
            have hd2 : decide (k < 60) = false := decide_eq_false (by omega)
            go_wp2_with fail
            refine (awake_any _).mono ?_
            rintro e w3 ⟨rfl, hb⟩
            go_wp2_with fail
            go_ret
            exact ⟨rfl, (H1.out.quiet hb).hs.bel⟩
          · have hd : decide (k < l.length) = false := decide_eq_false (by omega)
            go_wp2_with fail
            refine (awake_any _).mono ?_
            rintro e w3 ⟨rfl, hb⟩
            go_wp2_with fail
            go_ret
            exact ⟨rfl, (H1.out.quiet hb).hs.bel⟩
  · have hm' : most < 1 ∨ 8192 < most := by omega
    refine (new_no most _ hm').mono ?_
    rintro e w1 ⟨rfl, rfl⟩
    go_wp2_with fail
    refine (ref_new_no most _ hm').mono ?_
    rintro e w2 ⟨rfl, rfl⟩
    go_wp2_with fail
    refine (num_any _ _).mono ?_
    rintro e w' ⟨rfl, rfl⟩
    go_wp2_with fail
    refine (awake_any _).mono ?_
    rintro e w3 ⟨rfl, hb⟩
    go_wp2_with fail
    go_ret
    exact ⟨rfl, hb⟩
end Go.Proofs.Ytcleljmbdiddeaa
