/- HeapLeast returns true: at each step the least one is told, of all that are there. No conditions. -/
import Derived.Test.YtcleljmbdiddeaaHeapCut
namespace Go.Proofs.Ytcleljmbdiddeaa
open Go.RowKit HP PHeaps
attribute [local go_sem high] eqA34

theorem and31 (x : Int) : 0 ≤ bits .and .i64 x 31 ∧ bits .and .i64 x 31 ≤ 31 := and_bound x 31 (by decide)

def Lst (y : It) : Prop := y.s = 1 ∧ 0 ≤ y.t ∧ y.t ≤ 31 ∧ 1 ≤ y.q ∧ y.q ≤ 50 ∧ 0 ≤ y.v ∧ y.v ≤ 49
theorem lst_may {y : It} (h : Lst y) : may y = true := by
  unfold Lst at h
  unfold may
  rw [decide_eq_true_iff]
  omega

/-- What a look tells: the least, or none. -/
theorem peek_told {zs rs : List It} (h : Heap zs) (hp : zs.Perm rs) : ∃ hd wd, popRes zs = (hd, wd, (popRes zs).2.2) ∧ (∀ y ∈ rs, lt y hd = false) ∧ ((rs.length = 0 ∧ wd = 1502) ∨ (0 < rs.length ∧ wd = 0)) := by
  have hl := hp.length_eq
  by_cases hz : zs = []
  · subst hz
    refine ⟨z0, 1502, rfl, fun y hy => absurd (hp.mem_iff.2 hy) (by simp), .inl ⟨hl.symm, rfl⟩⟩
  · have h0 := List.length_pos_iff.2 hz
    refine ⟨at_ zs 0, 0, ?_, fun y hy => heap_head_le h (hp.mem_iff.2 hy), .inr ⟨by omega, rfl⟩⟩
    unfold popRes
    rw [if_neg hz]

set_option maxHeartbeats 8000000 in
set_option maxRecDepth 100000 in
theorem least_any (A : Option Addr) (l : List Int) (c : Nat) (w : World) (hA : RdI w A l) (hl : l.length ≤ 140737488351232) :
    Calls Try.prog 8 #[.slice A l.length c] w fun e w' => e = .returned (.bool true) ∧ Below w.heap.size w w' := by
  have HA := Lib.hid hA
  clear hA
  go_enter Try.func8, Try.ntmps8
  go_wp2_with fail
  refine (awake_any _).mono ?_
  rintro e w0 ⟨rfl, hb0⟩
  go_wp2_with fail
  refine (new_ok 64 _ (by decide) (by decide)).mono ?_
  rintro e w1 ⟨rfl, rfl⟩
  have h0 := new_hs (w0 := w) (w := w0) 64 hb0
  generalize w0.alloc (.cells #[.int .i64 64, .slice none 0 0] 54) = w1 at *
  clear hb0
  generalize w0.heap.size = g at *
  generalize hv : Value.slice none 0 0 = v at h0
  have H := Lib.hid h0
  clear h0 hv
  go_wp2_with fail
  refine (num_any _ _).mono ?_
  rintro e w' ⟨rfl, rfl⟩
  go_wp2_with fail
  go_loopw [5, 6] (fun r i wr => ∃ k : Nat, i = .int .i64 k ∧ k ≤ l.length ∧ k ≤ 50 ∧ ∃ v xs ys, HS w wr g v 64 xs ∧ Loc w wr g v r ys ∧ Rel (xs.Perm ys ∧ ys.length ≤ k ∧ ∀ y ∈ xs, Lst y)) (fun _ i _ => l.length - (intOf i).toNat)
  case atStart => exact ⟨0, rfl, by omega, by omega, v, [], [], H.out, Loc.nil, List.Perm.refl _, Nat.le_refl _, fun y hy => absurd hy (by simp)⟩
  case round =>
    obtain ⟨k, rfl, hk, hk4, v1, xs, ys, hs, hloc, hx⟩ := hrel
    have HX := Lib.hid hx
    have H1 := Lib.hid hs
    have L1 := Lib.hid hloc
    obtain ⟨A1, c1, rfl⟩ := hloc.any
    clear hx hs hloc
    by_cases hlt : k < l.length ∧ k < 50
    · obtain ⟨hk1, hk2⟩ := hlt
      have hd1 : decide ((k : Int) < l.length) = true := decide_eq_true (by omega)
      obtain ⟨b, o, rfl, hbs, hcells⟩ := HA.out (by omega)
      have e0 := H1.out.bel.cell (p := ⟨b, o + k, none⟩) hbs
      rw [hcells k hk1] at e0
      clear hcells
      generalize l.getD k 0 = p at *
      have HE := Lib.hid e0
      have hd2 : decide ((k : Int) < 50) = true := decide_eq_true (by omega)
      by_cases hc3 : bits .and .i64 p 3 = 3 ∧ 0 < ys.length
      · obtain ⟨hc, hpos⟩ := hc3
        have hxp : 0 < xs.length := by have := HX.out.1.length_eq; omega
        have HP := Lib.hid (popRes_some hxp)
        have HPS := Lib.hid (pop_spec H1.out.heap hxp)
        clear hxp
        go_wp2_with fail
        clear e0 HE hd1 hc
        refine (pop_hs H1.out (by have := HX.out.1.length_eq; have := HX.out.2.1; omega)).mono ?_
        rintro e wb ⟨rfl, v3, h5, hst⟩
        rw [HP.out] at h5 ⊢
        have hx0 : at_ xs 0 = at_ xs 0 := rfl
        generalize hxx : at_ xs 0 = x at hx0 h5 ⊢
        have hpe : (x :: pop xs).Perm ys := by rw [← hxx]; exact HPS.out.2.trans HX.out.1
        have hxm : Lst x := HX.out.2.2 x (by rw [← hxx]; exact HPS.out.2.mem_iff.1 (List.mem_cons_self ..))
        have hpm : ∀ y ∈ pop xs, Lst y := fun y hy => HX.out.2.2 y (HPS.out.2.mem_iff.1 (List.mem_cons_of_mem _ hy))
        have hyl := HX.out.2.1
        generalize pop xs = zs at *
        have h6 : HS w (wb.alloc (.cells #[.int .i64 x.s, .int .i64 x.t, .int .i64 x.q, .int .i64 x.v] 34)) g v3 64 zs := h5.quiet ((Below.refl wb.heap.size wb).alloc (Nat.le_refl _) (itObj x))
        have l6 : Loc w (wb.alloc (.cells #[.int .i64 x.s, .int .i64 x.t, .int .i64 x.q, .int .i64 x.v] 34)) g v3 (.slice A1 ys.length c1) ys := (L1.out.step hst).quiet ((Below.refl wb.heap.size wb).alloc (Nat.le_refl _) (itObj x))
        have hv6 : Var g v3 (wb.alloc (.cells #[.int .i64 x.s, .int .i64 x.t, .int .i64 x.q, .int .i64 x.v] 34)) wb.heap.size x := Var.new h5 x
        obtain ⟨yb, yc, hform⟩ := L1.out.form hpos
        injection hform with hf1 _ hf2
        subst hf1 hf2
        clear HP HPS hxx HX H1 L1 hst h5
        go_wp2_with fail
        generalize wb.alloc (.cells #[.int .i64 x.s, .int .i64 x.t, .int .i64 x.q, .int .i64 x.v] 34) = wc at *
        generalize wb.heap.size = xb at *
        have H6 := Lib.hid h6
        have L6 := Lib.hid l6
        have V6 := Lib.hid hv6
        have HP := Lib.hid hpe
        have HM := Lib.hid hpm
        clear h6 l6 hv6 hpe hxm hpm
        go_loopw [9, 10] (fun z i wx => ∃ (j : Nat) (n : Int), i = .int .i64 j ∧ z = .int .i64 n ∧ j ≤ ys.length ∧ Rel ((n = -1 ∧ ∀ i, i < j → at_ ys i ≠ x) ∨ ∃ a : Nat, n = a ∧ a < j ∧ at_ ys a = x) ∧ HS w wx g v3 64 zs ∧ Loc w wx g v3 (.slice (some ⟨yb, 0, none⟩) ys.length c1) ys ∧ Var g v3 wx xb x) (fun _ i _ => ys.length - (intOf i).toNat)
        case atStart => exact ⟨0, -1, rfl, rfl, by omega, .inl ⟨rfl, fun i hi => absurd hi (by omega)⟩, H6.out, L6.out, V6.out⟩
        case round =>
          obtain ⟨j, n, rfl, rfl, hj, hn, h7, l7, hv7⟩ := hrel
          have H7 := Lib.hid h7
          have L7 := Lib.hid l7
          have V7 := Lib.hid hv7
          have HN := Lib.hid hn
          clear h7 l7 hv7 hn
          by_cases hjl : j < ys.length
          · obtain ⟨a0, a1, a2, a3, a4⟩ := it_facts V7.out.blk
            obtain ⟨b0, b1, b2, b3⟩ := row_get L7.out.row hjl
            obtain ⟨cur, hcur⟩ := row_blk L7.out.row
            have hbl := blk_lt hcur
            clear hcur
            by_cases heq : at_ ys j = x
            · rw [heq] at b0 b1 b2 b3
              go_wp2_with fail
              refine Txt.wp_region_text (by kernel_rfl) (by kernel_rfl) ?_
              repeat (first
                | (refine Txt.text_p (by rfl) rfl (fun K hK => ?_); go_big_quiet_op; refine hK _ ?_; clear hK K)
                | (refine Txt.text_r (by rfl) rfl (fun K hK => ?_); go_big_quiet_op; refine hK _ ?_; clear hK K)
                | (refine Txt.text_pass (by rfl) (by rfl) ?_; simp only [List.set_cons_succ, List.set_cons_zero]))
              refine Txt.text_nil ?_
              go_wp2_with fail
              have hdr := (Below.refl wr.heap.size wr).drew
              exact ⟨⟨j + 1, j, by go_num, rfl, by omega, .inr ⟨j, rfl, by omega, heq⟩, H7.out.quiet hdr, L7.out.quiet hdr, V7.out.quiet hdr⟩, by simp [intOf]; omega⟩
            · have hne := it_ne heq
              go_wp2_with fail
              refine Txt.wp_region_text (by kernel_rfl) (by kernel_rfl) ?_
              repeat (first
                | (refine Txt.text_p (by rfl) rfl (fun K hK => ?_); go_big_quiet_op; refine hK _ ?_; clear hK K)
                | (refine Txt.text_r (by rfl) rfl (fun K hK => ?_); go_big_quiet_op; refine hK _ ?_; clear hK K)
                | (refine Txt.text_pass (by rfl) (by rfl) ?_; simp only [List.set_cons_succ, List.set_cons_zero]))
              refine Txt.text_nil ?_
              go_wp2_with fail
              have hdr := (Below.refl wr.heap.size wr).drew
              refine ⟨⟨j + 1, n, by go_num, rfl, by omega, ?_, H7.out.quiet hdr, L7.out.quiet hdr, V7.out.quiet hdr⟩, by simp [intOf]; omega⟩
              rcases HN.out with ⟨e, h⟩ | ⟨a, e, ha, h⟩
              · refine .inl ⟨e, fun i hi => ?_⟩
                by_cases hij : i = j
                · rw [hij]
                  exact heq
                · exact h i (by omega)
              · exact .inr ⟨a, e, by omega, h⟩
          · obtain rfl : j = ys.length := by omega
            obtain ⟨a, rfl, ha, hax⟩ : ∃ a : Nat, n = a ∧ a < ys.length ∧ at_ ys a = x := by
              rcases HN.out with ⟨_, h⟩ | h
              · obtain ⟨i, hi, e⟩ := List.mem_iff_getElem.1 (HP.out.mem_iff.1 (List.mem_cons_self ..))
                exact absurd ((at_eq hi).trans e) (h i hi)
              · exact h
            have HX := Lib.hid hax
            have hd3 : decide ((a : Int) < 0) = false := decide_eq_false (by omega)
            clear hax HN V7
            go_wp2_with fail
            refine (num_any _ _).mono ?_
            rintro e w' ⟨rfl, rfl⟩
            obtain ⟨hyc, hyc2⟩ := row_cap L7.out.row
            go_wp2_with (at_builtin; refine at_append _ _ _ rfl ?_)
            have hyb := (L7.out.row.lt yb rfl).2
            have hal := (Below.refl wr.heap.size wr).alloc (Nat.le_refl _) (.cells #[] 34)
            have hts : (ys.take a).length = a := by rw [List.length_take]; omega
            refine Loc.cat (.tmp 76) (.tmp 79) rfl rfl (H7.out.quiet hal) (Loc.fresh H7.out) rfl (some ⟨yb, 0, none⟩) (ys.take a) a c1 hts rfl ((L7.out.quiet hal).rd.take a) (fun e => by cases e) (by simp; omega) ?_
            rintro v5 w5 h9 l9 hgr
            have l10 := (L7.out.quiet hal).keep (S := fun k => (Value.slice (some ⟨wr.heap.size, 0, none⟩) 0 0).ownBlock = some k) ((Chg.refl _ _).grown hgr (fun _ hk => .inl hk)) (fun k hk e => by
              have e1 : yb = k := by simpa [Value.ownBlock] using hk
              have e2 : wr.heap.size = k := by simpa [Value.ownBlock] using e
              omega)
            rw [List.nil_append] at l9
            have H9 := Lib.hid h9
            have L9 := Lib.hid l9
            have L10 := Lib.hid l10
            have HT := Lib.hid hts
            clear h9 l9 l10 hgr hal H7 L7 hyb hts
            simp only [Act.put, List.setIfInBounds_toArray, List.set_cons_succ, List.set_cons_zero]
            go_wp2_with (at_builtin; refine at_append _ _ _ rfl ?_)
            all_goals
              have hcp := cut_perm ha
              rw [HX.out] at hcp
              have hdl : (ys.drop (a + 1)).length = ys.length - (a + 1) := List.length_drop ..
              first
              | refine Loc.cat (.tmp 81) (.tmp 85) rfl rfl H9.out L9.out rfl (some ⟨yb, (a + 1) * 4, none⟩) (ys.drop (a + 1)) (ys.length - (a + 1)) (c1 - (a + 1)) hdl rfl (by have := L10.out.rd.drop (a + 1); rw [Nat.zero_add] at this; exact this) (fun e => by cases e) (by rw [HT.out]; omega) ?_
              | refine Loc.cat (.tmp 81) (.tmp 85) rfl rfl H9.out L9.out rfl (some ⟨yb, 0, none⟩) (ys.drop (a + 1)) (ys.length - (a + 1)) 0 hdl rfl (fun h => absurd h (by rw [hdl]; omega)) (fun e => by cases e) (by rw [HT.out]; omega) ?_
              rintro v6 w6 h8 l8 -
              have hrl : (ys.take a ++ ys.drop (a + 1)).length ≤ k + 1 := by rw [List.length_append, HT.out, hdl]; omega
              generalize ys.take a ++ ys.drop (a + 1) = rs at *
              have hp8 : zs.Perm rs := (List.perm_cons x).1 (HP.out.trans hcp.symm)
              have HP8 := Lib.hid hp8
              have HQ := Lib.hid hrl
              have H8 := Lib.hid h8
              have L8 := Lib.hid l8
              obtain ⟨A2, c2, rfl⟩ := l8.any
              clear hcp hdl hp8 hrl h8 l8 H9 L9 L10 HT HX HP
              simp only [Act.put, List.setIfInBounds_toArray, List.set_cons_succ, List.set_cons_zero]
              generalize hvt : v3 = vt at *
              clear hvt
              go_wp2_with fail
              refine (peek_hs H8.out).mono ?_
              rintro e wp ⟨rfl, hb⟩
              have H9 := Lib.hid (H8.out.quiet hb)
              have L9 := Lib.hid (L8.out.quiet hb)
              clear hb H8 L8
              obtain ⟨hd, wd, hpr, hle, hwd⟩ : ∃ hd wd, popRes zs = (hd, wd, (popRes zs).2.2) ∧ (∀ y ∈ rs, lt y hd = false) ∧ ((rs.length = 0 ∧ wd = 1502) ∨ (0 < rs.length ∧ wd = 0)) := peek_told H9.out.heap HP8.out
              rw [hpr]
              clear hpr
              have HLE := Lib.hid hle
              clear hle
              have hzr := HP8.out.length_eq
              have HZR := Lib.hid hzr
              clear hzr
              rcases hwd with ⟨hr0, rfl⟩ | ⟨hr0, rfl⟩
              all_goals
                have h10 : HS w (wp.alloc (.cells #[.int .i64 hd.s, .int .i64 hd.t, .int .i64 hd.q, .int .i64 hd.v] 34)) g vt 64 zs := H9.out.quiet ((Below.refl wp.heap.size wp).alloc (Nat.le_refl _) (itObj hd))
                have l10 : Loc w (wp.alloc (.cells #[.int .i64 hd.s, .int .i64 hd.t, .int .i64 hd.q, .int .i64 hd.v] 34)) g vt (.slice A2 rs.length c2) rs := L9.out.quiet ((Below.refl wp.heap.size wp).alloc (Nat.le_refl _) (itObj hd))
                have hv10 : Var g vt (wp.alloc (.cells #[.int .i64 hd.s, .int .i64 hd.t, .int .i64 hd.q, .int .i64 hd.v] 34)) wp.heap.size hd := Var.new H9.out hd
                go_wp2_with fail
                generalize wp.alloc (.cells #[.int .i64 hd.s, .int .i64 hd.t, .int .i64 hd.q, .int .i64 hd.v] 34) = wq at *
                generalize wp.heap.size = pb at *
                have H10 := Lib.hid h10
                have L10 := Lib.hid l10
                have V10 := Lib.hid hv10
                clear h10 l10 hv10 H9 L9
                refine (len_hs H10.out).mono ?_
                rintro e w' ⟨rfl, rfl⟩
                rw [HZR.out]
                go_wp2_with fail
                refine (num_any _ _).mono ?_
                rintro e w' ⟨rfl, rfl⟩
                go_wp2_with fail
                go_loopw [16] (fun i wx => ∃ j : Nat, i = .int .i64 j ∧ j ≤ rs.length ∧ HS w wx g vt 64 zs ∧ Loc w wx g vt (.slice A2 rs.length c2) rs ∧ Var g vt wx pb hd) (fun i _ => rs.length - (intOf i).toNat)
                case atStart => exact ⟨0, rfl, by omega, H10.out, L10.out, V10.out⟩
                case round =>
                  obtain ⟨j, rfl, hj, h11, l11, v11⟩ := hrel
                  have H11 := Lib.hid h11
                  have L11 := Lib.hid l11
                  have V11 := Lib.hid v11
                  clear h11 l11 v11
                  by_cases hjr : j < rs.length
                  · try (exact absurd hjr (by omega))
                    all_goals
                      obtain ⟨rb, rc, hf⟩ := L11.out.form hr0
                      injection hf with f1 _ f2
                      subst f1 f2
                      obtain ⟨a0, a1, a2, a3, a4⟩ := it_facts V11.out.blk
                      obtain ⟨b0, b1, b2, b3⟩ := row_get L11.out.row hjr
                      obtain ⟨cur, hcur⟩ := row_blk L11.out.row
                      have hbl := blk_lt hcur
                      clear hcur
                      have hy := HLE.out (at_ rs j) (by rw [at_eq hjr]; exact List.getElem_mem hjr)
                      rw [nlt_iff] at hy
                      have h1 : decide ((at_ rs j).t < hd.t) = false := decide_eq_false (by omega)
                      have h3 : (at_ rs j).t = hd.t → decide ((at_ rs j).q < hd.q) = false := fun e => decide_eq_false (by omega)
                      clear hy
                      have hdr := (Below.refl wr.heap.size wr).drew
                      have hmj : rs.length ≤ 100 := by have := HQ.out; omega
                      by_cases h2 : (at_ rs j).t = hd.t
                      · have h4 := h3 h2
                        rw [h2] at b1
                        go_wp2_with fail
                        refine Txt.wp_region_text (by kernel_rfl) (by kernel_rfl) ?_
                        repeat (first
                          | (refine Txt.text_p (by rfl) rfl (fun K hK => ?_); go_big_quiet_op; refine hK _ ?_; clear hK K)
                          | (refine Txt.text_r (by rfl) rfl (fun K hK => ?_); go_big_quiet_op; refine hK _ ?_; clear hK K)
                          | (refine Txt.text_pass (by rfl) (by rfl) ?_; simp only [List.set_cons_succ, List.set_cons_zero]))
                        refine Txt.text_nil ?_
                        go_wp2_with fail
                        exact ⟨⟨j + 1, by go_num, by omega, H11.out.quiet hdr, L11.out.quiet hdr, V11.out.quiet hdr⟩, by simp [intOf]; omega⟩
                      · have hbq : ((at_ rs j).t == hd.t) = false := beq_eq_false_iff_ne.2 h2
                        go_wp2_with fail
                        refine Txt.wp_region_text (by kernel_rfl) (by kernel_rfl) ?_
                        repeat (first
                          | (refine Txt.text_p (by rfl) rfl (fun K hK => ?_); go_big_quiet_op; refine hK _ ?_; clear hK K)
                          | (refine Txt.text_r (by rfl) rfl (fun K hK => ?_); go_big_quiet_op; refine hK _ ?_; clear hK K)
                          | (refine Txt.text_pass (by rfl) (by rfl) ?_; simp only [List.set_cons_succ, List.set_cons_zero]))
                        refine Txt.text_nil ?_
                        go_wp2_with fail
                        exact ⟨⟨j + 1, by go_num, by omega, H11.out.quiet hdr, L11.out.quiet hdr, V11.out.quiet hdr⟩, by simp [intOf]; omega⟩
                  · obtain rfl : j = rs.length := by omega
                    go_wp2_with fail
                    refine ⟨⟨k + 1, by go_num, by omega, by omega, vt, zs, rs, H11.out, ?_, HP8.out, HQ.out, HM.out⟩, by simp [intOf]; omega⟩
                    have l12 := L11.out
                    first
                    | exact l12
                    | (rw [hr0] at l12; exact l12)
      · obtain ⟨m4, m5⟩ := and31 (p / 4)
        have hcc : (bits .and .i64 p 3 ≠ 3) ∨ (bits .and .i64 p 3 = 3 ∧ ys.length = 0) := by omega
        have hyl := HX.out.2.1
        clear hc3
        rcases hcc with hcc | ⟨hcc, hy0⟩
        all_goals
          try (have hbq : (bits .and .i64 p 3 == 3) = false := beq_eq_false_iff_ne.2 hcc)
          go_wp2_with fail
          refine (item_any _ _ _ _ _).mono ?_
          rintro e wa ⟨rfl, hb⟩
          have H2 := Lib.hid (H1.out.quiet hb)
          have L2 := Lib.hid (L1.out.quiet hb)
          clear hb H1 L1
          try (rw [hy0] at L2)
          go_wp2_with fail
          generalize hA : bits .and .i64 (p / 4) 31 = x1 at *
          clear hA e0 HE
          have hsz : (wa.alloc (itObj ⟨1, x1, k + 1, k⟩)).heap.size = wa.heap.size + 1 := by simp
          have hal := (Below.refl wa.heap.size wa).alloc (Nat.le_refl _) (itObj ⟨1, x1, k + 1, k⟩)
          have hal2 := (Below.refl (wa.alloc (itObj ⟨1, x1, k + 1, k⟩)).heap.size (wa.alloc (itObj ⟨1, x1, k + 1, k⟩))).alloc (Nat.le_refl _) (itObj ⟨1, x1, k + 1, k⟩)
          have hr := rd_blk (ys := [⟨1, x1, k + 1, k⟩]) (sp := []) (heap_alloc_new (wa.alloc (itObj ⟨1, x1, k + 1, k⟩)) (itObj ⟨1, x1, k + 1, k⟩))
          rw [hsz] at hr
          have h3 := (H2.out.quiet hal).quiet hal2
          have l3 := (L2.out.quiet hal).quiet hal2
          have hv3 := (Var.new H2.out ⟨1, x1, k + 1, k⟩).quiet hal2
          have hn : ¬ own g v1 (wa.heap.size + 1) := fun h => by have := H2.out.lt _ h; omega
          have hlst : Lst ⟨1, x1, k + 1, k⟩ := ⟨rfl, m4, m5, by simp only []; omega, by simp only []; omega, by simp only []; omega, by simp only []; omega⟩
          have hxl := HX.out.1.length_eq
          have hpr := pushRes_one (most := 64) (xs := xs) (lst_may hlst) (by omega)
          refine (push_hs [⟨1, x1, k + 1, k⟩] _ 1 h3 hr (fun b o e => by injection e with e; injection e with e; rw [← e]; exact hn) (by decide) (by omega) (by simp)).mono ?_
          rintro e wb ⟨rfl, v2, h4, hst⟩
          rw [hpr] at h4 ⊢
          have hps := push_spec h3.heap ⟨1, x1, k + 1, k⟩
          have hp8 : (push xs ⟨1, x1, k + 1, k⟩).Perm (ys ++ [⟨1, x1, k + 1, k⟩]) := (hps.2.trans (HX.out.1.cons _)).trans (List.perm_append_singleton _ _).symm
          have hm8 : ∀ y ∈ push xs ⟨1, x1, k + 1, k⟩, Lst y := fun y hy => by
            rcases List.mem_cons.1 (hps.2.mem_iff.1 hy) with rfl | h
            · exact hlst
            · exact HX.out.2.2 y h
          have H3 := Lib.hid h4
          have L3 := Lib.hid (l3.step hst)
          have V3 := Lib.hid (hv3.step hst)
          clear hsz hal hal2 hr h3 l3 hv3 hn hlst hxl hpr h4 hst hps H2 L2
          generalize push xs ⟨1, x1, k + 1, k⟩ = zs at *
          have HP8 := Lib.hid hp8
          have HM := Lib.hid hm8
          clear hp8 hm8
          go_wp2_with fail
          refine (num_any _ _).mono ?_
          rintro e w' ⟨rfl, rfl⟩
          obtain ⟨a0, a1, a2, a3, a4⟩ := it_facts V3.out.blk
          go_wp2_with (at_builtin; refine at_append _ _ _ rfl ?_)
          have hal := (Below.refl wb.heap.size wb).alloc (Nat.le_refl _) (itObj ⟨1, x1, k + 1, k⟩)
          refine Loc.append (.tmp 105) (.tmp 107) rfl rfl (H3.out.quiet hal) (L3.out.quiet hal) rfl wb.heap.size [⟨1, x1, k + 1, k⟩] 1 [] (0, 0) rfl (heap_alloc_new wb (itObj ⟨1, x1, k + 1, k⟩)) (by simp; omega) ?_
          rintro v6 w6 h8 l8 -
          have hrl : (ys ++ [(⟨1, x1, k + 1, k⟩ : It)]).length ≤ k + 1 := by rw [List.length_append]; simp; omega
          generalize ys ++ [(⟨1, x1, k + 1, k⟩ : It)] = rs at *
          have HQ := Lib.hid hrl
          have H8 := Lib.hid h8
          have L8 := Lib.hid l8
          obtain ⟨A2, c2, rfl⟩ := l8.any
          clear hrl h8 l8 H3 L3 V3 a0 a1 a2 a3 a4 hal
          simp only [Act.put, List.setIfInBounds_toArray, List.set_cons_succ, List.set_cons_zero]
          generalize hvt : v2 = vt at *
          clear hvt
          go_wp2_with fail
          refine (peek_hs H8.out).mono ?_
          rintro e wp ⟨rfl, hb⟩
          have H9 := Lib.hid (H8.out.quiet hb)
          have L9 := Lib.hid (L8.out.quiet hb)
          clear hb H8 L8
          obtain ⟨hd, wd, hpr, hle, hwd⟩ : ∃ hd wd, popRes zs = (hd, wd, (popRes zs).2.2) ∧ (∀ y ∈ rs, lt y hd = false) ∧ ((rs.length = 0 ∧ wd = 1502) ∨ (0 < rs.length ∧ wd = 0)) := peek_told H9.out.heap HP8.out
          rw [hpr]
          clear hpr
          have HLE := Lib.hid hle
          clear hle
          have hzr := HP8.out.length_eq
          have HZR := Lib.hid hzr
          clear hzr
          rcases hwd with ⟨hr0, rfl⟩ | ⟨hr0, rfl⟩
          all_goals
            have h10 : HS w (wp.alloc (.cells #[.int .i64 hd.s, .int .i64 hd.t, .int .i64 hd.q, .int .i64 hd.v] 34)) g vt 64 zs := H9.out.quiet ((Below.refl wp.heap.size wp).alloc (Nat.le_refl _) (itObj hd))
            have l10 : Loc w (wp.alloc (.cells #[.int .i64 hd.s, .int .i64 hd.t, .int .i64 hd.q, .int .i64 hd.v] 34)) g vt (.slice A2 rs.length c2) rs := L9.out.quiet ((Below.refl wp.heap.size wp).alloc (Nat.le_refl _) (itObj hd))
            have hv10 : Var g vt (wp.alloc (.cells #[.int .i64 hd.s, .int .i64 hd.t, .int .i64 hd.q, .int .i64 hd.v] 34)) wp.heap.size hd := Var.new H9.out hd
            go_wp2_with fail
            generalize wp.alloc (.cells #[.int .i64 hd.s, .int .i64 hd.t, .int .i64 hd.q, .int .i64 hd.v] 34) = wq at *
            generalize wp.heap.size = pb at *
            have H10 := Lib.hid h10
            have L10 := Lib.hid l10
            have V10 := Lib.hid hv10
            clear h10 l10 hv10 H9 L9
            refine (len_hs H10.out).mono ?_
            rintro e w' ⟨rfl, rfl⟩
            rw [HZR.out]
            go_wp2_with fail
            refine (num_any _ _).mono ?_
            rintro e w' ⟨rfl, rfl⟩
            go_wp2_with fail
            go_loopw [16] (fun i wx => ∃ j : Nat, i = .int .i64 j ∧ j ≤ rs.length ∧ HS w wx g vt 64 zs ∧ Loc w wx g vt (.slice A2 rs.length c2) rs ∧ Var g vt wx pb hd) (fun i _ => rs.length - (intOf i).toNat)
            case atStart => exact ⟨0, rfl, by omega, H10.out, L10.out, V10.out⟩
            case round =>
              obtain ⟨j, rfl, hj, h11, l11, v11⟩ := hrel
              have H11 := Lib.hid h11
              have L11 := Lib.hid l11
              have V11 := Lib.hid v11
              clear h11 l11 v11
              by_cases hjr : j < rs.length
              · try (exact absurd hjr (by omega))
                all_goals
                  obtain ⟨rb, rc, hf⟩ := L11.out.form hr0
                  injection hf with f1 _ f2
                  subst f1 f2
                  obtain ⟨a0, a1, a2, a3, a4⟩ := it_facts V11.out.blk
                  obtain ⟨b0, b1, b2, b3⟩ := row_get L11.out.row hjr
                  obtain ⟨cur, hcur⟩ := row_blk L11.out.row
                  have hbl := blk_lt hcur
                  clear hcur
                  have hy := HLE.out (at_ rs j) (by rw [at_eq hjr]; exact List.getElem_mem hjr)
                  rw [nlt_iff] at hy
                  have h1 : decide ((at_ rs j).t < hd.t) = false := decide_eq_false (by omega)
                  have h3 : (at_ rs j).t = hd.t → decide ((at_ rs j).q < hd.q) = false := fun e => decide_eq_false (by omega)
                  clear hy
                  have hdr := (Below.refl wr.heap.size wr).drew
                  have hmj : rs.length ≤ 100 := by have := HQ.out; omega
                  by_cases h2 : (at_ rs j).t = hd.t
                  · have h4 := h3 h2
                    rw [h2] at b1
                    go_wp2_with fail
                    refine Txt.wp_region_text (by kernel_rfl) (by kernel_rfl) ?_
                    repeat (first
                      | (refine Txt.text_p (by rfl) rfl (fun K hK => ?_); go_big_quiet_op; refine hK _ ?_; clear hK K)
                      | (refine Txt.text_r (by rfl) rfl (fun K hK => ?_); go_big_quiet_op; refine hK _ ?_; clear hK K)
                      | (refine Txt.text_pass (by rfl) (by rfl) ?_; simp only [List.set_cons_succ, List.set_cons_zero]))
                    refine Txt.text_nil ?_
                    go_wp2_with fail
                    exact ⟨⟨j + 1, by go_num, by omega, H11.out.quiet hdr, L11.out.quiet hdr, V11.out.quiet hdr⟩, by simp [intOf]; omega⟩
                  · have hbq : ((at_ rs j).t == hd.t) = false := beq_eq_false_iff_ne.2 h2
                    go_wp2_with fail
                    refine Txt.wp_region_text (by kernel_rfl) (by kernel_rfl) ?_
                    repeat (first
                      | (refine Txt.text_p (by rfl) rfl (fun K hK => ?_); go_big_quiet_op; refine hK _ ?_; clear hK K)
                      | (refine Txt.text_r (by rfl) rfl (fun K hK => ?_); go_big_quiet_op; refine hK _ ?_; clear hK K)
                      | (refine Txt.text_pass (by rfl) (by rfl) ?_; simp only [List.set_cons_succ, List.set_cons_zero]))
                    refine Txt.text_nil ?_
                    go_wp2_with fail
                    exact ⟨⟨j + 1, by go_num, by omega, H11.out.quiet hdr, L11.out.quiet hdr, V11.out.quiet hdr⟩, by simp [intOf]; omega⟩
              · obtain rfl : j = rs.length := by omega
                go_wp2_with fail
                refine ⟨⟨k + 1, by go_num, by omega, by omega, vt, zs, rs, H11.out, ?_, HP8.out, HQ.out, HM.out⟩, by simp [intOf]; omega⟩
                have l12 := L11.out
                first
                | exact l12
                | (rw [hr0] at l12; exact l12)
    · have hk5 : (k = l.length ∨ k = 50) := by omega
      rcases hk5 with hk5 | hk5
      · have hd : decide (k < l.length) = false := decide_eq_false (by omega)
        go_wp2_with fail
        go_ret
        exact ⟨rfl, H1.out.bel⟩
      · by_cases hk6 : k < l.length
        · have hd : decide (k < l.length) = true := decide_eq_true hk6
          have hd2 : decide (k < 50) = false := decide_eq_false (by omega)
          go_wp2_with fail
          go_ret
          exact ⟨rfl, H1.out.bel⟩
        · have hd : decide (k < l.length) = false := decide_eq_false (by omega)
          go_wp2_with fail
          go_ret
          exact ⟨rfl, H1.out.bel⟩
theorem least_walk (A : Option Addr) (l : List Int) (c : Nat) (w : World) (hA : RdI w A l) (hl : l.length * 8 ≤ 140737488351232) (_ : ∀ n ∈ l, (Lit.int .i64 n).wf = true) :
    Calls Try.prog 8 #[.slice A l.length c] w fun e w' => e = .returned (.bool true) ∧ Below w.heap.size w w' := least_any A l c w hA (by omega)
end Go.Proofs.Ytcleljmbdiddeaa
