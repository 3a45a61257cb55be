/- Lemmas, contracts of functions and plain laws, part 4: what the row's proof uses. No statement of the seed is proved here. -/
import Derived.Test.YtfgabafbcephaaaZTrees3
import Derived.Test.YtfgabafbcephaaaZTrees2
import Derived.Test.YtfgabafbcephaaaZTrees1
namespace Go.Proofs.Ytfgabafbcephaaa.My
open Go.RowKit Pa Go.Proofs.YtfgabafbcephaaaW.PrintWords
set_option linter.unusedSimpArgs false
theorem flt_snoc (S E : Int) (L : List S34) {k : Nat} (hk : k < L.length) : flt S E (L.take (k + 1)) = flt S E (L.take k) ++ (if inS S E (L.getD k z34) = true then [L.getD k z34] else []) := by
  have e3 : L.getD k z34 = L[k] := by rw [List.getD_eq_getElem?_getD, List.getElem?_eq_getElem hk]; rfl
  rw [List.take_add_one, List.getElem?_eq_getElem hk, flt_app, e3]
  congr 1
  show ([L[k]] : List S34).filter (inS S E) = _
  by_cases h : inS S E L[k] = true
  · rw [if_pos h, List.filter_cons_of_pos h, List.filter_nil]
  · rw [if_neg h, List.filter_cons_of_neg h, List.filter_nil]
set_option maxHeartbeats 16000000 in
set_option maxRecDepth 100000 in
theorem rtrange_raw {w : World} {r : Nat} {bv : Value} {bs : List Int} {L : List S34} {Av : Option Addr} {cv : Nat} (hr : w.heap[r]? = some (rtO bv (.slice Av L.length cv))) (hbo : Own w 0 bv bs) (hrv : RdX w Av L) (hcv : L.length ≤ cv) (hbm : bmay bs = true) (hs : Srt L) (h1 : One1 L) (hl : L.length ≤ 8192) (S E : Int) :
    Calls Try.prog 39 #[.pointer (some ⟨r, 0, none⟩), .agg #[.int .i64 S, .int .i64 E]] w fun e w' => ∃ v, e = .returned (acV (joinA bs (its bs (flt S E L))) v) ∧ Own w' w.heap.size v (joinA bs (its bs (flt S E L))).f6 ∧ Below w.heap.size w w' := by
  obtain ⟨n1, n2, nb⟩ := two_new w (sO S E) (acO z36 (.slice none 0 0))
  have H0 := Lib.hid (And.intro n1 (And.intro n2 nb))
  have HR := Lib.hid (And.intro (blk_below hr nb) (And.intro (Own.below hbo nb) (And.intro (hrv.below nb) hcv)))
  have HS := Lib.hid (And.intro hbm (And.intro hs h1))
  clear hr hbo hrv hcv hs h1 hbm n1 n2 nb
  go_enter Try.func39, Try.ntmps39
  go_wp2_with fail
  show Code.wp _ _ _ _ ((w.alloc (sO S E)).alloc (acO z36 (.slice none 0 0)))
  generalize (w.alloc (sO S E)).alloc (acO z36 (.slice none 0 0)) = w2 at *
  obtain ⟨zb, hzb⟩ : ∃ zb, zb = w.heap.size + 1 := ⟨_, rfl⟩
  have HZB := Lib.hid hzb
  rw [← hzb] at H0 ⊢
  clear hzb
  go_loopw [5, 6] (fun v i wr => ∃ (k : Nat) (xs : List S34) (Ax : Option Addr) (cx : Nat), v = .slice Ax xs.length cx ∧ i = .int .i64 k ∧ k ≤ L.length ∧ Below w2.heap.size w2 wr ∧ OwX wr w2.heap.size (.slice Ax xs.length cx) xs ∧ Rel (xs = flt S E (L.take k))) (fun _ i _ => L.length - (intOf i).toNat)
  case atStart => exact ⟨0, [], none, 0, rfl, rfl, by omega, Below.refl _ _, World.ownsRow_nil _ _ _ _, rfl⟩
  case round =>
    obtain ⟨k, xs, Ax, cx, rfl, rfl, hk, hb, hox, hrl⟩ := hrel
    have HW := Lib.hid hb
    have HX := Lib.hid hox
    have HE := Lib.hid hrl
    clear hb hox hrl
    obtain ⟨q0, q1, ql⟩ := rtO_facts (blk_below HR.out.1 HW.out)
    obtain ⟨s0, s1, sl⟩ : wr.cell? ⟨w.heap.size, 0, none⟩ = some (.int .i64 S) ∧ wr.cell? ⟨w.heap.size, 1, none⟩ = some (.int .i64 E) ∧ w.heap.size < wr.heap.size := ⟨(blk_cell (blk_below H0.out.1 HW.out) 0).trans rfl, (blk_cell (blk_below H0.out.1 HW.out) 1).trans rfl, blk_lt (blk_below H0.out.1 HW.out)⟩
    by_cases hlt : k < L.length
    · have hd1 : decide (k < L.length) = true := decide_eq_true hlt
      have HFS := Lib.hid (flt_snoc S E L hlt)
      obtain ⟨b, o, rfl, hbs, hcells⟩ := (HR.out.2.2.1.below HW.out) (by omega)
      obtain ⟨c0, c1, c2, c3⟩ := hcells k hlt
      unfold atX at c0 c1 c2 c3
      have HC := Lib.hid (And.intro c0 (And.intro c1 (And.intro c2 c3)))
      generalize L.getD k z34 = x at *
      clear hcells
      by_cases hS : S ≤ x.f1
      · have hg1 : decide (S ≤ x.f1) = true := decide_eq_true hS
        by_cases hE : x.f1 < E
        · have hg2 : decide (x.f1 < E) = true := decide_eq_true hE
          have HN := Lib.hid (show flt S E (L.take (k + 1)) = xs ++ [x] from by
            rw [HFS.out, if_pos (by unfold inS; rw [hg1, hg2]; rfl), HE.out])
          clear hS hE
          go_wp2_with fail
          refine Txt.wp_region_mix (by kernel_rfl) (by kernel_rfl) (fun HB => ?_)
          repeat (first
            | (refine Txt.mix_p (by rfl) rfl rfl (fun K hK => ?_); go_big_quiet_op; refine hK _ ?_; clear hK K)
            | (refine Txt.mix_re (by rfl) (by decide +kernel) (by rfl) (by rfl) (by go_simp) HB (fun K hK => ?_); go_big_quiet_op; refine hK _ ?_; clear hK K)
            | (refine Txt.mix_rl (by rfl) (by decide +kernel) (by rfl) (by rfl) (by go_simp) HB (fun K hK => ?_); go_big_quiet_op; refine hK _ ?_; clear hK K)
            | (refine Txt.mix_pass (by rfl) (by rfl) ?_; simp only [List.set_cons_succ, List.set_cons_zero]))
          refine Txt.mix_nil ?_
          have hbd : Below wr.heap.size wr wr.drew := (Below.refl _ _).drew
          have HB2 := Lib.hid (HW.out.trans (hbd.mono HW.out.size))
          replace HX := Lib.hid (HX.out.below hbd)
          obtain ⟨c0, c1, c2, c3⟩ : wr.drew.cell? ⟨b, o + k * 4, none⟩ = some (.int .i64 x.f0) ∧ wr.drew.cell? ⟨b, o + k * 4 + 1, none⟩ = some (.int .i64 x.f1) ∧ wr.drew.cell? ⟨b, o + k * 4 + 2, none⟩ = some (.int .i64 x.f2) ∧ wr.drew.cell? ⟨b, o + k * 4 + 3, none⟩ = some (.int .i64 x.f3) := HC.out
          obtain ⟨q0, q1, ql⟩ := rtO_facts (blk_below HR.out.1 HB2.out)
          clear hbd HW HB HC
          generalize wr.drew = w3 at *
          have hbs := block_lt_of_cell c0
          go_wp2_with (at_builtin; refine at_append _ _ _ rfl ?_)
          have hal : Below w3.heap.size w3 (w3.alloc (.cells (flatX [x] ++ []).toArray 34)) := (Below.refl _ _).alloc (Nat.le_refl _) _
          have RX := Lib.hid (rdX_blk (heap_alloc_new w3 (.cells (flatX [x] ++ []).toArray 34)))
          have hlen : xs.length ≤ 8192 := by
            have h1 := HE.out
            unfold Rel at h1
            have h2 := List.length_filter_le (inS S E) (L.take k)
            rw [h1]
            unfold flt
            rw [List.length_take] at h2
            omega
          have hro : (w3.alloc (.cells (flatX [x] ++ []).toArray 34)).ownsRow 0 34 4 (.slice Ax xs.length cx) xs.length (flatX xs) := own_weaken (HX.out.below hal) (Nat.zero_le _)
          refine xcat_any (.tmp 40) (.tmp 48) rfl rfl hro rfl (some ⟨w3.heap.size, 0, none⟩) [x] 1 1 rfl rfl RX.out (fun e => by cases e) (by omega) ?_
          rintro v1 w4 row1 hgr1 hat1
          have hb4 := below_grown (HB2.out.trans (hal.mono HB2.out.size)) hgr1 (Nat.le_trans HB2.out.size hal.size) (fun j hj => own_base HX.out j hj)
          have ho4 : OwX w4 w2.heap.size v1 (xs ++ [x]) := own_rebase row1 (fun j hj => by
            rcases hat1 with e | e
            · exact own_base HX.out j (e.symm.trans hj)
            · have h2 := hal.size
              have h3 := HB2.out.size
              have h4 : ∀ o : Obj, (w3.alloc o).heap.size = w3.heap.size + 1 := fun o => by simp
              rw [hj] at e
              injection e with e
              rw [e, h4]
              omega)
          obtain ⟨A9, c9, hv9, _⟩ := row_form ho4
          have H4 := Lib.hid (And.intro ho4 hb4)
          clear hro row1 hgr1 hat1 hb4 ho4 hal hlen RX
          obtain ⟨ys, hys⟩ : ∃ ys, ys = xs ++ [x] := ⟨_, rfl⟩
          rw [← hys] at hv9 H4 HN
          clear hys
          subst hv9
          simp only [Act.put, List.setIfInBounds_toArray, List.set_cons_succ, List.set_cons_zero]
          go_wp2_with fail
          exact ⟨⟨k + 1, ys, A9, c9, rfl, by go_num, by omega, H4.out.2, H4.out.1, HN.out.symm⟩, by simp [intOf]; omega⟩
        · have hg2 : decide (x.f1 < E) = false := decide_eq_false hE
          have HN := Lib.hid (show flt S E (L.take (k + 1)) = xs from by
            rw [HFS.out, if_neg (by unfold inS; rw [hg1, hg2]; simp), List.append_nil, HE.out])
          clear hS hE
          go_wp2_with fail
          refine Txt.wp_region_mix (by kernel_rfl) (by kernel_rfl) (fun HB => ?_)
          repeat (first
            | (refine Txt.mix_p (by rfl) rfl rfl (fun K hK => ?_); go_big_quiet_op; refine hK _ ?_; clear hK K)
            | (refine Txt.mix_re (by rfl) (by decide +kernel) (by rfl) (by rfl) (by go_simp) HB (fun K hK => ?_); go_big_quiet_op; refine hK _ ?_; clear hK K)
            | (refine Txt.mix_rl (by rfl) (by decide +kernel) (by rfl) (by rfl) (by go_simp) HB (fun K hK => ?_); go_big_quiet_op; refine hK _ ?_; clear hK K)
            | (refine Txt.mix_pass (by rfl) (by rfl) ?_; simp only [List.set_cons_succ, List.set_cons_zero]))
          refine Txt.mix_nil ?_
          go_wp2_with fail
          exact ⟨⟨k + 1, xs, Ax, cx, rfl, by go_num, by omega, HW.out.trans ((Below.refl _ _).drew.mono HW.out.size), HX.out.below (Below.refl _ _).drew, HN.out.symm⟩, by simp [intOf]; omega⟩
      · have hg1 : decide (S ≤ x.f1) = false := decide_eq_false hS
        have HN := Lib.hid (show flt S E (L.take (k + 1)) = xs from by
          rw [HFS.out, if_neg (by unfold inS; rw [hg1]; simp), List.append_nil, HE.out])
        clear hS
        go_wp2_with fail
        refine Txt.wp_region_mix (by kernel_rfl) (by kernel_rfl) (fun HB => ?_)
        repeat (first
          | (refine Txt.mix_p (by rfl) rfl rfl (fun K hK => ?_); go_big_quiet_op; refine hK _ ?_; clear hK K)
          | (refine Txt.mix_re (by rfl) (by decide +kernel) (by rfl) (by rfl) (by go_simp) HB (fun K hK => ?_); go_big_quiet_op; refine hK _ ?_; clear hK K)
          | (refine Txt.mix_rl (by rfl) (by decide +kernel) (by rfl) (by rfl) (by go_simp) HB (fun K hK => ?_); go_big_quiet_op; refine hK _ ?_; clear hK K)
          | (refine Txt.mix_pass (by rfl) (by rfl) ?_; simp only [List.set_cons_succ, List.set_cons_zero]))
        refine Txt.mix_nil ?_
        go_wp2_with fail
        exact ⟨⟨k + 1, xs, Ax, cx, rfl, by go_num, by omega, HW.out.trans ((Below.refl _ _).drew.mono HW.out.size), HX.out.below (Below.refl _ _).drew, HN.out.symm⟩, by simp [intOf]; omega⟩
    · have hd1 : decide (k < L.length) = false := decide_eq_false hlt
      have ek : L.take k = L := List.take_of_length_le (by omega)
      have HF := Lib.hid (show xs = flt S E L from by rw [← ek]; exact HE.out)
      obtain ⟨Ab, cb, hbv, hcb, hrb⟩ := (Own.below HR.out.2.1 HW.out).reads
      subst hbv
      have HRB := Lib.hid (And.intro hcb hrb)
      obtain ⟨Ax2, cx2, hvx, hcx, hrx⟩ := HX.out.reads
      injection hvx with h1 h2 h3
      subst h1 h3
      have HRX := Lib.hid (And.intro hcx hrx)
      clear hcb hrb hcx hrx ek
      go_wp2_with fail
      obtain ⟨s, hm⟩ := HS.out.2.2
      have hsub : ∀ x ∈ xs, x ∈ L := fun x hx => by
        rw [HF.out] at hx
        exact (List.mem_filter.1 hx).1
      refine (rfold_any bs HS.out.1 (s := s) xs (by rw [HF.out]; exact HS.out.2.1.sublist List.filter_sublist) (fun x hx => hm x (hsub x hx)) (by rw [HF.out]; exact Nat.le_trans (List.length_filter_le ..) hl) Ax cx Ab cb wr HRX.out.2 HRX.out.1 HRB.out.2 HRB.out.1).mono ?_
      rintro e w3 ⟨v, rfl, how, hb⟩
      obtain ⟨o2, hJ⟩ : ∃ o, joinA bs (its bs xs) = o := ⟨_, rfl⟩
      rw [hJ] at how ⊢
      have HJ := Lib.hid hJ
      clear hJ
      obtain ⟨A3, c3, rfl, -, -⟩ := how.reads
      have HB3 := Lib.hid (HW.out.trans (hb.mono HW.out.size))
      have HZ3 := Lib.hid (blk_below H0.out.2.1 HB3.out)
      have R3 := Lib.hid (show Own w3 w.heap.size _ _ from own_weaken how (Nat.le_trans H0.out.2.2.size HW.out.size))
      clear how hb hsub
      simp only [acV]
      obtain ⟨z0, z1, z2, z3, z4, z5, z6, z7, z8, z9, z10, z11, z12, zl⟩ := acO_facts HZ3.out
      have hf := fun j => blk_free HZ3.out j
      go_wp2_with fail
      show bodyPost _ _ _ _ _ (putA w3 zb o2 (.slice A3 o2.f6.length c3))
      have hz4 := putA_blk (a := o2) (v := .slice A3 o2.f6.length c3) HZ3.out
      have hch := putA_chg w3 zb o2 (.slice A3 o2.f6.length c3)
      exact bodyPost_ret (results_ac1 rfl _ _ zb o2 (.slice A3 o2.f6.length c3) rfl hz4) rfl ⟨_, by rw [← HF.out, HJ.out], by rw [← HF.out, HJ.out]; exact R3.out.keep hch (fun k hk e => own_no R3.out HZ3.out (by rw [hk, e])), Chg.base (H0.out.2.2.trans (HB3.out.mono H0.out.2.2.size)) hch (Nat.le_trans H0.out.2.2.size HB3.out.size) (fun i hi => by rw [show i = zb from hi, HZB.out]; omega)⟩
theorem rtrange_any {w0 w : World} {R : Nat → Prop} {r : Nat} {bs : List Int} {L : List S34} (h : RT w0 w R r bs L) (hb : bmay bs = true) (hs : Srt L) (h1 : One1 L) (hl : L.length ≤ 8192) (S E : Int) :
    Calls Try.prog 39 #[.pointer (some ⟨r, 0, none⟩), .agg #[.int .i64 S, .int .i64 E]] w fun e w' => ∃ v, e = .returned (acV (joinA bs (its bs (flt S E L))) v) ∧ Own w' w.heap.size v (joinA bs (its bs (flt S E L))).f6 ∧ Below w.heap.size w w' := by
  obtain ⟨bv, iv, k1, k2, k3, k4, k5, k6⟩ := h.st
  obtain ⟨Av, cv, rfl, hc, hr⟩ := k3.reads
  exact rtrange_raw k1 (own_zero k2) hr hc hb hs h1 hl S E
end Go.Proofs.Ytfgabafbcephaaa.My

namespace Go.Proofs.Ytfgabafbcephaaa.My
open Go.RowKit Pa Go.Proofs.YtfgabafbcephaaaW.PrintWords
set_option linter.unusedSimpArgs false
def okI (L xs : List S34) (x : S34) : Prop := imay x = true ∧ x.f0 = (atX xs 0).f0 ∧ (0 < L.length → x.f0 = (atX L 0).f0)
theorem imays_ok2 {L xs : List S34} (h1 : One1 L) : imays (serL L) xs = true ↔ ∀ x ∈ xs, okI L xs x := by
  constructor
  · intro h x hx
    cases L with
    | nil =>
      cases xs with
      | nil => cases hx
      | cons y r =>
        have h2 := h
        rw [imays, Bool.and_eq_true_iff, Bool.and_eq_true_iff] at h2
        rcases List.mem_cons.1 hx with rfl | hx
        · exact ⟨h2.1.1, rfl, fun h => by cases h⟩
        · have := imays_ok (imay_ser h2.1.1) h2.2 x hx
          exact ⟨this.1, this.2, fun h => by cases h⟩
    | cons y r =>
      obtain ⟨s, hs⟩ := h1
      have hy := hs y (by simp)
      have h3 := imays_ok (imay_ser hy.1) (show imays y.f0 xs = true from h)
      have h4 := h3 x hx
      refine ⟨h4.1, ?_, fun _ => h4.2⟩
      cases xs with
      | nil => cases hx
      | cons z q => exact h4.2.trans (h3 z (by simp)).2.symm
  · intro h
    cases xs with
    | nil => rfl
    | cons z q =>
      refine imays_yes (s := z.f0) ?_ (fun x hx => ⟨(h x hx).1, (h x hx).2.1⟩)
      cases L with
      | nil => exact .inl (by show (-1 : Int) < 0; omega)
      | cons y r => exact .inr ((h z (by simp)).2.2 (by simp)).symm
theorem twi_all {L xs : List S34} (h : ∀ k, k < xs.length → hasB (xs.getD k z34) (insAll L (xs.take k)) = false) : twi L [] xs = false := by
  have hg : ∀ k (hk : k < xs.length), xs.getD k z34 = xs[k] := fun k hk => by rw [List.getD_eq_getElem?_getD, List.getElem?_eq_getElem hk]; rfl
  refine twi_yes (List.pairwise_iff_getElem.2 (fun i j hi hj hij e => ?_)) (fun x hx y hy e => ?_) (fun _ _ y hy => by cases hy)
  · have h1 := hasB_no (h j hj)
    rw [hg j hj] at h1
    refine h1 xs[i] (insAll_mem.2 (.inr ?_)) (by rw [ord_anti, e]; rfl)
    exact List.mem_take_iff_getElem.2 ⟨i, by omega, rfl⟩
  · obtain ⟨k, hk, rfl⟩ := List.getElem_of_mem hx
    have h1 := hasB_no (h k hk)
    rw [hg k hk] at h1
    exact h1 y (insAll_mem.2 (.inl hy)) e
theorem twi_hit {L xs : List S34} {k : Nat} (hk : k < xs.length) (h : hasB (xs.getD k z34) (insAll L (xs.take k)) = true) : twi L [] xs = true := by
  cases ht : twi L [] xs with
  | true => rfl
  | false =>
    have := hasB_false (twi_next ht hk)
    rw [this] at h
    cases h
set_option maxHeartbeats 16000000 in
set_option maxRecDepth 100000 in
theorem rtins_any {w0 w : World} {R : Nat → Prop} {r : Nat} {bs : List Int} {L : List S34} (h : RT w0 w R r bs L) (hs : Srt L) (h1 : One1 L) (hl : L.length ≤ 8192) (xs : List S34) (A : Option Addr) (c : Nat) (hr : RdX w A xs) (hxl : xs.length ≤ 17592186044415) :
    Calls Try.prog 35 #[.pointer (some ⟨r, 0, none⟩), .slice A xs.length c] w fun e w' =>
      (mayL L xs = false ∧ e = .returned (.int .i64 1900) ∧ Below w.heap.size w w') ∨
      (mayL L xs = true ∧ twi L [] xs = true ∧ e = .returned (.int .i64 1901) ∧ Below w.heap.size w w') ∨
      (mayL L xs = true ∧ twi L [] xs = false ∧ e = .returned (.int .i64 0) ∧ ∃ R', RT w0 w' R' r bs (insAll L xs) ∧ (∀ i, R' i → R i ∨ w.heap.size ≤ i) ∧ Chg R w w') := by
  have HH := Lib.hid h
  obtain ⟨bv, iv, k1, k2, k3, k4, k5, k6⟩ := h.st
  obtain ⟨Av, cv, rfl, hcv, hrv⟩ := k3.reads
  have HR := Lib.hid (And.intro k1 (And.intro hcv hrv))
  have HO := Lib.hid (And.intro k2 (And.intro k3 (And.intro k4 (And.intro k5 k6))))
  have HS := Lib.hid (And.intro hs h1)
  have HX := Lib.hid hr
  clear h k1 k2 k3 k4 k5 k6 hcv hrv hs h1 hr
  go_enter Try.func35, Try.ntmps35
  go_wp2_with fail
  go_loopw [5] (fun i wr => ∃ k : Nat, i = .int .i64 k ∧ k ≤ xs.length ∧ Below w.heap.size w wr ∧ Rel (∀ x ∈ xs.take k, okI L xs x)) (fun i _ => xs.length - (intOf i).toNat)
  case atStart => exact ⟨0, rfl, by omega, Below.refl _ _, fun y hy => by rw [List.take_zero] at hy; cases hy⟩
  case round =>
    obtain ⟨k, rfl, hk, hb, hrl⟩ := hrel
    have HW := Lib.hid hb
    have HL := Lib.hid hrl
    clear hb hrl
    by_cases hlt : k < xs.length
    · have hd1 : decide (k < xs.length) = true := decide_eq_true hlt
      obtain ⟨b, o, rfl, hbs, hcells⟩ := (HX.out.below HW.out) (by omega)
      obtain ⟨c0, c1, c2, c3⟩ := hcells k hlt
      obtain ⟨d0, -⟩ := hcells 0 (by omega)
      rw [Nat.zero_mul, Nat.add_zero] at d0
      obtain ⟨q0, q1, ql⟩ := rtO_facts (blk_below HR.out.1 HW.out)
      have HTK := Lib.hid (show (imay (atX xs k) = true ∧ (atX xs k).f0 = (atX xs 0).f0 ∧ (0 < L.length → (atX xs k).f0 = (atX L 0).f0)) → ∀ x ∈ xs.take (k + 1), okI L xs x from fun h x hx => by
        rw [List.take_add_one, List.getElem?_eq_getElem hlt] at hx
        rcases List.mem_append.1 hx with hx | hx
        · exact HL.out x hx
        · have e : x = xs[k] := by simpa using hx
          have e3 : atX xs k = xs[k] := by unfold atX; rw [List.getD_eq_getElem?_getD, List.getElem?_eq_getElem hlt]; rfl
          rw [e, ← e3]
          exact h)
      have HNO := Lib.hid (show ¬ (imay (atX xs k) = true ∧ (atX xs k).f0 = (atX xs 0).f0 ∧ (0 < L.length → (atX xs k).f0 = (atX L 0).f0)) → mayL L xs = false from fun h => by
        have hx : atX xs k ∈ xs := by
          have e3 : atX xs k = xs[k] := by unfold atX; rw [List.getD_eq_getElem?_getD, List.getElem?_eq_getElem hlt]; rfl
          rw [e3]
          exact List.getElem_mem hlt
        cases hm : mayL L xs with
        | false => rfl
        | true =>
          unfold mayL at hm
          exact absurd ((imays_ok2 HS.out.2).1 (Bool.and_eq_true_iff.1 hm).1 _ hx) h)
      clear hcells
      generalize atX xs k = x at *
      generalize (atX xs 0).f0 = z0 at *
      cases him : imay x with
      | false =>
        have HIM := Lib.hid him
        clear him
        go_wp2_with fail
        refine Txt.wp_region_mix (by kernel_rfl) (by kernel_rfl) (fun HB => ?_)
        repeat (first
          | (refine Txt.mix_p (by rfl) rfl rfl (fun K hK => ?_); go_big_quiet_op; refine hK _ ?_; clear hK K)
          | (refine Txt.mix_re (by rfl) (by decide +kernel) (by rfl) (by rfl) (by go_simp) HB (fun K hK => ?_); go_big_quiet_op; refine hK _ ?_; clear hK K)
          | (refine Txt.mix_rl (by rfl) (by decide +kernel) (by rfl) (by rfl) (by go_simp) HB (fun K hK => ?_); go_big_quiet_op; refine hK _ ?_; clear hK K)
          | (refine Txt.mix_pass (by rfl) (by rfl) ?_; simp only [List.set_cons_succ, List.set_cons_zero]))
        refine Txt.mix_c (by rfl) (by decide +kernel) HB ?_
        intro w2 hw2 K hK
        replace HB := HB.trans hw2
        clear hw2
        go_wp2_with fail
        refine (rim_any x _).mono ?_
        rintro e w3 ⟨rfl, hb⟩
        rw [HIM.out]
        refine hK _ _ ⟨hb, ?_⟩
        replace HB := HB.trans hb
        clear hK K hb
        repeat (first
          | (refine Txt.mix_p (by rfl) rfl rfl (fun K hK => ?_); go_big_quiet_op; refine hK _ ?_; clear hK K)
          | (refine Txt.mix_re (by rfl) (by decide +kernel) (by rfl) (by rfl) (by go_simp) HB (fun K hK => ?_); go_big_quiet_op; refine hK _ ?_; clear hK K)
          | (refine Txt.mix_rl (by rfl) (by decide +kernel) (by rfl) (by rfl) (by go_simp) HB (fun K hK => ?_); go_big_quiet_op; refine hK _ ?_; clear hK K)
          | (refine Txt.mix_pass (by rfl) (by rfl) ?_; simp only [List.set_cons_succ, List.set_cons_zero]))
        refine Txt.mix_nil ?_
        go_wp2_with fail
        go_ret
        exact .inl ⟨HNO.out (fun h => by rw [HIM.out] at h; cases h.1), rfl, HW.out.trans (HB.undrew.mono HW.out.size)⟩
      | true =>
        have HIM := Lib.hid him
        clear him
        by_cases hz : x.f0 = z0
        · have hz1 : (x.f0 == z0) = true := beq_iff_eq.2 hz
          have hz2 : (x.f0 != z0) = false := by rw [bne, hz1]; rfl
          have HZ := Lib.hid hz
          clear hz
          by_cases h0 : 0 < L.length
          · have hg : decide (0 < L.length) = true := decide_eq_true h0
            obtain ⟨b2, o2, rfl, hbs2, hcells2⟩ := HR.out.2.2 h0
            obtain ⟨e0, -⟩ := (hcells2 0 h0)
            rw [Nat.zero_mul, Nat.add_zero] at e0
            have e1 := cell_below e0 HW.out
            have hbs3 := block_lt_of_cell e1
            generalize (atX L 0).f0 = y0 at *
            clear e0 hcells2
            by_cases hy : x.f0 = y0
            · have hy1 : (x.f0 == y0) = true := beq_iff_eq.2 hy
              have hy2 : (x.f0 != y0) = false := by rw [bne, hy1]; rfl
              have HTK2 := Lib.hid (HTK.out ⟨HIM.out, HZ.out, fun _ => hy⟩)
              clear hy HTK HNO
              go_wp2_with fail
              refine Txt.wp_region_mix (by kernel_rfl) (by kernel_rfl) (fun HB => ?_)
              repeat (first
                | (refine Txt.mix_p (by rfl) rfl rfl (fun K hK => ?_); go_big_quiet_op; refine hK _ ?_; clear hK K)
                | (refine Txt.mix_re (by rfl) (by decide +kernel) (by rfl) (by rfl) (by go_simp) HB (fun K hK => ?_); go_big_quiet_op; refine hK _ ?_; clear hK K)
                | (refine Txt.mix_rl (by rfl) (by decide +kernel) (by rfl) (by rfl) (by go_simp) HB (fun K hK => ?_); go_big_quiet_op; refine hK _ ?_; clear hK K)
                | (refine Txt.mix_pass (by rfl) (by rfl) ?_; simp only [List.set_cons_succ, List.set_cons_zero]))
              refine Txt.mix_c (by rfl) (by decide +kernel) HB ?_
              intro w2 hw2 K hK
              replace HB := HB.trans hw2
              clear hw2
              go_wp2_with fail
              refine (rim_any x _).mono ?_
              rintro e w3 ⟨rfl, hb⟩
              rw [HIM.out]
              refine hK _ _ ⟨hb, ?_⟩
              replace HB := HB.trans hb
              clear hK K hb

              repeat (first
                | (refine Txt.mix_p (by rfl) rfl rfl (fun K hK => ?_); go_big_quiet_op; refine hK _ ?_; clear hK K)
                | (refine Txt.mix_re (by rfl) (by decide +kernel) (by rfl) (by rfl) (by go_simp) HB (fun K hK => ?_); go_big_quiet_op; refine hK _ ?_; clear hK K)
                | (refine Txt.mix_rl (by rfl) (by decide +kernel) (by rfl) (by rfl) (by go_simp) HB (fun K hK => ?_); go_big_quiet_op; refine hK _ ?_; clear hK K)
                | (refine Txt.mix_pass (by rfl) (by rfl) ?_; simp only [List.set_cons_succ, List.set_cons_zero]))
              refine Txt.mix_nil ?_
              go_wp2_with fail
              exact ⟨⟨k + 1, by go_num, by omega, HW.out.trans (HB.undrew.mono HW.out.size), HTK2.out⟩, by simp [intOf]; omega⟩
            · have hy1 : (x.f0 == y0) = false := beq_eq_false_iff_ne.2 hy
              have hy2 : (x.f0 != y0) = true := by rw [bne, hy1]; rfl
              have HNO2 := Lib.hid (HNO.out (fun h => hy (h.2.2 h0)))
              clear hy HTK HNO
              go_wp2_with fail
              refine Txt.wp_region_mix (by kernel_rfl) (by kernel_rfl) (fun HB => ?_)
              repeat (first
                | (refine Txt.mix_p (by rfl) rfl rfl (fun K hK => ?_); go_big_quiet_op; refine hK _ ?_; clear hK K)
                | (refine Txt.mix_re (by rfl) (by decide +kernel) (by rfl) (by rfl) (by go_simp) HB (fun K hK => ?_); go_big_quiet_op; refine hK _ ?_; clear hK K)
                | (refine Txt.mix_rl (by rfl) (by decide +kernel) (by rfl) (by rfl) (by go_simp) HB (fun K hK => ?_); go_big_quiet_op; refine hK _ ?_; clear hK K)
                | (refine Txt.mix_pass (by rfl) (by rfl) ?_; simp only [List.set_cons_succ, List.set_cons_zero]))
              refine Txt.mix_c (by rfl) (by decide +kernel) HB ?_
              intro w2 hw2 K hK
              replace HB := HB.trans hw2
              clear hw2
              go_wp2_with fail
              refine (rim_any x _).mono ?_
              rintro e w3 ⟨rfl, hb⟩
              rw [HIM.out]
              refine hK _ _ ⟨hb, ?_⟩
              replace HB := HB.trans hb
              clear hK K hb

              repeat (first
                | (refine Txt.mix_p (by rfl) rfl rfl (fun K hK => ?_); go_big_quiet_op; refine hK _ ?_; clear hK K)
                | (refine Txt.mix_re (by rfl) (by decide +kernel) (by rfl) (by rfl) (by go_simp) HB (fun K hK => ?_); go_big_quiet_op; refine hK _ ?_; clear hK K)
                | (refine Txt.mix_rl (by rfl) (by decide +kernel) (by rfl) (by rfl) (by go_simp) HB (fun K hK => ?_); go_big_quiet_op; refine hK _ ?_; clear hK K)
                | (refine Txt.mix_pass (by rfl) (by rfl) ?_; simp only [List.set_cons_succ, List.set_cons_zero]))
              refine Txt.mix_nil ?_
              go_wp2_with fail
              go_ret
              exact .inl ⟨HNO2.out, rfl, HW.out.trans (HB.undrew.mono HW.out.size)⟩
          · have hg : decide (0 < L.length) = false := decide_eq_false h0
            have HTK2 := Lib.hid (HTK.out ⟨HIM.out, HZ.out, fun h => absurd h h0⟩)
            clear HTK HNO
            go_wp2_with fail
            refine Txt.wp_region_mix (by kernel_rfl) (by kernel_rfl) (fun HB => ?_)
            repeat (first
              | (refine Txt.mix_p (by rfl) rfl rfl (fun K hK => ?_); go_big_quiet_op; refine hK _ ?_; clear hK K)
              | (refine Txt.mix_re (by rfl) (by decide +kernel) (by rfl) (by rfl) (by go_simp) HB (fun K hK => ?_); go_big_quiet_op; refine hK _ ?_; clear hK K)
              | (refine Txt.mix_rl (by rfl) (by decide +kernel) (by rfl) (by rfl) (by go_simp) HB (fun K hK => ?_); go_big_quiet_op; refine hK _ ?_; clear hK K)
              | (refine Txt.mix_pass (by rfl) (by rfl) ?_; simp only [List.set_cons_succ, List.set_cons_zero]))
            refine Txt.mix_c (by rfl) (by decide +kernel) HB ?_
            intro w2 hw2 K hK
            replace HB := HB.trans hw2
            clear hw2
            go_wp2_with fail
            refine (rim_any x _).mono ?_
            rintro e w3 ⟨rfl, hb⟩
            rw [HIM.out]
            refine hK _ _ ⟨hb, ?_⟩
            replace HB := HB.trans hb
            clear hK K hb

            repeat (first
              | (refine Txt.mix_p (by rfl) rfl rfl (fun K hK => ?_); go_big_quiet_op; refine hK _ ?_; clear hK K)
              | (refine Txt.mix_re (by rfl) (by decide +kernel) (by rfl) (by rfl) (by go_simp) HB (fun K hK => ?_); go_big_quiet_op; refine hK _ ?_; clear hK K)
              | (refine Txt.mix_rl (by rfl) (by decide +kernel) (by rfl) (by rfl) (by go_simp) HB (fun K hK => ?_); go_big_quiet_op; refine hK _ ?_; clear hK K)
              | (refine Txt.mix_pass (by rfl) (by rfl) ?_; simp only [List.set_cons_succ, List.set_cons_zero]))
            refine Txt.mix_nil ?_
            go_wp2_with fail
            exact ⟨⟨k + 1, by go_num, by omega, HW.out.trans (HB.undrew.mono HW.out.size), HTK2.out⟩, by simp [intOf]; omega⟩
        · have hz1 : (x.f0 == z0) = false := beq_eq_false_iff_ne.2 hz
          have hz2 : (x.f0 != z0) = true := by rw [bne, hz1]; rfl
          have HNO2 := Lib.hid (HNO.out (fun h => hz h.2.1))
          clear hz HTK HNO
          go_wp2_with fail
          refine Txt.wp_region_mix (by kernel_rfl) (by kernel_rfl) (fun HB => ?_)
          repeat (first
            | (refine Txt.mix_p (by rfl) rfl rfl (fun K hK => ?_); go_big_quiet_op; refine hK _ ?_; clear hK K)
            | (refine Txt.mix_re (by rfl) (by decide +kernel) (by rfl) (by rfl) (by go_simp) HB (fun K hK => ?_); go_big_quiet_op; refine hK _ ?_; clear hK K)
            | (refine Txt.mix_rl (by rfl) (by decide +kernel) (by rfl) (by rfl) (by go_simp) HB (fun K hK => ?_); go_big_quiet_op; refine hK _ ?_; clear hK K)
            | (refine Txt.mix_pass (by rfl) (by rfl) ?_; simp only [List.set_cons_succ, List.set_cons_zero]))
          refine Txt.mix_c (by rfl) (by decide +kernel) HB ?_
          intro w2 hw2 K hK
          replace HB := HB.trans hw2
          clear hw2
          go_wp2_with fail
          refine (rim_any x _).mono ?_
          rintro e w3 ⟨rfl, hb⟩
          rw [HIM.out]
          refine hK _ _ ⟨hb, ?_⟩
          replace HB := HB.trans hb
          clear hK K hb

          repeat (first
            | (refine Txt.mix_p (by rfl) rfl rfl (fun K hK => ?_); go_big_quiet_op; refine hK _ ?_; clear hK K)
            | (refine Txt.mix_re (by rfl) (by decide +kernel) (by rfl) (by rfl) (by go_simp) HB (fun K hK => ?_); go_big_quiet_op; refine hK _ ?_; clear hK K)
            | (refine Txt.mix_rl (by rfl) (by decide +kernel) (by rfl) (by rfl) (by go_simp) HB (fun K hK => ?_); go_big_quiet_op; refine hK _ ?_; clear hK K)
            | (refine Txt.mix_pass (by rfl) (by rfl) ?_; simp only [List.set_cons_succ, List.set_cons_zero]))
          refine Txt.mix_nil ?_
          go_wp2_with fail
          go_ret
          exact .inl ⟨HNO2.out, rfl, HW.out.trans (HB.undrew.mono HW.out.size)⟩
    · have hd1 : decide (k < xs.length) = false := decide_eq_false hlt
      have HOK := Lib.hid ((imays_ok2 (xs := xs) HS.out.2).2 (fun x hx => HL.out x (by rw [List.take_of_length_le (by omega)]; exact hx)))
      obtain ⟨q0, q1, ql⟩ := rtO_facts (blk_below HR.out.1 HW.out)
      clear HL
      by_cases hsz : (8192 : Int) - L.length < xs.length
      · have hd2 : decide ((8192 : Int) - L.length < xs.length) = true := decide_eq_true hsz
        go_wp2_with fail
        go_ret
        exact .inl ⟨by unfold mayL; rw [decide_eq_false (by omega), Bool.and_false], rfl, HW.out⟩
      · have hd2 : decide ((8192 : Int) - L.length < xs.length) = false := decide_eq_false hsz
        have HMY := Lib.hid (show mayL L xs = true from by unfold mayL; rw [HOK.out, decide_eq_true (by omega)]; rfl)
        have HSZ := Lib.hid (show L.length + xs.length ≤ 8192 by omega)
        clear hsz HOK
        go_wp2_with fail
        clear hd1 hd2 q0 q1 ql
        have HW0 := HW
        clear HW
        have HB0 := Lib.hid HH.out.bel
        go_loopw [6, 7] (fun v i wq => ∃ (m : Nat) (M : List S34) (Am : Option Addr) (cm : Nat), v = .slice Am M.length cm ∧ i = .int .i64 m ∧ m ≤ xs.length ∧ Below w.heap.size w wq ∧ OwX wq w0.heap.size (.slice Am M.length cm) M ∧ (∀ j, (Value.slice Am M.length cm).ownBlock = some j → R j ∨ w.heap.size ≤ j) ∧ Srt M ∧ Rel (M = insAll L (xs.take m)) ∧ Rel (∀ j, j < m → hasB (xs.getD j z34) (insAll L (xs.take j)) = false)) (fun _ i _ => xs.length - (intOf i).toNat)
        case atStart => exact ⟨0, L, Av, cv, rfl, rfl, by omega, HW0.out, HO.out.2.1.below HW0.out, fun j hj => .inl (HO.out.2.2.2.2 j hj), HS.out.1, rfl, fun j hj => by omega⟩
        case round =>
          obtain ⟨m, M, Am, cm, rfl, rfl, hm, hb, hox, how, hsm, hrm, hrh⟩ := hrel
          have HQ := Lib.hid hb
          have HM := Lib.hid (And.intro hox (And.intro how hsm))
          have HRM := Lib.hid (And.intro hrm hrh)
          clear hb hox how hsm hrm hrh
          have HML := Lib.hid (show M.length = L.length + m from by
            have h1 := HRM.out.1
            unfold Rel at h1
            rw [h1, insAll_len, List.length_take, Nat.min_eq_left hm])
          by_cases hlt2 : m < xs.length
          · have hd1 : decide (m < xs.length) = true := decide_eq_true hlt2
            obtain ⟨b, o, rfl, hbs, hcells⟩ := (HX.out.below HQ.out) (by omega)
            obtain ⟨c0, c1, c2, c3⟩ := hcells m hlt2
            obtain ⟨Am2, cm2, hve, hcm, hrdm⟩ := HM.out.1.reads
            injection hve with hv1 hv2 hv3
            subst hv1 hv3
            have HRD := Lib.hid (And.intro hcm hrdm)
            have HTK := Lib.hid (show insAll L (xs.take (m + 1)) = ins (atX xs m) M from by
              have h1 := HRM.out.1
              unfold Rel at h1
              rw [h1, ← insAll_snoc, List.take_add_one, List.getElem?_eq_getElem hlt2]
              unfold atX
              rw [List.getD_eq_getElem?_getD, List.getElem?_eq_getElem hlt2]
              rfl)
            have HHT := Lib.hid (show hasB (atX xs m) M = true → twi L [] xs = true from fun h => twi_hit hlt2 (by have h1 := HRM.out.1; unfold Rel at h1; rw [← h1]; exact h))
            have HNX := Lib.hid (show hasB (atX xs m) M = false → ∀ j, j < m + 1 → hasB (xs.getD j z34) (insAll L (xs.take j)) = false from fun h j hj => by
              by_cases hjm : j = m
              · subst hjm
                have h1 := HRM.out.1
                unfold Rel at h1
                rw [← h1]
                exact h
              · exact HRM.out.2 j (by omega))
            clear hcells hcm hrdm
            generalize atX xs m = x at *
            have hml : M.length ≤ 8192 := by have := HML.out; have := HSZ.out; omega
            go_wp2_with fail
            refine (rtwin_any M (by omega) x Am cm _ HRD.out.2 HRD.out.1).mono ?_
            rintro e wp ⟨rfl, hb⟩
            have HB2 := Lib.hid (HQ.out.trans (hb.mono HQ.out.size))
            obtain ⟨c0, c1, c2, c3⟩ : wp.cell? ⟨b, o + m * 4, none⟩ = some (.int .i64 x.f0) ∧ wp.cell? ⟨b, o + m * 4 + 1, none⟩ = some (.int .i64 x.f1) ∧ wp.cell? ⟨b, o + m * 4 + 2, none⟩ = some (.int .i64 x.f2) ∧ wp.cell? ⟨b, o + m * 4 + 3, none⟩ = some (.int .i64 x.f3) := ⟨cell_below c0 hb, cell_below c1 hb, cell_below c2 hb, cell_below c3 hb⟩
            have hbs2 := block_lt_of_cell c0
            have HRD2 := Lib.hid (HRD.out.2.below hb)
            clear hb
            cases hh : hasB x M with
            | true =>
              have HT := Lib.hid (HHT.out hh)
              clear hh
              go_wp2_with fail
              go_ret
              exact .inr (.inl ⟨HMY.out, HT.out, rfl, HB2.out⟩)
            | false =>
              have HN2 := Lib.hid (HNX.out hh)
              have hno := hasB_no hh
              have HNO := Lib.hid hno
              clear hh hno
              go_wp2_with fail
              refine (rsorted_any M (by omega) x HM.out.2.2 HNO.out Am cm _ HRD2.out HRD.out.1).mono ?_
              rintro e wo ⟨v, rfl, hov, hb⟩
              obtain ⟨Ao, co, rfl, _⟩ := row_form hov
              have hsz2 := HB2.out.size
              have hsz0 := HB0.out.size
              go_wp2_with fail
              exact ⟨⟨m + 1, ins x M, Ao, co, rfl, by go_num, by omega, HB2.out.trans (hb.mono HB2.out.size), own_weaken hov (by omega), fun j hj => .inr (by have := own_base hov j hj; omega), ins_srt HM.out.2.2 HNO.out, HTK.out.symm, HN2.out⟩, by simp [intOf]; omega⟩
          · have hd1 : decide (m < xs.length) = false := decide_eq_false hlt2
            have HT := Lib.hid (twi_all (L := L) (xs := xs) (fun j hj => HRM.out.2 j (by omega)))
            have HRM2 := Lib.hid (show M = insAll L xs from by
              have h1 := HRM.out.1
              unfold Rel at h1
              rw [h1, List.take_of_length_le (by omega)])
            have hq := blk_below HR.out.1 HQ.out
            have HRQ := Lib.hid hq
            obtain ⟨q0, q1, ql⟩ := rtO_facts hq
            have hf := fun j => blk_free HRQ.out j
            clear hq HRM
            generalize M.length = ml at *
            go_wp2_with fail
            go_ret
            have hc4 : Chg (fun i => i = r) wr (wr.setCell ⟨r, 1, none⟩ (.slice Am ml cm)) := (Chg.refl (fun i => i = r) wr).setCell (p := ⟨r, 1, none⟩) (.inl rfl) _
            have hb4 := blk_set HRQ.out 1 (.slice Am ml cm)
            simp only [List.setIfInBounds_toArray, List.set_cons_zero, List.set_cons_succ] at hb4
            have hC : Chg (fun i => i = r) w (wr.setCell ⟨r, 1, none⟩ (.slice Am ml cm)) := (Chg.of_below HQ.out).then_ hc4
            have hs := HB0.out.size
            have hrow := HM.out.1.keep hc4 (fun j hj e => row_noq HM.out.1 HRQ.out (by decide) (by rw [hj, show j = r from e]))
            refine .inr (.inr ⟨HMY.out, HT.out, rfl, fun i => (R i ∨ w.heap.size ≤ i) ∧ i < (wr.setCell ⟨r, 1, none⟩ (.slice Am ml cm)).heap.size, ⟨⟨bv, _, hb4, HO.out.1.keep hC (fun k hk e => row_noq HO.out.1 HR.out.1 (by decide) (by rw [hk, show k = r from e])), ?_, ⟨.inl HO.out.2.2.1, blk_lt hb4⟩, fun k hk => ⟨.inl (HO.out.2.2.2.1 k hk), Nat.lt_of_lt_of_le (own_lt HO.out.1 k hk) hC.size⟩, fun k hk => ⟨HM.out.2.1 k hk, own_lt hrow k hk⟩⟩, fun i hi => ⟨?_, hi.2⟩, Chg.base HB0.out hC hs (fun i hi => by rw [show i = r from hi]; exact (HH.out.new r HO.out.2.2.1).1)⟩, fun i hi => hi.1, hC.mono (fun i _ hi => by rw [show i = r from hi]; exact HO.out.2.2.1)⟩)
            · rw [← HRM2.out]
              exact hrow
            · rcases hi.1 with hi | hi
              · exact (HH.out.new i hi).1
              · omega
end Go.Proofs.Ytfgabafbcephaaa.My

namespace Go.Proofs.Ytfgabafbcephaaa.My
open Go.RowKit Pa Go.Proofs.YtfgabafbcephaaaW.PrintWords
set_option linter.unusedSimpArgs false
structure ActS where
  kind : Int
  items : List S34
  st : Int
  en : Int
def zAct : ActS := ⟨0, [], 0, 0⟩
def RdAc (w : World) (A : Option Addr) (l : List ActS) : Prop := 0 < l.length → ∃ b o, A = some ⟨b, o, none⟩ ∧ b < w.heap.size ∧ ∀ i, i < l.length → ∃ (Ai : Option Addr) (ci : Nat), w.cell? ⟨b, o + i * 4, none⟩ = some (.int .i64 (l.getD i zAct).kind) ∧ w.cell? ⟨b, o + i * 4 + 1, none⟩ = some (.slice Ai (l.getD i zAct).items.length ci) ∧ w.cell? ⟨b, o + i * 4 + 2, none⟩ = some (.int .i64 (l.getD i zAct).st) ∧ w.cell? ⟨b, o + i * 4 + 3, none⟩ = some (.int .i64 (l.getD i zAct).en) ∧
  (l.getD i zAct).items.length ≤ ci ∧ RdX w Ai (l.getD i zAct).items ∧ (Ai = none → ci = 0) ∧ (l.getD i zAct).items.length * 32 ≤ 140737488351232
structure TP (w0 w : World) (F R : Nat → Prop) (g r : Nat) (bs : List Int) (L : List S34) : Prop where
  t : TS w0 w F g bs L
  r : RT w0 w R r bs L
  d : ∀ i, F i → R i → False
section
variable {w0 w w1 : World} {F R S : Nat → Prop} {g r : Nat} {bs : List Int} {L : List S34}
theorem TP.chg (h : TP w0 w F R g r bs L) (hc : Chg S w w1) (hS : ∀ k, S k → ¬ F k ∧ ¬ R k ∧ w0.heap.size ≤ k) : TP w0 w1 F R g r bs L :=
  ⟨h.t.chg hc (fun k hk => ⟨(hS k hk).1, (hS k hk).2.2⟩), h.r.chg hc (fun k hk => (hS k hk).2), h.d⟩
theorem TP.quiet (h : TP w0 w F R g r bs L) (hb : Below w.heap.size w w1) : TP w0 w1 F R g r bs L := ⟨h.t.quiet hb, h.r.quiet hb, h.d⟩
def insR (L xs : List S34) : Int × List S34 := if mayL L xs = false then (1900, L) else if twi L [] xs = true then (1901, L) else (0, insAll L xs)
theorem tsins_r (h : TS w0 w F g bs L) (xs : List S34) (A : Option Addr) (c : Nat) (hr : RdX w A xs) (hl : xs.length ≤ 17592186044415) (hn : ∀ b o, A = some ⟨b, o, none⟩ → ¬ F b) :
    Calls Try.prog 34 #[.pointer (some ⟨g, 0, none⟩), .slice A xs.length c] w fun e w' => e = .returned (.int .i64 (insR L xs).1) ∧ ∃ F', TS w0 w' F' g bs (insR L xs).2 ∧ (∀ i, F' i → F i ∨ w.heap.size ≤ i) ∧ Chg F w w' :=
  (tsins_any h xs A c hr hl hn).mono fun e w' hh => by
    unfold insR
    rcases hh with ⟨h1, h2, h3⟩ | ⟨h1, h2, h3, h4⟩ | ⟨h1, h2, h3, h4⟩
    · rw [if_pos h1]
      exact ⟨h2, F, h.quiet h3, fun i hi => .inl hi, Chg.of_below h3⟩
    · rw [if_neg (by rw [h1]; simp), if_pos h2]
      exact ⟨h3, F, h.quiet h4, fun i hi => .inl hi, Chg.of_below h4⟩
    · rw [if_neg (by rw [h1]; simp), if_neg (by rw [h2]; simp)]
      exact ⟨h3, h4⟩
theorem rtins_r (h : RT w0 w R r bs L) (hs : Srt L) (h1 : One1 L) (hl : L.length ≤ 8192) (xs : List S34) (A : Option Addr) (c : Nat) (hr : RdX w A xs) (hxl : xs.length ≤ 17592186044415) :
    Calls Try.prog 35 #[.pointer (some ⟨r, 0, none⟩), .slice A xs.length c] w fun e w' => e = .returned (.int .i64 (insR L xs).1) ∧ ∃ R', RT w0 w' R' r bs (insR L xs).2 ∧ (∀ i, R' i → R i ∨ w.heap.size ≤ i) ∧ Chg R w w' :=
  (rtins_any h hs h1 hl xs A c hr hxl).mono fun e w' hh => by
    unfold insR
    rcases hh with ⟨h1, h2, h3⟩ | ⟨h1, h2, h3, h4⟩ | ⟨h1, h2, h3, h4⟩
    · rw [if_pos h1]
      exact ⟨h2, R, h.quiet h3, fun i hi => .inl hi, Chg.of_below h3⟩
    · rw [if_neg (by rw [h1]; simp), if_pos h2]
      exact ⟨h3, R, h.quiet h4, fun i hi => .inl hi, Chg.of_below h4⟩
    · rw [if_neg (by rw [h1]; simp), if_neg (by rw [h2]; simp)]
      exact ⟨h3, h4⟩
end
theorem own_pre {w : World} {base b n cap m : Nat} {l : List Int} (h : Own w base (.slice (some ⟨b, 0, none⟩) n cap) l) (hm : m ≤ l.length) : Own w base (.slice (some ⟨b, 0, none⟩) m cap) (l.take m) := by
  unfold Own at h ⊢
  have hl : (l.take m).length = m := by rw [List.length_take]; omega
  rw [hl]
  refine ⟨by simp; omega, ?_⟩
  rcases h.2 with ⟨h1, _⟩ | ⟨g, cap', cur, h1, h2, h3, h4, h5, h6, h7⟩
  · cases h1
  · injection h1 with e1 _ e2
    injection e1 with e1
    injection e1 with e1
    subst e1 e2
    refine .inr ⟨b, cap, cur, rfl, h2, h3, by omega, h5, h6, ?_⟩
    rw [List.map_take, ← h7, List.take_take]
    congr 1
    omega
theorem tpspoilI_any {w0 w : World} {F R : Nat → Prop} {g r : Nat} {bs : List Int} {L : List S34} (h : TP w0 w F R g r bs L) (v : Value) (l : List Int) (ho : Own w w0.heap.size v l) (hn : ∀ k, v.ownBlock = some k → ¬ F k ∧ ¬ R k) (hl : l.length ≤ 17592186044415) :
    Calls Try.prog 18 #[v] w fun e w' => e = .returned (.tuple #[]) ∧ TP w0 w' F R g r bs L :=
  (spoilI_any l v w0 w h.t.bel ho hl).mono fun e w' hh => by
    obtain ⟨h1, h2, h3⟩ := hh
    have hc := chg_of_kept h.t.bel h2 h3
    exact ⟨h1, h.chg hc (fun k hk => ⟨(hn k hk.symm).1, (hn k hk.symm).2, own_base ho k hk.symm⟩)⟩
set_option maxHeartbeats 32000000 in
set_option maxRecDepth 100000 in
theorem trees_any (A : Option Addr) (bs : List Int) (c : Nat) (A2 : Option Addr) (acts : List ActS) (c2 : Nat) (w : World) (hA : RdI w A bs) (hc : bs.length ≤ c) (hbl : bs.length ≤ 17592186043904) (hX : RdAc w A2 acts) (hc2 : acts.length ≤ c2) (hx : acts.length ≤ 17592186044415) :
    Calls Try.prog 6 #[.slice A bs.length c, .slice A2 acts.length c2] w fun e w' => e = .returned (.bool true) ∧ Below w.heap.size w w' := by
  have HA := Lib.hid (And.intro hA (And.intro hc hbl))
  have HX := Lib.hid (And.intro hX (And.intro hc2 hx))
  clear hA hc hbl hX hc2 hx
  go_enter Try.func6, Try.ntmps6
  go_wp2_with fail
  refine (lendI_any bs A c _ HA.out.1 HA.out.2.1 HA.out.2.2).mono ?_
  rintro e w1 ⟨lb, lc, rfl, hlent, hb⟩
  have HL := Lib.hid hlent
  have HB1 := Lib.hid hb
  obtain ⟨hlr, hlc⟩ := hlent.rd
  have HLR := Lib.hid (And.intro hlr hlc)
  clear hlent hb hlr hlc
  go_wp2_with fail
  refine (tsnew_any (w0 := w) bs (some ⟨lb, 0, none⟩) lc HB1.out HLR.out.1 (by have := HLR.out.2; omega)).mono ?_
  rintro e w2 (⟨hbm, rfl, hb⟩ | ⟨hbm, g, F0, rfl, hq, hFn, hb⟩)
  · have HB := Lib.hid (HB1.out.trans (hb.mono HB1.out.size))
    clear hb
    go_wp2_with fail
    refine (rtnew_any (w0 := w) bs A c w2 HB.out (RdI.below HA.out.1 HB.out) HA.out.2.1 (by have := HA.out.2.2; omega)).mono ?_
    rintro e w3 (⟨-, rfl, hb⟩ | ⟨h, _⟩)
    rotate_left 1
    · exact absurd h (by rw [hbm]; simp)
    have HB2 := Lib.hid (HB.out.trans (hb.mono HB.out.size))
    clear hb HB
    go_wp2_with fail
    refine (num_any _ _).mono ?_
    rintro e w' ⟨rfl, rfl⟩
    go_wp2_with fail
    refine (awake19_any _).mono ?_
    rintro e w4 ⟨rfl, hb⟩
    go_wp2_with fail
    go_ret
    exact ⟨rfl, HB2.out.trans (hb.mono HB2.out.size)⟩
  · have T2 := Lib.hid hq
    have L2 := Lib.hid (show Lent w2 w.heap.size lb lc bs from Own.below HL.out hb)
    have NF := Lib.hid (show ¬ F0 lb from fun h => by have := hFn lb h; have := own_lt HL.out lb rfl; omega)
    clear hq hb HL HLR
    go_wp2_with fail
    refine (rtnew_any (w0 := w) bs A c w2 T2.out.bel (RdI.below HA.out.1 T2.out.bel) HA.out.2.1 (by have := HA.out.2.2; omega)).mono ?_
    rintro e w3 (⟨h, _⟩ | ⟨-, r, R0, rfl, hr, hRn, hb⟩)
    · exact absurd h (by rw [hbm]; simp)
    have P3 := Lib.hid (show TP w w3 F0 R0 g r bs [] from ⟨T2.out.quiet hb, hr, fun i h1 h2 => by have := (T2.out.new i h1).2; have := hRn i h2; omega⟩)
    have L3 := Lib.hid (show Lent w3 w.heap.size lb lc bs from Own.below L2.out hb)
    have NR := Lib.hid (show ¬ R0 lb from fun h => by have := hRn lb h; have := own_lt L2.out lb rfl; omega)
    clear hr hb T2 L2 hRn hFn
    go_wp2_with fail
    refine (num_any _ _).mono ?_
    rintro e w' ⟨rfl, rfl⟩
    go_wp2_with fail
    refine (keptI_any bs w.heap.size lb lc A c w3 L3.out (RdI.below HA.out.1 P3.out.t.bel) HA.out.2.1 HA.out.2.2).mono ?_
    rintro e w4 ⟨rfl, hb⟩
    have P4 := Lib.hid (P3.out.quiet hb)
    have L4 := Lib.hid (show Lent w4 w.heap.size lb lc bs from Own.below L3.out hb)
    clear hb P3 L3
    go_wp2_with fail
    refine (tpspoilI_any P4.out (.slice (some ⟨lb, 0, none⟩) bs.length lc) bs (by
      have h := own_pre (m := bs.length) (show Own w4 w.heap.size _ (marks bs) from L4.out) (by rw [marks_len]; omega)
      unfold marks at h
      rwa [List.take_left] at h) (fun k hk => by
      have e : lb = k := by injection hk
      subst e
      exact ⟨NF.out, NR.out⟩) (by have := HA.out.2.2; omega)).mono ?_
    rintro e w5 ⟨rfl, hp⟩
    have P5 := Lib.hid hp
    clear hp P4 L4 NF NR
    go_wp2_with fail
    go_loopw [10] (fun i wr => ∃ (k : Nat) (F R : Nat → Prop) (L : List S34), i = .int .i64 k ∧ k ≤ acts.length ∧ k ≤ 50 ∧ TP w wr F R g r bs L) (fun i _ => acts.length - (intOf i).toNat)
    case atStart => exact ⟨0, _, _, [], rfl, by omega, by omega, P5.out⟩
    case round =>
      clear P5
      obtain ⟨k, F, R, L, rfl, hk, hk50, hp⟩ := hrel
      have PP := Lib.hid hp
      clear hp
      by_cases hlt : k < acts.length ∧ k < 50
      · obtain ⟨hk1, hk2⟩ := hlt
        have hd1 : decide ((k : Int) < acts.length) = true := decide_eq_true (by omega)
        have hd2 : decide ((k : Int) < 50) = true := decide_eq_true (by omega)
        obtain ⟨b, o, rfl, hbs, hcells⟩ := HX.out.1 (by omega)
        obtain ⟨Ai, ci, c0, c1, c2', c3, hci, hri, hci0, hil⟩ := hcells k hk1
        generalize acts.getD k zAct = a at *
        have e0 := cell_below c0 PP.out.t.bel
        have e1 := cell_below c1 PP.out.t.bel
        have e2 := cell_below c2' PP.out.t.bel
        have e3 := cell_below c3 PP.out.t.bel
        have hbs2 := block_lt_of_cell e0
        have HI0 := Lib.hid hri
        have HI := Lib.hid (And.intro hci (And.intro (hri.below PP.out.t.bel) (And.intro hci0 hil)))
        clear c0 c1 c2' c3 hcells hbs hci hri hci0 hil
        obtain ⟨xs, hxs⟩ : ∃ xs, xs = a.items := ⟨_, rfl⟩
        rw [← hxs] at e1 HI HI0
        obtain ⟨kd, hkd⟩ : ∃ kd, kd = a.kind := ⟨_, rfl⟩
        obtain ⟨st, hst⟩ : ∃ st, st = a.st := ⟨_, rfl⟩
        obtain ⟨en, hen⟩ : ∃ en, en = a.en := ⟨_, rfl⟩
        rw [← hkd] at e0
        rw [← hst] at e2
        rw [← hen] at e3
        clear hxs hkd hst hen
        have hcase : kd < 5 ∨ kd = 5 ∨ (¬ kd < 5 ∧ kd ≠ 5) := by omega
        have hal : Below wr.heap.size wr (wr.alloc (.cells #[.int .i64 kd, .slice Ai xs.length ci, .int .i64 st, .int .i64 en] 69)) := (Below.refl _ _).alloc (Nat.le_refl _) _
        have VB := Lib.hid (heap_alloc_new wr (.cells #[.int .i64 kd, .slice Ai xs.length ci, .int .i64 st, .int .i64 en] 69))
        have NB := Lib.hid (And.intro (fun h => by have := (PP.out.t.new wr.heap.size h).2; omega : ¬ F wr.heap.size) (fun h => by have := (PP.out.r.new wr.heap.size h).2; omega : ¬ R wr.heap.size))
        have PB := Lib.hid (PP.out.quiet hal)
        have HIB := Lib.hid (And.intro HI.out.1 (And.intro (HI.out.2.1.below hal) HI.out.2.2))
        clear hal PP HI
        rcases hcase with h5 | rfl | ⟨h5, h6⟩
        · have hk5 : decide (kd < 5) = true := decide_eq_true h5
          clear h5
          go_wp2_with fail
          show Calls _ _ _ (wr.alloc (.cells #[.int .i64 kd, .slice Ai xs.length ci, .int .i64 st, .int .i64 en] 69)) _
          clear e0 e1 e2 e3 hbs2 hk5 hd1 hd2
          generalize wr.alloc (.cells #[.int .i64 kd, .slice Ai xs.length ci, .int .i64 st, .int .i64 en] 69) = we at *
          generalize wr.heap.size = vb at *
          have hxl := HIB.out.2.2.2
          refine (xlend_any Ai ci xs we HIB.out.2.1 (by omega) HIB.out.2.2.1).mono ?_
          rintro e w6 ⟨yb, yc, rfl, hrow, hb, hyb⟩
          have P6 := Lib.hid (PB.out.quiet hb)
          have V6 := Lib.hid (blk_below VB.out hb)
          have I6 := Lib.hid (HIB.out.2.1.below hb)
          have NY := Lib.hid (And.intro (fun h => by have := (PB.out.t.new yb h).2; omega : ¬ F yb) (And.intro (fun h => by have := (PB.out.r.new yb h).2; omega : ¬ R yb) (show w.heap.size ≤ yb from Nat.le_trans PB.out.t.bel.size hyb)))
          have ROW := Lib.hid hrow
          have NYW := Lib.hid NY.out.2.2
          have NRR := Lib.hid (And.intro NY.out.2.1 NB.out.2)
          clear hrow hb hyb VB PB
          have hrx : RdX w6 (some ⟨yb, 0, none⟩) xs := by
            have h2 : RdX w6 (some ⟨yb, 0, none⟩) (xs ++ [markX, markX]) := xrow_rd (c := yc) (by rw [show (xs ++ [markX, markX]).length = xs.length + 2 by simp]; exact ROW.out)
            have h3 := h2.take xs.length
            rwa [List.take_left] at h3
          go_wp2_with fail
          refine (tsins_r P6.out.t xs (some ⟨yb, 0, none⟩) yc hrx (by omega) (fun b o e hf => NY.out.1 (by injection e with e; injection e with e; exact e ▸ hf))).mono ?_
          rintro e w7 ⟨rfl, F7, hq, hF, hc⟩
          have T7 := Lib.hid hq
          have Q7 := Lib.hid (P6.out.r.chg hc (fun k hk => ⟨fun h => P6.out.d k hk h, (P6.out.t.new k hk).1⟩))
          have V7 := Lib.hid (hc.obj V6.out NB.out.1)
          have D7 := Lib.hid (fun i (h1 : F7 i) (h2 : R i) => (hF i h1).elim (fun h => P6.out.d i h h2) (fun h => by have := (P6.out.r.new i h2).2; omega) : ∀ i, F7 i → R i → False)
          have ROW7 := Lib.hid (row_keep ROW.out hc (fun j hj => by
            have e : yb = j := by injection hj
            exact e ▸ NY.out.1))
          have NY7 := Lib.hid (show ¬ F7 yb from fun h => (hF yb h).elim NY.out.1 (fun h => by have := own_lt ROW.out yb rfl; omega))
          have NV7 := Lib.hid (show ¬ F7 vb from fun h => (hF vb h).elim NB.out.1 (fun h => by have := blk_lt V6.out; omega))
          obtain ⟨er, her⟩ : ∃ er, (insR L xs).1 = er := ⟨_, rfl⟩
          obtain ⟨LZ, hLZ⟩ : ∃ LZ, (insR L xs).2 = LZ := ⟨_, rfl⟩
          rw [hLZ] at T7
          rw [her]
          have HE := Lib.hid (And.intro her hLZ)
          have HSL := Lib.hid (And.intro P6.out.t.srt (And.intro P6.out.t.one P6.out.t.len))
          clear hq hF hc her hLZ P6 V6 ROW NY NB HIB hrx I6
          obtain ⟨v1, vl⟩ : w7.cell? ⟨vb, 1, none⟩ = some (.slice Ai xs.length ci) ∧ vb < w7.heap.size := ⟨(blk_cell V7.out 1).trans rfl, blk_lt V7.out⟩
          go_wp2_with fail
          refine Txt3.wp_region_mix (V := [(5, .a), (10, .r), (11, .a)]) (S := fun _ => False) (by kernel_rfl) (by kernel_rfl) (fun HB => ?_)
          repeat (first
            | (refine Txt3.mix_p (by rfl) rfl (by decide +kernel) (fun K hK => ?_); go_big_quiet_op; refine hK _ ?_; clear hK K)
            | (refine Txt3.mix_re (by rfl) (by decide +kernel) (by rfl) (by rfl) (by go_simp) (by first | exact HS1.out | exact HS2.out | exact id) HB (fun K hK => ?_); go_big_quiet_op; refine hK _ ?_; clear hK K)
            | (refine Txt3.mix_r (by rfl) (by decide) (by decide +kernel) (fun K hK => ?_); go_big_quiet_op; refine hK _ ?_; clear hK K)
            | (refine Txt3.mix_pass (by rfl) (by rfl) ?_; simp only [List.set_cons_succ, List.set_cons_zero]))
          refine Txt3.mix_c (by rfl) (by decide +kernel) HB ?_
          intro w8 hw8 K hK
          have hb8 : Below w7.heap.size w7 w8 := Txt.Bw.undrew hw8
          replace HB := HB.then_ hw8
          clear hw8
          go_wp2_with fail
          refine (num_any _ _).mono ?_
          rintro e w' ⟨rfl, rfl⟩
          refine hK _ _ ⟨Txt.Bw.refl _, ?_⟩
          clear hK K
          repeat (first
            | (refine Txt3.mix_p (by rfl) rfl (by decide +kernel) (fun K hK => ?_); go_big_quiet_op; refine hK _ ?_; clear hK K)
            | (refine Txt3.mix_re (by rfl) (by decide +kernel) (by rfl) (by rfl) (by go_simp) (by first | exact HS1.out | exact HS2.out | exact id) HB (fun K hK => ?_); go_big_quiet_op; refine hK _ ?_; clear hK K)
            | (refine Txt3.mix_r (by rfl) (by decide) (by decide +kernel) (fun K hK => ?_); go_big_quiet_op; refine hK _ ?_; clear hK K)
            | (refine Txt3.mix_pass (by rfl) (by rfl) ?_; simp only [List.set_cons_succ, List.set_cons_zero]))
          refine Txt3.mix_a (by rfl) (by decide +kernel) (fun K hK => ?_)
          have T8 := Lib.hid (T7.out.quiet hb8)
          have Q8 := Lib.hid (Q7.out.quiet hb8)
          have V8 := Lib.hid (blk_below V7.out hb8)
          have ROW8 := Lib.hid (row_keep (S := fun _ => False) ROW7.out (Chg.of_below hb8) (fun _ _ h => h))
          clear hb8 HB T7 Q7 V7 ROW7 v1 vl
          go_wp2_with fail
          refine (rtins_r Q8.out HSL.out.1 HSL.out.2.1 HSL.out.2.2 xs Ai ci (HI0.out.below T8.out.bel) (by omega)).mono ?_
          rintro e w9 ⟨rfl, R9, hq, hF, hc⟩
          rw [HE.out.1]
          rw [HE.out.2] at hq
          have hnR : ¬ R yb ∧ ¬ R vb := NRR.out
          have P9 := Lib.hid (show TP w w9 F7 R9 g r bs LZ from ⟨T8.out.chg hc (fun k hk => ⟨fun h => D7.out k h hk, (Q8.out.new k hk).1⟩), hq, fun i h1 h2 => (hF i h2).elim (fun h => D7.out i h1 h) (fun h => by have := (T8.out.new i h1).2; omega)⟩)
          have V9 := Lib.hid (hc.obj V8.out hnR.2)
          have ROW9 := Lib.hid (row_keep ROW8.out hc (fun j hj => by
            have e : yb = j := by injection hj
            exact e ▸ hnR.1))
          have NY9 := Lib.hid (show ¬ R9 yb from fun h => (hF yb h).elim hnR.1 (fun h => by have := own_lt ROW8.out yb rfl; omega))
          clear hq hF hc hnR T8 Q8 V8 ROW8 D7 HSL
          obtain ⟨v1, vl⟩ : w9.cell? ⟨vb, 1, none⟩ = some (.slice Ai xs.length ci) ∧ vb < w9.heap.size := ⟨(blk_cell V9.out 1).trans rfl, blk_lt V9.out⟩
          simp only
          refine hK _ _ ?_
          clear hK K
          repeat (first
            | (refine Txt3.mix_p (by rfl) rfl (by decide +kernel) (fun K hK => ?_); go_big_quiet_op; refine hK _ ?_; clear hK K)
            | (refine Txt3.mix_re (by rfl) (by decide +kernel) (by rfl) (by rfl) (by go_simp) (by first | exact HS1.out | exact HS2.out | exact id) HB (fun K hK => ?_); go_big_quiet_op; refine hK _ ?_; clear hK K)
            | (refine Txt3.mix_r (by rfl) (by decide) (by decide +kernel) (fun K hK => ?_); go_big_quiet_op; refine hK _ ?_; clear hK K)
            | (refine Txt3.mix_pass (by rfl) (by rfl) ?_; simp only [List.set_cons_succ, List.set_cons_zero]))
          refine Txt3.mix_a (by rfl) (by decide +kernel) (fun K hK => ?_)
          go_wp2_with fail
          refine (xkept_any yb xs.length yc Ai ci xs w9 ROW9.out (HI0.out.below P9.out.t.bel) rfl (by omega)).mono ?_
          rintro e wa ⟨rfl, hb⟩
          have PA := Lib.hid (P9.out.quiet hb)
          have ROWA := Lib.hid (row_keep (S := fun _ => False) ROW9.out (Chg.of_below hb) (fun _ _ h => h))
          clear hb P9 ROW9 V9 v1 vl
          refine hK _ _ ?_
          clear hK K
          repeat (first
            | (refine Txt3.mix_p (by rfl) rfl (by decide +kernel) (fun K hK => ?_); go_big_quiet_op; refine hK _ ?_; clear hK K)
            | (refine Txt3.mix_re (by rfl) (by decide +kernel) (by rfl) (by rfl) (by go_simp) (by first | exact HS1.out | exact HS2.out | exact id) HB (fun K hK => ?_); go_big_quiet_op; refine hK _ ?_; clear hK K)
            | (refine Txt3.mix_r (by rfl) (by decide) (by decide +kernel) (fun K hK => ?_); go_big_quiet_op; refine hK _ ?_; clear hK K)
            | (refine Txt3.mix_pass (by rfl) (by rfl) ?_; simp only [List.set_cons_succ, List.set_cons_zero]))
          refine Txt3.mix_nil ?_
          go_wp2_with fail
          refine (xspoil_any yb xs.length (xs.length + 2) yc (xs ++ [markX, markX]) wa (own_weaken ROWA.out (Nat.zero_le _)) (by omega) (by omega)).mono ?_
          rintro e wz ⟨rfl, hc⟩
          have PZ := Lib.hid (PA.out.chg hc (fun k hk => by rw [show k = yb from hk]; exact ⟨NY7.out, NY9.out, NYW.out⟩))
          clear hc PA ROWA NY7 NY9 NV7 HE
          obtain ⟨FZ, hFZ⟩ : ∃ FZ, FZ = F7 := ⟨_, rfl⟩
          obtain ⟨RZ, hRZ⟩ : ∃ RZ, RZ = R9 := ⟨_, rfl⟩
          rw [← hFZ, ← hRZ] at PZ
          clear hFZ hRZ
          go_wp2_with fail
          refine (tsitems_any PZ.out.t).mono ?_
          rintro e wg ⟨v, rfl, hox, hb⟩
          have PG := Lib.hid (PZ.out.quiet hb)
          have OG := Lib.hid hox
          have NG := Lib.hid (fun j hj => ⟨fun h => by have := (PZ.out.t.new j h).2; have := own_base hox j hj; omega, fun h => by have := (PZ.out.r.new j h).2; have := own_base hox j hj; omega⟩ : ∀ j, v.ownBlock = some j → ¬ FZ j ∧ ¬ RZ j)
          have GE := Lib.hid (show w.heap.size ≤ wz.heap.size from PZ.out.t.bel.size)
          clear hb hox PZ
          obtain ⟨A7, c7, rfl, hc7, hr7⟩ := OG.out.reads
          have R7 := Lib.hid hr7
          clear hc7 hr7
          obtain ⟨bv', iv', k1, k2, k3, k4, k5, k6⟩ := PG.out.r.st
          obtain ⟨A8, c8, rfl, hc8, hr8⟩ := k3.reads
          have R8 := Lib.hid hr8
          obtain ⟨r0, r1, rl⟩ := rtO_facts k1
          clear k1 k2 k3 k4 k5 k6 hc8 hr8
          go_wp2_with fail
          refine (xsame2_any A7 A8 c7 c8 LZ wg R7.out R8.out (by have := PG.out.t.len; omega)).mono ?_
          rintro e wh ⟨rfl, hb⟩
          have PH := Lib.hid (PG.out.quiet hb)
          have OH := Lib.hid (OG.out.below hb)
          clear hb PG OG R7 R8 r0 r1 rl
          go_wp2_with fail
          refine (xspoil_own OH.out (by have := PH.out.t.len; omega)).mono ?_
          rintro e wi ⟨rfl, hc⟩
          have PI := Lib.hid (PH.out.chg hc (fun k hk => ⟨(NG.out k hk).1, (NG.out k hk).2, by have := own_base OH.out k hk; have := GE.out; omega⟩))
          clear hc PH OH NG GE
          go_wp2_with fail
          exact ⟨⟨k + 1, FZ, RZ, LZ, by go_num, by omega, by omega, PI.out⟩, by simp [intOf]; omega⟩
        · have hk5 : decide ((5 : Int) < 5) = false := by decide
          go_wp2_with fail
          show Calls _ _ _ (wr.alloc (.cells #[.int .i64 5, .slice Ai xs.length ci, .int .i64 st, .int .i64 en] 69)) _
          clear e0 e1 e2 e3 hbs2 hk5 hd1 hd2
          generalize wr.alloc (.cells #[.int .i64 5, .slice Ai xs.length ci, .int .i64 st, .int .i64 en] 69) = we at *
          generalize wr.heap.size = vb at *
          refine (tsrange_any PB.out.t st en).mono ?_
          rintro e w6 ⟨v, rfl, how, hb⟩
          obtain ⟨X, hX⟩ : ∃ X, X = joinA bs (its bs (flt st en L)) := ⟨_, rfl⟩
          have HXL := Lib.hid (show X.f6.length ≤ 9 from by
            obtain ⟨s, gd⟩ := PB.out.t.one.gd PB.out.t.bm PB.out.t.len
            have g2 := flt_gd (S := st) (E := en) gd
            rw [hX]
            exact joinRes_len g2.join g2.b)
          rw [← hX] at how ⊢
          have HXE := Lib.hid hX
          obtain ⟨Ax, cx, rfl, hlx, hrx⟩ := how.reads
          have hal : Below w6.heap.size w6 (w6.alloc (acO X (.slice Ax X.f6.length cx))) := (Below.refl _ _).alloc (Nat.le_refl _) _
          have hbb := hb.trans (hal.mono hb.size)
          have P7 := Lib.hid (PB.out.quiet hbb)
          have V7 := Lib.hid (blk_below VB.out hbb)
          have VX := Lib.hid (AVar.new hlx hrx)
          have OX := Lib.hid (show Own (w6.alloc (acO X (.slice Ax X.f6.length cx))) w.heap.size (.slice Ax X.f6.length cx) X.f6 from own_weaken (Own.below how hal) PB.out.t.bel.size)
          have NX := Lib.hid (fun j hj => ⟨fun h => by have := (PB.out.t.new j h).2; have := own_base how j hj; omega, fun h => by have := (PB.out.r.new j h).2; have := own_base how j hj; omega⟩ : ∀ j, (Value.slice Ax X.f6.length cx).ownBlock = some j → ¬ F j ∧ ¬ R j)
          clear how hX hlx hrx hal hb hbb VB PB NB HIB HI0
          simp only [acV]
          go_wp2_with fail
          show Code.wp _ _ _ _ (w6.alloc (acO X (.slice Ax X.f6.length cx)))
          generalize w6.alloc (acO X (.slice Ax X.f6.length cx)) = w7 at *
          generalize w6.heap.size = xb at *
          obtain ⟨s2, s3, sl⟩ : w7.cell? ⟨vb, 2, none⟩ = some (.int .i64 st) ∧ w7.cell? ⟨vb, 3, none⟩ = some (.int .i64 en) ∧ vb < w7.heap.size := ⟨(blk_cell V7.out 2).trans rfl, (blk_cell V7.out 3).trans rfl, blk_lt V7.out⟩
          obtain ⟨x0, x1, x2, x3, x4, x5, x6, x7, x8, x9, x10, x11, x12, xl⟩ := acO_facts VX.out.1
          refine Txt.wp_region_mix (by kernel_rfl) (by kernel_rfl) (fun HB => ?_)
          repeat (first
            | (refine Txt.mix_p (by rfl) rfl rfl (fun K hK => ?_); go_big_quiet_op; refine hK _ ?_; clear hK K)
            | (refine Txt.mix_re (by rfl) (by decide +kernel) (by rfl) (by rfl) (by go_simp) HB (fun K hK => ?_); go_big_quiet_op; refine hK _ ?_; clear hK K)
            | (refine Txt.mix_rl (by rfl) (by decide +kernel) (by rfl) (by rfl) (by go_simp) HB (fun K hK => ?_); go_big_quiet_op; refine hK _ ?_; clear hK K)
            | (refine Txt.mix_pass (by rfl) (by rfl) ?_; simp only [List.set_cons_succ, List.set_cons_zero]))
          refine Txt.mix_c (by rfl) (by decide +kernel) HB ?_
          intro w8 hw8 K hK
          replace HB := HB.trans hw8
          have hb8 := HB.undrew
          clear hw8
          go_wp2_with fail
          refine (rtrange_any (P7.out.quiet hb8).r P7.out.t.bm P7.out.t.srt P7.out.t.one P7.out.t.len st en).mono ?_
          rintro e w9 ⟨v1, rfl, how, hb⟩
          refine hK _ _ ⟨hb, ?_⟩
          replace HB := HB.trans hb
          rw [← HXE.out] at how ⊢
          obtain ⟨Ar, cr, rfl, hcr, hrr⟩ := how.reads
          have RR := Lib.hid (And.intro hcr hrr)
          clear hK K hb hb8 how hcr hrr
          simp only [acV]
          repeat (first
            | (refine Txt.mix_p (by rfl) rfl rfl (fun K hK => ?_); go_big_quiet_op; refine hK _ ?_; clear hK K)
            | (refine Txt.mix_re (by rfl) (by decide +kernel) (by rfl) (by rfl) (by go_simp) HB (fun K hK => ?_); go_big_quiet_op; refine hK _ ?_; clear hK K)
            | (refine Txt.mix_rl (by rfl) (by decide +kernel) (by rfl) (by rfl) (by go_simp) HB (fun K hK => ?_); go_big_quiet_op; refine hK _ ?_; clear hK K)
            | (refine Txt.mix_pass (by rfl) (by rfl) ?_; simp only [List.set_cons_succ, List.set_cons_zero]))
          refine Txt.mix_c (by rfl) (by decide +kernel) HB ?_
          intro wa hwa K hK
          replace HB := HB.trans hwa
          have hba := HB.undrew
          go_wp2_with fail
          change Calls _ _ #[acV X (.slice Ax X.f6.length cx), acV X (.slice Ar X.f6.length cr)] _ _
          refine (same_yes X Ax Ar cx cr wa (RdI.below VX.out.2.2 hba) VX.out.2.1 (RdI.below RR.out.2 hwa) RR.out.1 (by have := HXL.out; omega)).mono ?_
          rintro e wc ⟨rfl, hb⟩
          refine hK _ _ ⟨hb, ?_⟩
          replace HB := HB.trans hb
          have PC := Lib.hid (P7.out.quiet HB.undrew)
          have OC := Lib.hid (Own.below OX.out HB.undrew)
          have VC := Lib.hid (VX.out.below HB.undrew)
          clear hK K hb hba hwa RR x0 x1 x2 x3 x4 x5 x6 x7 x8 x9 x10 x11 x12 xl s2 s3 sl
          repeat (first
            | (refine Txt.mix_p (by rfl) rfl rfl (fun K hK => ?_); go_big_quiet_op; refine hK _ ?_; clear hK K)
            | (refine Txt.mix_re (by rfl) (by decide +kernel) (by rfl) (by rfl) (by go_simp) HB (fun K hK => ?_); go_big_quiet_op; refine hK _ ?_; clear hK K)
            | (refine Txt.mix_rl (by rfl) (by decide +kernel) (by rfl) (by rfl) (by go_simp) HB (fun K hK => ?_); go_big_quiet_op; refine hK _ ?_; clear hK K)
            | (refine Txt.mix_pass (by rfl) (by rfl) ?_; simp only [List.set_cons_succ, List.set_cons_zero]))
          refine Txt.mix_nil ?_
          clear HB P7 OX VX V7
          obtain ⟨x0, x1, x2, x3, x4, x5, x6, x7, x8, x9, x10, x11, x12, xl⟩ := acO_facts VC.out.1
          go_wp2_with fail
          refine (tpspoilI_any PC.out (.slice Ax X.f6.length cx) X.f6 OC.out NX.out (by have := HXL.out; omega)).mono ?_
          rintro e wz ⟨rfl, hp⟩
          have PZ := Lib.hid hp
          clear hp PC OC VC NX x0 x1 x2 x3 x4 x5 x6 x7 x8 x9 x10 x11 x12 xl
          obtain ⟨FZ, hFZ⟩ : ∃ FZ, FZ = F := ⟨_, rfl⟩
          obtain ⟨RZ, hRZ⟩ : ∃ RZ, RZ = R := ⟨_, rfl⟩
          obtain ⟨LZ, hLZ⟩ : ∃ LZ, LZ = L := ⟨_, rfl⟩
          rw [← hFZ, ← hRZ, ← hLZ] at PZ
          clear hFZ hRZ hLZ HXE
          go_wp2_with fail
          refine (tsitems_any PZ.out.t).mono ?_
          rintro e wg ⟨v, rfl, hox, hb⟩
          have PG := Lib.hid (PZ.out.quiet hb)
          have OG := Lib.hid hox
          have NG := Lib.hid (fun j hj => ⟨fun h => by have := (PZ.out.t.new j h).2; have := own_base hox j hj; omega, fun h => by have := (PZ.out.r.new j h).2; have := own_base hox j hj; omega⟩ : ∀ j, v.ownBlock = some j → ¬ FZ j ∧ ¬ RZ j)
          have GE := Lib.hid (show w.heap.size ≤ wz.heap.size from PZ.out.t.bel.size)
          clear hb hox PZ
          obtain ⟨A7, c7, rfl, hc7, hr7⟩ := OG.out.reads
          have R7 := Lib.hid hr7
          clear hc7 hr7
          obtain ⟨bv', iv', k1, k2, k3, k4, k5, k6⟩ := PG.out.r.st
          obtain ⟨A8, c8, rfl, hc8, hr8⟩ := k3.reads
          have R8 := Lib.hid hr8
          obtain ⟨r0, r1, rl⟩ := rtO_facts k1
          clear k1 k2 k3 k4 k5 k6 hc8 hr8
          go_wp2_with fail
          refine (xsame2_any A7 A8 c7 c8 LZ wg R7.out R8.out (by have := PG.out.t.len; omega)).mono ?_
          rintro e wh ⟨rfl, hb⟩
          have PH := Lib.hid (PG.out.quiet hb)
          have OH := Lib.hid (OG.out.below hb)
          clear hb PG OG R7 R8 r0 r1 rl
          go_wp2_with fail
          refine (xspoil_own OH.out (by have := PH.out.t.len; omega)).mono ?_
          rintro e wi ⟨rfl, hc⟩
          have PI := Lib.hid (PH.out.chg hc (fun k hk => ⟨(NG.out k hk).1, (NG.out k hk).2, by have := own_base OH.out k hk; have := GE.out; omega⟩))
          clear hc PH OH NG GE
          go_wp2_with fail
          exact ⟨⟨k + 1, FZ, RZ, LZ, by go_num, by omega, by omega, PI.out⟩, by simp [intOf]; omega⟩
        · have hk5 : decide (kd < 5) = false := decide_eq_false h5
          have hk6 : (kd == 5) = false := beq_eq_false_iff_ne.2 h6
          have hk7 : decide (kd = 5) = false := decide_eq_false h6
          clear h5
          go_wp2_with fail
          show Code.wp _ _ _ _ (wr.alloc (.cells #[.int .i64 kd, .slice Ai xs.length ci, .int .i64 st, .int .i64 en] 69))
          clear e0 e1 e2 e3 hbs2 hk5 hk6 hk7 h6 hd1 hd2
          generalize wr.alloc (.cells #[.int .i64 kd, .slice Ai xs.length ci, .int .i64 st, .int .i64 en] 69) = we at *
          generalize wr.heap.size = vb at *
          obtain ⟨s2, sl⟩ : we.cell? ⟨vb, 2, none⟩ = some (.int .i64 st) ∧ vb < we.heap.size := ⟨(blk_cell VB.out 2).trans rfl, blk_lt VB.out⟩
          have HS1 := Lib.hid (show ¬ (F vb ∨ R vb) from fun h => h.elim NB.out.1 NB.out.2)
          have HS2 := HS1
          refine Txt3.wp_region_mix (V := [(4, .e), (9, .e)]) (S := fun k => F k ∨ R k) (by kernel_rfl) (by kernel_rfl) (fun HB => ?_)
          repeat (first
            | (refine Txt3.mix_p (by rfl) rfl (by decide +kernel) (fun K hK => ?_); go_big_quiet_op; refine hK _ ?_; clear hK K)
            | (refine Txt3.mix_re (by rfl) (by decide +kernel) (by rfl) (by rfl) (by go_simp) (by first | exact HS1.out | exact HS2.out | exact id) HB (fun K hK => ?_); go_big_quiet_op; refine hK _ ?_; clear hK K)
            | (refine Txt3.mix_r (by rfl) (by decide) (by decide +kernel) (fun K hK => ?_); go_big_quiet_op; refine hK _ ?_; clear hK K)
            | (refine Txt3.mix_pass (by rfl) (by rfl) ?_; simp only [List.set_cons_succ, List.set_cons_zero]))
          refine Txt3.mix_e (by rfl) (by decide +kernel) HB ?_
          intro w6 hw6 K hK
          have hb6 : Below we.heap.size we w6 := Txt.Bw.undrew hw6
          have PD := Lib.hid (PB.out.quiet hb6)
          have HSL := Lib.hid (And.intro PB.out.t.srt PB.out.t.len)
          go_wp2_with fail
          refine (tsevict_any PD.out.t st).mono ?_
          rintro e w7 ⟨rfl, F7, hq, hF, hc⟩
          have hkx : Txt2.Kx (fun k => F k ∨ R k) we.drew w6 w7 := ⟨hc.os, hc.tape, hc.output, hc.size, fun i hi hn => hc.block i hi (fun h => hn ⟨.inl h, (PB.out.t.new i h).2⟩)⟩
          refine hK _ _ ⟨hkx, ?_⟩
          replace HB := (HB.then_ hw6).trans hkx
          have T7 := Lib.hid hq
          have Q7 := Lib.hid (PD.out.r.chg hc (fun k hk => ⟨fun h => PD.out.d k hk h, (PD.out.t.new k hk).1⟩))
          have D7 := Lib.hid (fun i (h1 : F7 i) (h2 : R i) => (hF i h1).elim (fun h => PD.out.d i h h2) (fun h => by have := (PD.out.r.new i h2).2; omega) : ∀ i, F7 i → R i → False)
          have RN := Lib.hid (fun i (h : R i) => (PB.out.r.new i h).2 : ∀ i, R i → i < we.heap.size)
          clear hK K hq hF hc PD hkx hw6 hb6
          repeat (first
            | (refine Txt3.mix_p (by rfl) rfl (by decide +kernel) (fun K hK => ?_); go_big_quiet_op; refine hK _ ?_; clear hK K)
            | (refine Txt3.mix_re (by rfl) (by decide +kernel) (by rfl) (by rfl) (by go_simp) (by first | exact HS1.out | exact HS2.out | exact id) HB (fun K hK => ?_); go_big_quiet_op; refine hK _ ?_; clear hK K)
            | (refine Txt3.mix_r (by rfl) (by decide) (by decide +kernel) (fun K hK => ?_); go_big_quiet_op; refine hK _ ?_; clear hK K)
            | (refine Txt3.mix_pass (by rfl) (by rfl) ?_; simp only [List.set_cons_succ, List.set_cons_zero]))
          refine Txt3.mix_e (by rfl) (by decide +kernel) HB ?_
          intro w8 hw8 K hK
          have T8 := Lib.hid (T7.out.quiet hw8)
          have Q8 := Lib.hid (Q7.out.quiet hw8)
          go_wp2_with fail
          refine (rtevict_any Q8.out HSL.out.1 HSL.out.2 st).mono ?_
          rintro e wz ⟨rfl, R9, hq, hF, hc⟩
          have hkx : Txt2.Kx (fun k => F k ∨ R k) we.drew w8 wz := ⟨hc.os, hc.tape, hc.output, hc.size, fun i hi hn => hc.block i hi (fun h => hn ⟨.inr h, RN.out i h⟩)⟩
          refine hK _ _ ⟨hkx, ?_⟩
          have PZ := Lib.hid (show TP w wz F7 R9 g r bs (hig st L) from ⟨T8.out.chg hc (fun k hk => ⟨fun h => D7.out k h hk, (Q8.out.new k hk).1⟩), hq, fun i h1 h2 => (hF i h2).elim (fun h => D7.out i h1 h) (fun h => by have := (T8.out.new i h1).2; omega)⟩)
          clear hK K hq hF hc T7 Q7 T8 Q8 D7 s2 sl HSL NB HIB HI0 hkx hw8 PB VB HS1 HS2 RN
          repeat (first
            | (refine Txt3.mix_p (by rfl) rfl (by decide +kernel) (fun K hK => ?_); go_big_quiet_op; refine hK _ ?_; clear hK K)
            | (refine Txt3.mix_re (by rfl) (by decide +kernel) (by rfl) (by rfl) (by go_simp) (by first | exact HS1.out | exact HS2.out | exact id) HB (fun K hK => ?_); go_big_quiet_op; refine hK _ ?_; clear hK K)
            | (refine Txt3.mix_r (by rfl) (by decide) (by decide +kernel) (fun K hK => ?_); go_big_quiet_op; refine hK _ ?_; clear hK K)
            | (refine Txt3.mix_pass (by rfl) (by rfl) ?_; simp only [List.set_cons_succ, List.set_cons_zero]))
          refine Txt3.mix_nil ?_
          clear HB
          obtain ⟨FZ, hFZ⟩ : ∃ FZ, FZ = F7 := ⟨_, rfl⟩
          obtain ⟨RZ, hRZ⟩ : ∃ RZ, RZ = R9 := ⟨_, rfl⟩
          obtain ⟨LZ, hLZ⟩ : ∃ LZ, LZ = hig st L := ⟨_, rfl⟩
          rw [← hFZ, ← hRZ, ← hLZ] at PZ
          clear hFZ hRZ hLZ
          go_wp2_with fail
          refine (tsitems_any PZ.out.t).mono ?_
          rintro e wg ⟨v, rfl, hox, hb⟩
          have PG := Lib.hid (PZ.out.quiet hb)
          have OG := Lib.hid hox
          have NG := Lib.hid (fun j hj => ⟨fun h => by have := (PZ.out.t.new j h).2; have := own_base hox j hj; omega, fun h => by have := (PZ.out.r.new j h).2; have := own_base hox j hj; omega⟩ : ∀ j, v.ownBlock = some j → ¬ FZ j ∧ ¬ RZ j)
          have GE := Lib.hid (show w.heap.size ≤ wz.heap.size from PZ.out.t.bel.size)
          clear hb hox PZ
          obtain ⟨A7, c7, rfl, hc7, hr7⟩ := OG.out.reads
          have R7 := Lib.hid hr7
          clear hc7 hr7
          obtain ⟨bv', iv', k1, k2, k3, k4, k5, k6⟩ := PG.out.r.st
          obtain ⟨A8, c8, rfl, hc8, hr8⟩ := k3.reads
          have R8 := Lib.hid hr8
          obtain ⟨r0, r1, rl⟩ := rtO_facts k1
          clear k1 k2 k3 k4 k5 k6 hc8 hr8
          go_wp2_with fail
          refine (xsame2_any A7 A8 c7 c8 LZ wg R7.out R8.out (by have := PG.out.t.len; omega)).mono ?_
          rintro e wh ⟨rfl, hb⟩
          have PH := Lib.hid (PG.out.quiet hb)
          have OH := Lib.hid (OG.out.below hb)
          clear hb PG OG R7 R8 r0 r1 rl
          go_wp2_with fail
          refine (xspoil_own OH.out (by have := PH.out.t.len; omega)).mono ?_
          rintro e wi ⟨rfl, hc⟩
          have PI := Lib.hid (PH.out.chg hc (fun k hk => ⟨(NG.out k hk).1, (NG.out k hk).2, by have := own_base OH.out k hk; have := GE.out; omega⟩))
          clear hc PH OH NG GE
          go_wp2_with fail
          exact ⟨⟨k + 1, FZ, RZ, LZ, by go_num, by omega, by omega, PI.out⟩, by simp [intOf]; omega⟩
      · have hd : decide (k < acts.length) = false ∨ (decide (k < acts.length) = true ∧ decide (k < 50) = false ∧ decide ((k : Int) < 50) = false) := by
          by_cases h : k < acts.length
          · exact .inr ⟨decide_eq_true h, decide_eq_false (by omega), decide_eq_false (by omega)⟩
          · exact .inl (decide_eq_false h)
        rcases hd with hd | ⟨hd, hd2, hd3⟩
        all_goals (
          go_wp2_with fail
          refine (awake19_any _).mono ?_
          rintro e w6 ⟨rfl, hb⟩
          have PX := Lib.hid (PP.out.quiet hb)
          clear hb PP hd
          go_wp2_with fail
          go_ret
          exact ⟨rfl, PX.out.t.bel⟩)
end Go.Proofs.Ytfgabafbcephaaa.My

namespace Go.Proofs.Ytfgabafbcephaaa.My
open Go.RowKit Go.ChangeShapes Go.WideShapes Go.Deep Go.Joins Pa Go.Proofs.YtfgabafbcephaaaW.PrintWords
theorem trod_struct3 {H : Type} {enc : TypeId × Value → H} {P : Program} {w : World} {base : Nat} {spare : Nat → Bool} {held : Bool} {t : TypeId} {f0 f1 f2 : Field} {fuel : Nat} {cs : List Value} {x : DataW H × List MemPlace} (ht : P.underlying t = some (.struct #[f0, f1, f2])) (h : DataW.trod enc P w base spare held fuel t cs = some x) :
    ∃ y0 y1 y2 n, x.1 = .agg [y0.1, y1.1, y2.1] ∧ cs.length = P.cellsOf t ∧ DataW.trod enc P w base spare held n f0.type ((cs.drop f0.offset).take (P.cellsOf f0.type)) = some y0 ∧
      DataW.trod enc P w base spare held n f1.type ((cs.drop f1.offset).take (P.cellsOf f1.type)) = some y1 ∧ DataW.trod enc P w base spare held n f2.type ((cs.drop f2.offset).take (P.cellsOf f2.type)) = some y2 := by
  obtain ⟨xs, n, _, rfl, hl, hlen, hf⟩ := DataW.trod_struct ht h
  match xs, hlen with
  | [y0, y1, y2], _ => exact ⟨y0, y1, y2, n, by simp, hl, by simpa using hf 0 f0 rfl, by simpa using hf 1 f1 rfl, by simpa using hf 2 f2 rfl⟩
theorem trod_struct2b {H : Type} {enc : TypeId × Value → H} {P : Program} {w : World} {base : Nat} {spare : Nat → Bool} {held : Bool} {t : TypeId} {f0 f1 : Field} {fuel : Nat} {cs : List Value} {x : DataW H × List MemPlace} (ht : P.underlying t = some (.struct #[f0, f1])) (h : DataW.trod enc P w base spare held fuel t cs = some x) :
    ∃ y0 y1 n, x.1 = .agg [y0.1, y1.1] ∧ cs.length = P.cellsOf t ∧ DataW.trod enc P w base spare held n f0.type ((cs.drop f0.offset).take (P.cellsOf f0.type)) = some y0 ∧
      DataW.trod enc P w base spare held n f1.type ((cs.drop f1.offset).take (P.cellsOf f1.type)) = some y1 := by
  obtain ⟨xs, n, _, rfl, hl, hlen, hf⟩ := DataW.trod_struct ht h
  match xs, hlen with
  | [y0, y1], _ => exact ⟨y0, y1, n, by simp, hl, by simpa using hf 0 f0 rfl, by simpa using hf 1 f1 rfl⟩
section
variable {H : Type} {enc : TypeId × Value → H} {W : World} {fuel base : Nat} {spare : Nat → Bool} {held : Bool} {x : DataW H × List MemPlace}
theorem open_itemsX {A : Option Addr} {len cap : Nat} (h : DataW.trod enc Try.prog W base spare held fuel 65 [.slice A len cap] = some x) (hw : ∀ n ∈ x.1.weights Try.prog 65, n ≤ reachBytes) :
    ∃ l : List S34, len = l.length ∧ RdX W A l ∧ len ≤ cap ∧ (A = none → cap = 0) ∧ len * 32 ≤ 140737488351232 := by
  rcases open_slice Try.underlying65 h with ⟨hcs, _⟩ | ⟨q, l, c, m, n, D, Pl, hcs, _, hl, hm, hme, hx, hel⟩
  · simp at hcs
    obtain ⟨rfl, rfl, rfl⟩ := hcs
    exact ⟨[], rfl, (fun h => absurd h (by simp)), Nat.le_refl _, fun _ => rfl, by simp⟩
  · simp at hcs
    obtain ⟨rfl, rfl, rfl⟩ := hcs
    have hlm : len ≤ m := by rw [hme]; split <;> omega
    have hu := Try.underlying65
    have hca : Try.prog.cellsOf 34 = 4 := by kernel_rfl
    rw [hca] at hel
    have hsz : len * 32 ≤ 140737488351232 := by
      have h1 := hw ((((List.range len).map D).length + ((List.range (m - len)).map fun j => D (len + j)).length) * Try.prog.bytesOf 34) (by
        rw [hx]
        simp [DataW.weights, hu])
      rw [show Try.prog.bytesOf 34 = 32 from by kernel_rfl, show reachBytes = 140737488351232 from rfl] at h1
      simp only [List.length_map, List.length_range] at h1
      exact Nat.le_trans (Nat.mul_le_mul_right _ (Nat.le_add_right _ _)) h1
    have hone : ∀ i, i < len → ∃ z : S34, ∀ j u, (cellsX z)[j]? = some u → W.cell? ((q.add (i * 4)).add j) = some u := fun i hi => by
      obtain ⟨cs, h1, h2⟩ := hel i (by omega)
      obtain ⟨z, hz, _⟩ := open_item h2
      obtain ⟨_, _, hc⟩ := World.cells?_some h1
      refine ⟨z, fun j u hu => ?_⟩
      have hjl : j < 4 := by
        have := (List.getElem?_eq_some_iff.1 hu).1
        exact this
      exact (hc j hjl).trans (by rw [hz]; exact hu)
    have : Inhabited S34 := ⟨z34⟩
    obtain ⟨Z, hZ⟩ := choose_lt hone
    refine ⟨(List.range len).map Z, by simp, fun hp => ?_, hl, fun e => (by cases e), hsz⟩
    have hlen : ((List.range len).map Z).length = len := by simp
    rw [hlen] at hp
    have h00 := hZ 0 (by omega) 0 _ rfl
    have hs : q.spot = none := by
      have := spot_none h00
      simpa [Addr.add] using this
    obtain ⟨b, o, sp⟩ := q
    simp only at hs
    subst hs
    refine ⟨b, o, rfl, by have := block_lt_of_cell h00; simpa [Addr.add] using this, fun i hi => ?_⟩
    rw [hlen] at hi
    have hc := hZ i hi
    have e : atX ((List.range len).map Z) i = Z i := by unfold atX; simp [List.getD_eq_getElem?_getD, hi]
    rw [e]
    have ha : ∀ j, ((⟨b, o, none⟩ : Addr).add (i * 4)).add j = ⟨b, o + i * 4 + j, none⟩ := fun j => by rw [add_none, add_none]
    simp only [ha] at hc
    exact ⟨hc 0 _ rfl, hc 1 _ rfl, hc 2 _ rfl, hc 3 _ rfl⟩
theorem open_act {cs : List Value} (h : DataW.trod enc Try.prog W base spare held fuel 69 cs = some x) (hw : ∀ n ∈ x.1.weights Try.prog 69, n ≤ reachBytes) :
    ∃ (a : ActS) (A : Option Addr) (c : Nat), a.items.length ≤ c ∧ RdX W A a.items ∧ (A = none → c = 0) ∧ a.items.length * 32 ≤ 140737488351232 ∧ cs[0]? = some (.int .i64 a.kind) ∧ cs[1]? = some (.slice A a.items.length c) ∧ cs[2]? = some (.int .i64 a.st) ∧ cs[3]? = some (.int .i64 a.en) := by
  obtain ⟨y0, y1, y2, n', hx, hcl, t0, t1, t2⟩ := trod_struct3 Try.underlying69 h
  obtain ⟨z0, e0, _⟩ := open_int t0
  obtain ⟨s0, s1, n2, hx2, hcl2, u0, u1⟩ := trod_struct2b Try.underlying67 t2
  obtain ⟨z2, e2, _⟩ := open_int u0
  obtain ⟨z3, e3, _⟩ := open_int u1
  have hci : Try.prog.cellsOf 3 = 1 := by kernel_rfl
  have hcs : Try.prog.cellsOf 65 = 1 := by kernel_rfl
  have hcp : Try.prog.cellsOf 67 = 2 := by kernel_rfl
  simp only [hci] at e0 e2 e3
  simp only [hcp] at e2 e3
  obtain ⟨A, len, cap, e1⟩ : ∃ A len cap, (cs.drop 1).take (Try.prog.cellsOf 65) = [.slice A len cap] := by
    rcases open_slice Try.underlying65 t1 with ⟨e, _⟩ | ⟨q, l, c, m, n, D, Pl, e, _⟩
    · exact ⟨none, 0, 0, e⟩
    · exact ⟨some q, l, c, e⟩
  have t1' : DataW.trod enc Try.prog W base spare held n' 65 [.slice A len cap] = some y1 := by rw [← e1]; exact t1
  obtain ⟨l, hl, hr, hcap, hnone, hsz⟩ := open_itemsX t1' (fun n hn => hw n (by
    rw [hx]
    have hu := Try.underlying69
    simp only [DataW.weights, hu]
    exact DataW.weights_mem_each (j := 1) (t := 65) (d := y1.1) rfl rfl n hn))
  rw [hcs] at e1
  subst hl
  refine ⟨⟨z0, l, z2, z3⟩, A, cap, hcap, hr, hnone, hsz, one_cell (k := 0) e0, one_cell (k := 1) e1, ?_, ?_⟩
  · have h1 := one_cell (k := 0) e2
    rw [List.getElem?_take, if_pos (by decide), List.getElem?_drop] at h1
    exact h1
  · have h1 := one_cell (k := 1) e3
    rw [List.getElem?_take, if_pos (by decide), List.getElem?_drop] at h1
    exact h1
theorem open_acts {A : Option Addr} {len cap : Nat} (h : DataW.trod enc Try.prog W base spare held fuel 57 [.slice A len cap] = some x) (hw : ∀ n ∈ x.1.weights Try.prog 57, n ≤ reachBytes) :
    ∃ l : List ActS, len = l.length ∧ RdAc W A l ∧ len ≤ cap ∧ len * 48 ≤ 140737488351232 := by
  rcases open_slice Try.underlying57 h with ⟨hcs, _⟩ | ⟨q, l, c, m, n, D, Pl, hcs, _, hl, hm, hme, hx, hel⟩
  · simp at hcs
    obtain ⟨rfl, rfl, rfl⟩ := hcs
    exact ⟨[], rfl, (fun h => absurd h (by simp)), Nat.le_refl _, by simp⟩
  · simp at hcs
    obtain ⟨rfl, rfl, rfl⟩ := hcs
    have hlm : len ≤ m := by rw [hme]; split <;> omega
    have hu := Try.underlying57
    have hca : Try.prog.cellsOf 69 = 4 := by kernel_rfl
    rw [hca] at hel
    have hsz : len * 48 ≤ 140737488351232 := by
      have h1 := hw ((((List.range len).map D).length + ((List.range (m - len)).map fun j => D (len + j)).length) * Try.prog.bytesOf 69) (by
        rw [hx]
        simp [DataW.weights, hu])
      rw [show Try.prog.bytesOf 69 = 48 from by kernel_rfl, show reachBytes = 140737488351232 from rfl] at h1
      simp only [List.length_map, List.length_range] at h1
      exact Nat.le_trans (Nat.mul_le_mul_right _ (Nat.le_add_right _ _)) h1
    have hone : ∀ i, i < len → ∃ z : ActS, ∃ (A : Option Addr) (c : Nat), (z.items.length ≤ c ∧ RdX W A z.items ∧ (A = none → c = 0) ∧ z.items.length * 32 ≤ 140737488351232) ∧ W.cell? ((q.add (i * 4)).add 0) = some (.int .i64 z.kind) ∧ W.cell? ((q.add (i * 4)).add 1) = some (.slice A z.items.length c) ∧ W.cell? ((q.add (i * 4)).add 2) = some (.int .i64 z.st) ∧ W.cell? ((q.add (i * 4)).add 3) = some (.int .i64 z.en) := fun i hi => by
      obtain ⟨cs, h1, h2⟩ := hel i (by omega)
      obtain ⟨z, A, c, k1, k2, k3, k4, j0, j1, j2, j3⟩ := open_act h2 (fun n hn => hw n (by
        rw [hx]
        simp only [DataW.weights, hu, List.mem_cons, List.mem_append]
        refine .inr (.inl (weightsAll_mem (d := D i) ?_ n hn))
        exact List.mem_map.2 ⟨i, List.mem_range.2 hi, rfl⟩))
      obtain ⟨_, _, hc⟩ := World.cells?_some h1
      exact ⟨z, A, c, ⟨k1, k2, k3, k4⟩, (hc 0 (by decide)).trans j0, (hc 1 (by decide)).trans j1, (hc 2 (by decide)).trans j2, (hc 3 (by decide)).trans j3⟩
    have : Inhabited ActS := ⟨zAct⟩
    obtain ⟨Z, hZ⟩ := choose_lt hone
    refine ⟨(List.range len).map Z, by simp, fun hp => ?_, hl, hsz⟩
    have hlen : ((List.range len).map Z).length = len := by simp
    rw [hlen] at hp
    obtain ⟨_, _, _, h00, _⟩ := hZ 0 (by omega)
    have hs : q.spot = none := by
      have := spot_none h00
      simpa [Addr.add] using this
    obtain ⟨b, o, sp⟩ := q
    simp only at hs
    subst hs
    refine ⟨b, o, rfl, by have := block_lt_of_cell h00; simpa [Addr.add] using this, fun i hi => ?_⟩
    rw [hlen] at hi
    obtain ⟨Ai, ci, ⟨k1, k2, k3, k4⟩, j0, j1, j2, j3⟩ := hZ i hi
    have e : ((List.range len).map Z).getD i zAct = Z i := by simp [List.getD_eq_getElem?_getD, hi]
    rw [e]
    have ha : ∀ j, ((⟨b, o, none⟩ : Addr).add (i * 4)).add j = ⟨b, o + i * 4 + j, none⟩ := fun j => by rw [add_none, add_none]
    rw [ha] at j0 j1 j2 j3
    exact ⟨Ai, ci, j0, j1, j2, j3, k1, k2, k3, k4⟩
end
theorem trees_walk (A : Option Addr) (bs : List Int) (c : Nat) (A2 : Option Addr) (acts : List ActS) (c2 : Nat) (w : World) (hA : RdI w A bs) (hc : bs.length ≤ c) (hb : bs.length * 8 ≤ 140737488351232) (hX : RdAc w A2 acts) (hc2 : acts.length ≤ c2) (hx : acts.length * 48 ≤ 140737488351232) :
    Calls Try.prog 6 #[.slice A bs.length c, .slice A2 acts.length c2] w fun e w' => e = .returned (.bool true) ∧ Below w.heap.size w w' := trees_any A bs c A2 acts c2 w hA hc (by omega) hX hc2 (by omega)
end Go.Proofs.Ytfgabafbcephaaa.My
