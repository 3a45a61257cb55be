/- The reference's heap: its Push. No statement of the seed is proved here. -/
import Derived.Test.YtcleljmbdiddeaaHeapRefS
namespace Go.Proofs.Ytcleljmbdiddeaa
open Go.RowKit HP PHeaps

theorem ref_may_f (x : It) : bourneref1_ItemMay.f x.s x.t x.q x.v = some (may x) := by
  unfold bourneref1_ItemMay.f bourneref1_within.f may
  have e : wrap64 (-1099511627776) = -1099511627776 := by unfold wrap64; rfl
  simp only [e]
  by_cases h1 : x.s ≥ 0 <;> by_cases h2 : x.s ≤ 1048575 <;> by_cases h3 : x.t ≥ -1099511627776 <;> by_cases h4 : x.t ≤ 1099511627776 <;> by_cases h5 : x.q ≥ 1 <;> by_cases h6 : x.q ≤ 1073741823 <;> by_cases h7 : x.v ≥ -1099511627776 <;> by_cases h8 : x.v ≤ 1099511627776 <;> simp [h1, h2, h3, h4, h5, h6, h7, h8] <;> omega
theorem ref_may (x : It) (w : World) :
    Calls Try.prog 36 #[.agg #[.int .i64 x.s, .int .i64 x.t, .int .i64 x.q, .int .i64 x.v]] w fun e w' => e = .returned (.bool (may x)) ∧ Below w.heap.size w w' :=
  bourneref1_ItemMay.calls x.s x.t x.q x.v _ w (ref_may_f x)

theorem row_rdA {w : World} {A : Option Addr} {c : Nat} {ys : List It} (h : w.ownsRow 0 34 4 (.slice A ys.length c) ys.length (flat ys)) : Rd w A ys ∧ ys.length ≤ c ∧ (A = none → c = 0) := by
  rcases h.2 with ⟨e, h0⟩ | ⟨b, cap, cur, e, -, -, h1, -⟩
  · injection e with e1 _ e2
    exact ⟨fun hp => by omega, by omega, fun _ => e2⟩
  · injection e with e1 _ e2
    subst e1 e2
    exact ⟨row_rd h, h1, fun e => by cases e⟩

def rpushAll (ys zs : List It) : List It := zs.foldl HP.insert ys
theorem rpushAll_snoc (ys zs : List It) (z : It) : rpushAll ys (zs ++ [z]) = HP.insert (rpushAll ys zs) z := by simp [rpushAll]
theorem rpushAll_length (ys zs : List It) : (rpushAll ys zs).length = ys.length + zs.length := by
  induction zs generalizing ys with
  | nil => rfl
  | cons z r ih =>
    have h : rpushAll ys (z :: r) = rpushAll (HP.insert ys z) r := rfl
    have h2 := (insert_perm ys z).length_eq
    rw [h, ih, h2]
    simp only [List.length_cons]
    omega
def rpushRes (most : Int) (ys zs : List It) : Int × List It :=
  if bad zs = true then (1500, ys) else if most < ys.length + zs.length then (1501, ys) else (0, rpushAll ys zs)

set_option maxHeartbeats 4000000 in
set_option maxRecDepth 100000 in
theorem ref_push (g : Nat) (v : Value) (most : Int) (ys zs : List It) (A : Option Addr) (c : Nat) (w : World) (h : RefAt w g v most ys) (hA : Rd w A zs) (hAF : 0 < zs.length → ∀ b o, A = some ⟨b, o, none⟩ → ¬ own g v b)
    (hm0 : 0 ≤ most) (hm : most ≤ 8192) (hy : ys.length ≤ 8192) (hz : zs.length ≤ 4398046511104) :
    Calls Try.prog 24 #[.pointer (some ⟨g, 0, none⟩), .slice A zs.length c] w fun e w' => e = .returned (.int .i64 (rpushRes most ys zs).1) ∧ ∃ v', RefAt w' g v' most (rpushRes most ys zs).2 ∧ Step g v w v' w' := by
  have H1 := Lib.hid h
  have HA := Lib.hid hA
  have HAF := Lib.hid hAF
  clear h hA hAF
  go_enter Try.func24, Try.ntmps24
  go_wp2_with fail
  go_loopw [5] (fun i wr => ∃ k : Nat, i = .int .i64 k ∧ k ≤ zs.length ∧ Below w.heap.size w wr ∧ Rel (∀ j, j < k → may (at_ zs j) = true)) (fun i _ => zs.length - (intOf i).toNat)
  case atStart => exact ⟨0, rfl, Nat.zero_le _, Below.refl _ _, fun j hj => absurd hj (by omega)⟩
  case round =>
    obtain ⟨k, rfl, hk, hb, hmay⟩ := hrel
    have HB := Lib.hid hb
    have HM := Lib.hid hmay
    clear hb hmay
    by_cases hlt : k < zs.length
    · obtain ⟨b, o, rfl, hbs, hcells⟩ := HA.out (by omega)
      obtain ⟨a0, a1, a2, a3⟩ := hcells k hlt
      have hsz := HB.out.size
      have e0 := (HB.out.cell (p := ⟨b, o + k * 4, none⟩) hbs).trans a0
      have e1 := (HB.out.cell (p := ⟨b, o + k * 4 + 1, none⟩) hbs).trans a1
      have e2 := (HB.out.cell (p := ⟨b, o + k * 4 + 2, none⟩) hbs).trans a2
      have e3 := (HB.out.cell (p := ⟨b, o + k * 4 + 3, none⟩) hbs).trans a3
      clear hcells a0 a1 a2 a3
      go_wp2_with fail
      refine (ref_may (at_ zs k) _).mono ?_
      rintro e w1 ⟨rfl, hb1⟩
      have HB1 := Lib.hid (HB.out.trans (hb1.mono hsz))
      clear hb1 e0 e1 e2 e3
      cases hmk : may (at_ zs k) with
      | true =>
        have HK := Lib.hid hmk
        clear hmk
        go_wp2_with fail
        refine ⟨⟨k + 1, by go_num, by omega, HB1.out, fun j hj => ?_⟩, by simp [intOf]; omega⟩
        by_cases hjk : j = k
        · rw [hjk]; exact HK.out
        · exact HM.out j (by omega)
      | false =>
        have hbad : bad zs = true := by
          unfold bad
          rw [Bool.not_eq_true', List.all_eq_false]
          exact ⟨at_ zs k, by rw [at_eq hlt]; exact List.getElem_mem hlt, by rw [hmk]; simp⟩
        have HK := Lib.hid hbad
        clear hmk hbad
        go_wp2_with fail
        go_ret
        unfold rpushRes
        rw [if_pos HK.out]
        exact ⟨rfl, v, H1.out.below HB1.out, Step.quiet HB1.out⟩
    · obtain rfl : k = zs.length := by omega
      have hnb : bad zs = false := by
        unfold bad
        rw [Bool.not_eq_false', List.all_eq_true]
        intro x hx
        obtain ⟨i, hi, e⟩ := List.mem_iff_getElem.1 hx
        rw [← e, ← at_eq hi]
        exact HM.out i hi
      have HNB := Lib.hid hnb
      have hh := H1.out.below HB.out
      obtain ⟨A1, c1, hv⟩ := hh.any
      have h0 : wr.cell? ⟨g, 0, none⟩ = some (.int .i64 most) := (blk_cell hh.head 0).trans rfl
      have h1 : wr.cell? ⟨g, 1, none⟩ = some (.slice A1 ys.length c1) := by rw [← hv]; exact (blk_cell hh.head 1).trans rfl
      have hg := blk_lt hh.head
      clear hv hh hnb
      by_cases hov : most < (ys.length : Int) + zs.length
      · have hd : decide (most - ys.length < (zs.length : Int)) = true := decide_eq_true (by omega)
        go_wp2_with fail
        refine Txt.wp_region_text (by kernel_rfl) (by kernel_rfl) ?_
        repeat (first
          | (refine Txt.text_p (by rfl) rfl (fun K hK => ?_); go_big_quiet_op; refine hK _ ?_; clear hK K)
          | (refine Txt.text_r (by rfl) rfl (fun K hK => ?_); go_big_quiet_op; refine hK _ ?_; clear hK K)
          | (refine Txt.text_pass (by rfl) (by rfl) ?_; simp only [List.set_cons_succ, List.set_cons_zero]))
        refine Txt.text_nil ?_
        go_wp2_with fail
        go_ret
        unfold rpushRes
        rw [if_neg (by rw [HNB.out]; decide), if_pos hov]
        exact ⟨rfl, v, H1.out.below HB.out.drew, Step.quiet HB.out.drew⟩
      · have hd : decide (most - ys.length < (zs.length : Int)) = false := decide_eq_false (by omega)
        go_wp2_with fail
        refine Txt.wp_region_text (by kernel_rfl) (by kernel_rfl) ?_
        repeat (first
          | (refine Txt.text_p (by rfl) rfl (fun K hK => ?_); go_big_quiet_op; refine hK _ ?_; clear hK K)
          | (refine Txt.text_r (by rfl) rfl (fun K hK => ?_); go_big_quiet_op; refine hK _ ?_; clear hK K)
          | (refine Txt.text_pass (by rfl) (by rfl) ?_; simp only [List.set_cons_succ, List.set_cons_zero]))
        refine Txt.text_nil ?_
        go_wp2_with fail
        have HB0 := Lib.hid HB.out.drew
        clear h0 h1 hg hd
        generalize wr.drew = wd at *
        go_loopw [6] (fun i wx => ∃ k : Nat, i = .int .i64 k ∧ k ≤ zs.length ∧ ∃ v', RefAt wx g v' most (rpushAll ys (zs.take k)) ∧ Step g v w v' wx) (fun i _ => zs.length - (intOf i).toNat)
        case atStart => exact ⟨0, rfl, Nat.zero_le _, v, H1.out.below HB0.out, Step.quiet HB0.out⟩
        case round =>
          obtain ⟨k, rfl, hk, v1, hh, hst⟩ := hrel
          have H2 := Lib.hid hh
          have HS := Lib.hid hst
          clear hst
          by_cases hlt : k < zs.length
          · obtain ⟨b, o, rfl, hbs, hcells⟩ := HA.out (by omega)
            obtain ⟨a0, a1, a2, a3⟩ := hcells k hlt
            have hnb := HAF.out (by omega) b o rfl
            have e0 := HS.out.chg.cell a0 hnb
            have e1 := HS.out.chg.cell a1 hnb
            have e2 := HS.out.chg.cell a2 hnb
            have e3 := HS.out.chg.cell a3 hnb
            have hsz := HS.out.chg.size
            clear hcells a0 a1 a2 a3
            have hlen : (rpushAll ys (zs.take k)).length = ys.length + k := by rw [rpushAll_length, List.length_take]; omega
            obtain ⟨A1, cp, rfl⟩ := hh.any
            have c1 := (blk_cell hh.head 1).trans rfl
            have hg := blk_lt hh.head
            clear hh
            go_wp2_with fail
            refine Txt.wp_region_text (by kernel_rfl) (by kernel_rfl) ?_
            repeat (first
              | (refine Txt.text_p (by rfl) rfl (fun K hK => ?_); go_big_quiet_op; refine hK _ ?_; clear hK K)
              | (refine Txt.text_r (by rfl) rfl (fun K hK => ?_); go_big_quiet_op; refine hK _ ?_; clear hK K)
              | (refine Txt.text_pass (by rfl) (by rfl) ?_; simp only [List.set_cons_succ, List.set_cons_zero]))
            refine Txt.text_a (by rfl) rfl (fun K hK => ?_)
            go_wp2_with fail
            have hrow := H2.out.row
            obtain ⟨hrd, hrc, hrn⟩ := row_rdA hrow
            have hp := sorted_any A1 cp (rpushAll ys (zs.take k)) (at_ zs k) wr.drew hrd (by rw [hlen]; omega) hrc hrn
            rw [hlen] at hp
            have htk : rpushAll ys (zs.take (k + 1)) = HP.insert (rpushAll ys (zs.take k)) (at_ zs k) := by rw [take_one hlt, rpushAll_snoc]
            clear e0 e1 e2 e3 c1 hg hrow hrd hrc hrn hnb hbs
            refine hp.mono ?_
            rintro e wb ⟨v2, rfl, hrow2, hb, hown2⟩
            rw [← htk] at hrow2
            obtain ⟨A2, c2, rfl⟩ := row_any hrow2
            have hbw := (Below.refl wr.heap.size wr).drew.trans hb
            have hh := (H2.out.below hbw).head
            have c1 := (blk_cell hh 1).trans rfl
            have hf := blk_free hh
            have hg := blk_lt hh
            have hgl := blk_lt H2.out.head
            have HH := Lib.hid hh
            have HROW := Lib.hid hrow2
            have HOWN := Lib.hid hown2
            have HC := Lib.hid (HS.out.chg.below hbw)
            clear hp hh hrow2 hown2 htk hlen H2 hb hbw
            go_wp2_with fail
            repeat (first
              | (refine Txt.text_p (by rfl) rfl (fun K hK => ?_); go_big_quiet_op; refine hK _ ?_; clear hK K)
              | (refine Txt.text_r (by rfl) rfl (fun K hK => ?_); go_big_quiet_op; refine hK _ ?_; clear hK K)
              | (refine Txt.text_pass (by rfl) (by rfl) ?_; simp only [List.set_cons_succ, List.set_cons_zero]))
            refine Txt.text_a (by rfl) rfl (fun K hK => ?_)
            go_wp2_with fail
            refine Txt.text_nil ?_
            go_wp2_with fail
            refine ⟨⟨k + 1, by go_num, by omega, .slice A2 (rpushAll ys (zs.take (k + 1))).length c2, ⟨blk_set HH.out 1 _, row_keep (S := fun j => j = g) HROW.out ((Chg.refl (fun j => j = g) wb).setCell (p := ⟨g, 1, none⟩) (.inl rfl) _) (fun j hj e => ?_)⟩, HC.out.setCell (p := ⟨g, 1, none⟩) (.inl (.inl rfl)) _, fun j hj hn hj' => ?_⟩, by simp [intOf]; omega⟩
            · have := HOWN.out j hj
              have e1 : j = g := e
              have : wr.drew.heap.size = wr.heap.size := rfl
              omega
            · rcases hj' with hj' | hj'
              · exact hn (.inl hj')
              · have := HOWN.out j hj'
                have : wr.drew.heap.size = wr.heap.size := rfl
                omega
          · obtain rfl : k = zs.length := by omega
            have hh := H2.out
            rw [List.take_length] at hh
            have HH := Lib.hid hh
            clear hh
            go_wp2_with fail
            go_ret
            unfold rpushRes
            rw [if_neg (by rw [HNB.out]; decide), if_neg (by omega)]
            exact ⟨rfl, v1, HH.out, HS.out⟩
end Go.Proofs.Ytcleljmbdiddeaa
