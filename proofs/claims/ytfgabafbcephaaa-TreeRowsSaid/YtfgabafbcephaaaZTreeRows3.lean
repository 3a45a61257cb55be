/- Lemmas, contracts of functions and plain laws, part 3: what the row's proof uses. No statement of the seed is proved here. -/
import Derived.Test.YtfgabafbcephaaaZTreeRows2
import Derived.Test.YtfgabafbcephaaaYPaEq0
import Derived.Test.YtfgabafbcephaaaYPaItem19
import Derived.Test.YtfgabafbcephaaaZTreeRows1
import Derived.ChangeKeysEq
import Derived.SizedLaws
import Derived.Lib.SmallJoins
import Derived.Deep.Slices
namespace Go.Proofs.Ytfgabafbcephaaa.My
open Go.RowKit Pa Go.Proofs.YtfgabafbcephaaaW.PrintWords
set_option linter.unusedSimpArgs false
set_option maxHeartbeats 16000000 in
set_option maxRecDepth 100000 in
theorem tins_self {w : World} {g : Nat} {bv : Value} {bs : List Int} {t : PT} {L : List S34} (hT : TI w w (fun i => i ∈ t.blks ∨ i ∈ t.hbs) g bv bs t L) (xs : List S34) (A : Option Addr) (c : Nat) (hr : RdX w A xs) (hl : xs.length ≤ 17592186044415) (hL : L.length ≤ 8192) (h1 : One1 L) (hbm : bmay bs = true)
    (hmay : (imays t.ser xs && decide ((L.length : Int) + xs.length ≤ 8192)) = true) (htw : twi L [] xs = false) (hn : ∀ b o, A = some ⟨b, o, none⟩ → ¬ (b = g ∨ b ∈ t.blks ∨ b ∈ t.hbs)) :
    Calls Try.prog 34 #[.pointer (some ⟨g, 0, none⟩), .slice A xs.length c] w fun e w' => e = .returned (.int .i64 0) ∧ ∃ u, TI w w' (fun i => i ∈ t.blks ∨ i ∈ t.hbs) g bv bs u (insAll L xs) := by
  have HT := Lib.hid hT
  have HR := Lib.hid hr
  have HMY := Lib.hid hmay
  have HTW := Lib.hid htw
  have h12 := (Bool.and_eq_true_iff.1 hmay)
  have hle : L.length + xs.length ≤ 8192 := by have := of_decide_eq_true h12.2; omega
  have HLE := Lib.hid hle
  have hall := imays_all hT.ok h1 h12.1
  have HALL := Lib.hid hall
  obtain ⟨s, hs⟩ := hall
  have HM := Lib.hid (fun x (hx : x ∈ xs) => (hs x (List.mem_append_right _ hx)).1)
  have HS := Lib.hid hs
  have HN := Lib.hid hn
  have HBM := Lib.hid hbm
  clear hT hr hmay h1 hs h12 htw hn hbm
  go_enter Try.func34, Try.ntmps34
  go_wp2_with fail
  refine (tmay_any t L xs A c HT.out.hg HT.out.tr HT.out.ok hL HR.out hl).mono ?_
  rintro e w1 ⟨rfl, hb⟩
  have HB1 := Lib.hid hb
  rw [HMY.out]
  clear hb
  go_wp2_with fail
  refine (twice_any t L xs A c (blk_below HT.out.hg HB1.out) (HT.out.tr.below HB1.out) HT.out.ok HT.out.srt (HR.out.below HB1.out) (by omega) HM.out).mono ?_
  rintro e w2 ⟨rfl, hb⟩
  rw [HTW.out]
  have HB2 := Lib.hid (HB1.out.trans (hb.mono HB1.out.size))
  clear hb
  go_wp2_with fail
  clear hle
  go_loopw [25] (fun i wr => ∃ (k : Nat) (u : PT), i = .int .i64 k ∧ k ≤ xs.length ∧ TI w wr (fun i => i ∈ t.blks ∨ i ∈ t.hbs) g bv bs u (insAll L (xs.take k))) (fun i _ => xs.length - (intOf i).toNat)
  case atStart => exact ⟨0, t, rfl, by omega, HT.out.below HB2.out⟩
  case round =>
    obtain ⟨k, u, rfl, hk, hti⟩ := hrel
    have HI := Lib.hid hti
    clear hti
    by_cases hlt : k < xs.length
    · have hnx := twi_next HTW.out hlt
      have hrx := HR.out.keep HI.out.chg HN.out
      obtain ⟨b, o, hA, hbs, hcells⟩ := hrx (by omega)
      subst hA
      obtain ⟨c0, c1, c2, c3⟩ := hcells k hlt
      unfold atX at c0 c1 c2 c3
      have HTK := Lib.hid (show insAll L (xs.take (k + 1)) = ins (xs.getD k z34) (insAll L (xs.take k)) from by
        rw [← insAll_snoc, List.take_add_one, List.getElem?_eq_getElem hlt, List.getD_eq_getElem?_getD, List.getElem?_eq_getElem hlt]
        rfl)
      have hxm : xs.getD k z34 ∈ xs := by rw [List.getD_eq_getElem?_getD, List.getElem?_eq_getElem hlt]; exact List.getElem_mem hlt
      have hgd : Gd bs s (its bs (ins (xs.getD k z34) (insAll L (xs.take k)))) := gd_of HBM.out (fun y hy => by
        rcases ins_mem.1 hy with rfl | hy
        · exact HS.out _ (List.mem_append_right _ hxm)
        · rcases insAll_mem.1 hy with hy | hy
          · exact HS.out _ (List.mem_append_left _ hy)
          · exact HS.out _ (List.mem_append_right _ (List.mem_of_mem_take hy))) (by
        rw [ins_len, insAll_len, List.length_take]
        have := HLE.out
        omega)
      have hgm : Gd bs s (its bs (insAll L (xs.take k))) := gd_of HBM.out (fun y hy => by
        rcases insAll_mem.1 hy with hy | hy
        · exact HS.out _ (List.mem_append_left _ hy)
        · exact HS.out _ (List.mem_append_right _ (List.mem_of_mem_take hy))) (by
        rw [insAll_len, List.length_take]
        have := HLE.out
        omega)
      have HGD := Lib.hid (And.intro hgd hgm)
      have HNX := Lib.hid hnx
      have HXM := Lib.hid (HM.out _ hxm)
      clear hgd hgm hnx hxm hrx hcells
      generalize xs.getD k z34 = x at *
      generalize insAll L (xs.take k) = M at *
      obtain ⟨A0, d0, rfl, hd0, hrd0⟩ := HI.out.bo.reads
      have HD := Lib.hid (And.intro hd0 hrd0)
      have hal : Below wr.heap.size wr (wr.alloc (itO x)) := (Below.refl wr.heap.size wr).alloc (Nat.le_refl _) _
      have hv : (wr.alloc (itO x)).heap[wr.heap.size]? = some (itO x) := heap_alloc_new wr _
      obtain ⟨a0, a1, a2, a3, al⟩ := itO_facts hv
      have hI2 := HI.out.below hal
      obtain ⟨g0, g1, gl⟩ := tO_facts hI2.hg
      have HV := Lib.hid hv
      have HI1 := Lib.hid hI2
      have HAL := Lib.hid hal
      clear hal hv hI2 hd0 hrd0
      unfold itO at a0 a1 a2 a3 al g0 g1 gl
      go_wp2_with fail
      show Code.wp _ _ _ _ (wr.alloc (itO x))
      have HXB := Lib.hid (Nat.le_trans HI.out.chg.size (Nat.le_refl wr.heap.size))
      have HRD := Lib.hid (RdI.below HD.out.2 HAL.out)
      clear HI HAL c0 c1 c2 c3 a0 a1 a2 a3 al g0 g1 gl
      generalize wr.heap.size = xb at HV HXB ⊢
      generalize wr.alloc (itO x) = w3 at *
      obtain ⟨a0, a1, a2, a3, al⟩ := itO_facts HV.out
      obtain ⟨g0, g1, gl⟩ := tO_facts HI1.out.hg
      refine Txt.wp_region_mix (by kernel_rfl) (by kernel_rfl) (fun HB => ?_)
      repeat (first
        | (refine Txt.mix_p (by rfl) rfl rfl (fun K hK => ?_); go_big_quiet_op; refine hK _ ?_; clear hK K)
        | (refine Txt.mix_re (by rfl) (by decide +kernel) (by rfl) (by rfl) (by go_simp) HB (fun K hK => ?_); go_big_quiet_op; refine hK _ ?_; clear hK K)
        | (refine Txt.mix_rl (by rfl) (by decide +kernel) (by rfl) (by rfl) (by go_simp) HB (fun K hK => ?_); go_big_quiet_op; refine hK _ ?_; clear hK K)
        | (refine Txt.mix_pass (by rfl) (by rfl) ?_; simp only [List.set_cons_succ, List.set_cons_zero]))
      refine Txt.mix_c (by rfl) (by decide +kernel) HB ?_
      intro w4 hw4 K hK
      replace HB := HB.trans hw4
      clear hw4
      go_wp2_with fail
      refine (one_any x bs A0 d0 _ (RdI.below HRD.out HB.undrew) HD.out.1).mono ?_
      rintro e w5 ⟨v, rfl, how, hb⟩
      refine hK _ _ ⟨hb, ?_⟩
      obtain ⟨p, hpe⟩ : ∃ p, p = one x bs := ⟨_, rfl⟩
      rw [show oneRes x bs = (p, 0) from by unfold oneRes; rw [HXM.out, HBM.out, hpe]; rfl] at how ⊢
      have HON := Lib.hid hpe
      have HO := Lib.hid (show Own w5 0 v p.f6 from own_zero how)
      have HOB := Lib.hid (fun k (hk : v.ownBlock = some k) => Nat.le_trans HB.undrew.size (own_base how k hk))
      obtain ⟨A2, c2, rfl, _, _⟩ := how.reads
      replace HB := HB.trans hb
      clear hK K hb how hpe
      simp only [acV]
      repeat (first
        | (refine Txt.mix_p (by rfl) rfl rfl (fun K hK => ?_); go_big_quiet_op; refine hK _ ?_; clear hK K)
        | (refine Txt.mix_re (by rfl) (by decide +kernel) (by rfl) (by rfl) (by go_simp) HB (fun K hK => ?_); go_big_quiet_op; refine hK _ ?_; clear hK K)
        | (refine Txt.mix_rl (by rfl) (by decide +kernel) (by rfl) (by rfl) (by go_simp) HB (fun K hK => ?_); go_big_quiet_op; refine hK _ ?_; clear hK K)
        | (refine Txt.mix_pass (by rfl) (by rfl) ?_; simp only [List.set_cons_succ, List.set_cons_zero]))
      refine Txt.mix_m (fun g => .pointer (some ⟨g, 0, none⟩)) (acO z36 (.slice none 0 0)) (by rfl) (by decide +kernel) (fun w1 => by unfold acO; go_simp; rfl) HB ?_
      intro rb w7 hb7 hg7 ho7
      replace HB := HB.trans hb7
      have HRB := Lib.hid (show w3.heap.size ≤ rb from hg7)
      replace HO := Lib.hid (Own.below HO.out hb7)
      clear hb7 hg7
      simp only [Act.put, List.setIfInBounds_toArray, List.set_cons_succ, List.set_cons_zero]
      repeat (first
        | (refine Txt.mix_p (by rfl) rfl rfl (fun K hK => ?_); go_big_quiet_op; refine hK _ ?_; clear hK K)
        | (refine Txt.mix_re (by rfl) (by decide +kernel) (by rfl) (by rfl) (by go_simp) HB (fun K hK => ?_); go_big_quiet_op; refine hK _ ?_; clear hK K)
        | (refine Txt.mix_rl (by rfl) (by decide +kernel) (by rfl) (by rfl) (by go_simp) HB (fun K hK => ?_); go_big_quiet_op; refine hK _ ?_; clear hK K)
        | (refine Txt.mix_pass (by rfl) (by rfl) ?_; simp only [List.set_cons_succ, List.set_cons_zero]))
      refine Txt.mix_a (by rfl) (by decide +kernel) (fun K hK => ?_)
      obtain ⟨z0, z1, z2, z3, z4, z5, z6, z7, z8, z9, z10, z11, z12, zl⟩ := acO_facts ho7
      have hf := fun j => blk_free ho7 j
      go_wp2_with fail
      clear z0 z1 z2 z3 z4 z5 z6 z7 z8 z9 z10 z11 z12 zl hf
      show Txt.wpMix _ _ _ _ _ _ _ (putA w7 rb p (.slice A2 p.f6.length c2))
      have hch := putA_chg w7 rb p (.slice A2 p.f6.length c2)
      have HP := Lib.hid (putA_blk ho7 (a := p) (v := .slice A2 p.f6.length c2))
      have HB8 := Lib.hid (show Below w3.heap.size w3 (putA w7 rb p (.slice A2 p.f6.length c2)) from Chg.base HB.undrew hch HB.undrew.size (fun i hi => by rw [show i = rb from hi]; exact HRB.out))
      replace HO := Lib.hid (HO.out.keep hch (fun k hk e => row_noq HO.out ho7 (by decide) (by rw [hk, show k = rb from e])))
      clear HB hch ho7
      generalize putA w7 rb p (.slice A2 p.f6.length c2) = w8 at *
      repeat (first
        | (refine Txt.mix_p (by rfl) rfl rfl (fun K hK => ?_); go_big_quiet_op; refine hK _ ?_; clear hK K)
        | (refine Txt.mix_re (by rfl) (by decide +kernel) (by rfl) (by rfl) (by go_simp) HB (fun K hK => ?_); go_big_quiet_op; refine hK _ ?_; clear hK K)
        | (refine Txt.mix_rl (by rfl) (by decide +kernel) (by rfl) (by rfl) (by go_simp) HB (fun K hK => ?_); go_big_quiet_op; refine hK _ ?_; clear hK K)
        | (refine Txt.mix_pass (by rfl) (by rfl) ?_; simp only [List.set_cons_succ, List.set_cons_zero]))
      refine Txt.mix_nil ?_
      have HI8 := Lib.hid (HI1.out.below HB8.out)
      have HV8 := Lib.hid (blk_below HV.out HB8.out)
      have HSW := Lib.hid HI1.out.chg.size
      clear HI1 HV a0 a1 a2 a3 al g0 g1 gl
      obtain ⟨g0, g1, gl⟩ := tO_facts HI8.out.hg
      go_wp2_with fail
      refine (split_any (tells_insert xb x) u M (ahead x M) (behind x M) w8 HI8.out.hg HI8.out.bo HV8.out HI8.out.tr HI8.out.nd HI8.out.ok HGD.out.2 (ins_cut HI8.out.srt) (fun y hy => decide_eq_true (ahead_ok hy).2) (fun y hy => decide_eq_false (behind_ok hy).2)).mono ?_
      rintro e w9 ⟨t1, t2, rfl, hp, k1, k2⟩
      have hxO : ∀ cs, itO x ≠ .cells cs 108 (0, 0) := (tells_insert 0 x).far
      have hg9 := far_obj HI8.out.hg (tO_far _ _) HI8.out.tr hp.chg (fun i hi => hi)
      have hv9 := far_obj HV8.out hxO HI8.out.tr hp.chg (fun i hi => hi)
      have hp9 := far_obj HP.out (fun cs e => by unfold acO at e; injection e with _ e; exact absurd e (by decide)) HI8.out.tr hp.chg (fun i hi => hi)
      have hbo9 := HI8.out.tr.hist HI8.out.bo hp.chg (fun i hi => hi)
      have ho9 := HI8.out.tr.hist HO.out hp.chg (fun i hi => hi)
      have G9 := Lib.hid (And.intro hg9 hbo9)
      have V9 := Lib.hid hv9
      have P9 := Lib.hid hp9
      have O9 := Lib.hid ho9
      have SP := Lib.hid hp
      have KK := Lib.hid (And.intro k1 k2)
      obtain ⟨B1, hB1⟩ := t1.ptr_form
      obtain ⟨B2, hB2⟩ := t2.ptr_form
      have HBB := Lib.hid (And.intro hB1 hB2)
      rw [hB1, hB2]
      clear hp k1 k2 hg9 hv9 hp9 hbo9 ho9 hB1 hB2 g0 g1 gl hxO HO HP HV8
      go_wp2_with fail
      obtain ⟨a0, a1, a2, a3, al⟩ := itO_facts V9.out
      obtain ⟨z0, z1, z2, z3, z4, z5, z6, z7, z8, z9, z10, z11, z12, zl⟩ := acO_facts P9.out
      obtain ⟨g0, g1, gl⟩ := tO_facts G9.out.1
      refine Txt3.wp_region_mix (V := [(10, .a), (11, .a), (13, .a)]) (S := fun _ => False) (by kernel_rfl) (by kernel_rfl) (fun HB => ?_)
      repeat (first
        | (refine Txt3.mix_p (by rfl) rfl (by decide +kernel) (fun K hK => ?_); go_big_quiet_op; refine hK _ ?_; clear hK K)
        | (refine Txt3.mix_re (by rfl) (by decide +kernel) (by rfl) (by rfl) (by go_simp) (by first | exact HS1.out | exact HS2.out | exact id) HB (fun K hK => ?_); go_big_quiet_op; refine hK _ ?_; clear hK K)
        | (refine Txt3.mix_r (by rfl) (by decide) (by decide +kernel) (fun K hK => ?_); go_big_quiet_op; refine hK _ ?_; clear hK K)
        | (refine Txt3.mix_pass (by rfl) (by rfl) ?_; simp only [List.set_cons_succ, List.set_cons_zero]))
      refine Txt3.mix_c (by rfl) (by decide +kernel) HB ?_
      intro w10 hw10 K hK
      have hb10 : Below w9.heap.size w9 w10 := Txt.Bw.undrew hw10
      replace HB := HB.then_ hw10
      clear hw10
      go_wp2_with fail
      refine (lot_any (blk_below V9.out hb10)).mono ?_
      rintro e w11 ⟨q, rfl, q0, q1, hb⟩
      refine hK _ _ ⟨hb, ?_⟩
      have HB11 := Lib.hid (hb10.trans (hb.mono hb10.size))
      have HQ := Lib.hid (And.intro q0 q1)
      replace HB := HB.then_ hb
      clear hK K hb hb10 q0 q1
      repeat (first
        | (refine Txt3.mix_p (by rfl) rfl (by decide +kernel) (fun K hK => ?_); go_big_quiet_op; refine hK _ ?_; clear hK K)
        | (refine Txt3.mix_re (by rfl) (by decide +kernel) (by rfl) (by rfl) (by go_simp) (by first | exact HS1.out | exact HS2.out | exact id) HB (fun K hK => ?_); go_big_quiet_op; refine hK _ ?_; clear hK K)
        | (refine Txt3.mix_r (by rfl) (by decide) (by decide +kernel) (fun K hK => ?_); go_big_quiet_op; refine hK _ ?_; clear hK K)
        | (refine Txt3.mix_pass (by rfl) (by rfl) ?_; simp only [List.set_cons_succ, List.set_cons_zero]))
      refine Txt3.mix_m (fun g => .pointer (some ⟨g, 0, none⟩)) (nO x p (.slice A2 p.f6.length c2) z36 (.slice none 0 0) 0 q (.pointer none) (.pointer none)) (by rfl) (by decide +kernel) (fun w1 => by unfold nO z36 z34; go_simp) HB ?_
      intro pb w12 hb12 hg12 ho12
      have HB12 := Lib.hid (HB11.out.trans (hb12.mono HB11.out.size))
      have HPB := Lib.hid (show w9.heap.size ≤ pb from hg12)
      have N12 := Lib.hid (show TrAt w12 (.node pb x p (.slice A2 p.f6.length c2) z36 (.slice none 0 0) 0 q .nil .nil) from ⟨ho12, Own.below O9.out HB12.out, Own.nil _ _, trivial, trivial⟩)
      clear HB hb12 hg12 ho12 HB11
      simp only [Act.put, List.setIfInBounds_toArray, List.set_cons_succ, List.set_cons_zero]
      repeat (first
        | (refine Txt3.mix_p (by rfl) rfl (by decide +kernel) (fun K hK => ?_); go_big_quiet_op; refine hK _ ?_; clear hK K)
        | (refine Txt3.mix_re (by rfl) (by decide +kernel) (by rfl) (by rfl) (by go_simp) (by first | exact HS1.out | exact HS2.out | exact id) HB (fun K hK => ?_); go_big_quiet_op; refine hK _ ?_; clear hK K)
        | (refine Txt3.mix_r (by rfl) (by decide) (by decide +kernel) (fun K hK => ?_); go_big_quiet_op; refine hK _ ?_; clear hK K)
        | (refine Txt3.mix_pass (by rfl) (by rfl) ?_; simp only [List.set_cons_succ, List.set_cons_zero]))
      refine Txt3.mix_a (by rfl) (by decide +kernel) (fun K hK => ?_)
      go_wp2_with fail
      have hren := renew_any (blk_below G9.out.1 HB12.out) (Own.below G9.out.2 HB12.out) N12.out (by simp [PT.blks]) (by simp [PT.blks]) (by simp [PT.size]) (by simp [PT.size])
      refine hren.mono ?_
      clear hren
      rintro e w13 ⟨av1, rfl, ht13, hav1, hc13⟩
      have hkn : TOk bs (.node pb x p (.slice A2 p.f6.length c2) (allN bs p .nil .nil) av1 (PT.nil.size + 1 + PT.nil.size) q .nil .nil) [x] := by
        have hgx : Gd bs s (its bs ([] ++ x :: [])) := by
          have := HGD.out.1
          unfold ins at this
          exact gd_left (L := [x]) (M := behind x M) (gd_right (L := ahead x M) this)
        refine ⟨[], [], rfl, rfl, rfl, HON.out, ?_, by simp [PT.size], HQ.out.1, HQ.out.2⟩
        rw [HON.out]
        exact allN_ok (l := .nil) (r := .nil) rfl rfl hgx
      have HSZ := Lib.hid (And.intro (show w9.heap.size ≤ w12.heap.size from HB12.out.size) hc13.size)
      have hl1 := SP.out.a1.lt
      have hl2 := SP.out.a2.lt
      have hgl := blk_lt G9.out.1
      have hpb := HPB.out
      have hg13 := hc13.obj (blk_below G9.out.1 HB12.out) (fun e => by have e : g = pb := e; omega)
      have hbo13 := (Own.below G9.out.2 HB12.out).keep hc13 (fun k hk e => by have e : k = pb := e; have := own_lt G9.out.2 k hk; omega)
      have ht1 := (SP.out.a1.below HB12.out).keep hc13 (fun i hi e => by have e : i = pb := e; have := hl1.1 i hi; omega) (fun i hi e => by have e : i = pb := e; have := hl1.2 i hi; omega)
      have ht2 := (SP.out.a2.below HB12.out).keep hc13 (fun i hi e => by have e : i = pb := e; have := hl2.1 i hi; omega) (fun i hi e => by have e : i = pb := e; have := hl2.2 i hi; omega)
      have hn12 : (t1.blks ++ t2.blks).Nodup := SP.out.perm.nodup_iff.2 HI8.out.nd
      have hnp1 : pb ∉ t1.blks := fun hi => by have := hl1.1 pb hi; omega
      have hnp2 : pb ∉ t2.blks := fun hi => by have := hl2.1 pb hi; omega
      have HND := Lib.hid (And.intro hn12 (And.intro hnp1 hnp2))
      have G13 := Lib.hid (And.intro hg13 hbo13)
      have T13 := Lib.hid (And.intro ht1 (And.intro ht2 ht13))
      have HKN := Lib.hid hkn
      have HAV := Lib.hid hav1
      have HC13 := Lib.hid hc13
      clear hl1 hl2 hgl hpb hg13 hbo13 ht1 ht2 hn12 hnp1 hnp2 ht13 hkn hav1 hc13 N12
      obtain ⟨nd, hnd⟩ : ∃ nd : PT, nd = .node pb x p (.slice A2 p.f6.length c2) (allN bs p .nil .nil) av1 (PT.nil.size + 1 + PT.nil.size) q .nil .nil := ⟨_, rfl⟩
      have HNP := Lib.hid (show nd.ptr = .pointer (some ⟨pb, 0, none⟩) ∧ nd.blks = [pb] ∧ nd.hbs = (Value.slice A2 p.f6.length c2).ownBlock.toList ++ av1.ownBlock.toList from by subst hnd; exact ⟨rfl, rfl, by simp [PT.hbs]⟩)
      rw [← hnd] at T13 HKN
      simp only
      refine hK _ _ ?_
      clear hK K hnd
      repeat (first
        | (refine Txt3.mix_p (by rfl) rfl (by decide +kernel) (fun K hK => ?_); go_big_quiet_op; refine hK _ ?_; clear hK K)
        | (refine Txt3.mix_re (by rfl) (by decide +kernel) (by rfl) (by rfl) (by go_simp) (by first | exact HS1.out | exact HS2.out | exact id) HB (fun K hK => ?_); go_big_quiet_op; refine hK _ ?_; clear hK K)
        | (refine Txt3.mix_r (by rfl) (by decide) (by decide +kernel) (fun K hK => ?_); go_big_quiet_op; refine hK _ ?_; clear hK K)
        | (refine Txt3.mix_pass (by rfl) (by rfl) ?_; simp only [List.set_cons_succ, List.set_cons_zero]))
      refine Txt3.mix_a (by rfl) (by decide +kernel) (fun K hK => ?_)
      go_wp2_with fail
      have hm := merge_any (g := g) (bv := .slice A0 bs.length d0) (rv := u.ptr) (bs := bs) (s := s) (t1.cnt + nd.cnt) t1 nd (ahead x M) [x] w13 (Nat.le_refl _) G13.out.1 G13.out.2 T13.out.1 T13.out.2.2 (by
        rw [HNP.out.2.1]
        refine List.nodup_append.2 ⟨(List.nodup_append.1 HND.out.1).1, by simp, fun a ha b hb e => ?_⟩
        rw [List.mem_singleton.1 hb] at e
        exact HND.out.2.1 (e ▸ ha)) KK.out.1 HKN.out (by
        have := HGD.out.1
        unfold ins at this
        exact gd_left (M := behind x M) (by rw [List.append_assoc]; exact this))
      rw [HBB.out.1, HNP.out.1] at hm
      refine hm.mono ?_
      clear hm
      rintro e w14 ⟨t3, rfl, hmg, k3⟩
      have hpp : AllParts w13 (fun k => k ∈ t1.blks ∨ k ∈ nd.blks) := fun i hi => hi.elim (fun h => T13.out.1.kind.1 i h) (fun h => T13.out.2.2.kind.1 i h)
      have hg14 := obj_parts G13.out.1 (tO_far _ _) hmg.chg hpp
      have hbo14 := G13.out.2.parts hmg.chg hpp
      have ht14 := T13.out.2.1.parts hmg.chg hpp (fun i hi hs => hs.elim (fun h => (List.nodup_append.1 HND.out.1).2.2 i h i hi rfl) (fun h => by
        rw [HNP.out.2.1, List.mem_singleton] at h
        exact HND.out.2.2 (h ▸ hi)))
      have hnd14 : (t3.blks ++ t2.blks).Nodup := by
        have h1 : (t3.blks ++ t2.blks).Perm ((t1.blks ++ [pb]) ++ t2.blks) := (HNP.out.2.1 ▸ hmg.perm).append_right _
        refine h1.nodup_iff.2 ?_
        rw [List.append_assoc]
        refine (List.perm_middle (a := pb) (l₁ := t1.blks) (l₂ := t2.blks)).nodup_iff.2 (List.nodup_cons.2 ⟨fun h => ?_, HND.out.1⟩)
        exact (List.mem_append.1 h).elim HND.out.2.1 HND.out.2.2
      have G14 := Lib.hid (And.intro hg14 hbo14)
      have T14 := Lib.hid (And.intro ht14 hnd14)
      have MG := Lib.hid hmg
      have K3 := Lib.hid k3
      obtain ⟨B3, hB3⟩ := t3.ptr_form
      have HB3 := Lib.hid hB3
      rw [hB3]
      clear hpp hg14 hbo14 ht14 hnd14 hmg k3 hB3
      simp only
      refine hK _ _ ?_
      clear hK K
      repeat (first
        | (refine Txt3.mix_p (by rfl) rfl (by decide +kernel) (fun K hK => ?_); go_big_quiet_op; refine hK _ ?_; clear hK K)
        | (refine Txt3.mix_re (by rfl) (by decide +kernel) (by rfl) (by rfl) (by go_simp) (by first | exact HS1.out | exact HS2.out | exact id) HB (fun K hK => ?_); go_big_quiet_op; refine hK _ ?_; clear hK K)
        | (refine Txt3.mix_r (by rfl) (by decide) (by decide +kernel) (fun K hK => ?_); go_big_quiet_op; refine hK _ ?_; clear hK K)
        | (refine Txt3.mix_pass (by rfl) (by rfl) ?_; simp only [List.set_cons_succ, List.set_cons_zero]))
      refine Txt3.mix_a (by rfl) (by decide +kernel) (fun K hK => ?_)
      go_wp2_with fail
      have hm := merge_any (g := g) (bv := .slice A0 bs.length d0) (rv := u.ptr) (bs := bs) (s := s) (t3.cnt + t2.cnt) t3 t2 (ahead x M ++ [x]) (behind x M) w14 (Nat.le_refl _) G14.out.1 G14.out.2 MG.out.a T14.out.1 T14.out.2 K3.out KK.out.2 (by
        have := HGD.out.1
        unfold ins at this
        rw [List.append_assoc]
        exact this)
      rw [HBB.out.2, HB3.out] at hm
      refine hm.mono ?_
      clear hm
      rintro e w15 ⟨t4, rfl, hmg, k4⟩
      have hpp : AllParts w14 (fun k => k ∈ t3.blks ∨ k ∈ t2.blks) := fun i hi => hi.elim (fun h => MG.out.a.kind.1 i h) (fun h => T14.out.1.kind.1 i h)
      have hg15 := obj_parts G14.out.1 (tO_far _ _) hmg.chg hpp
      have hbo15 := G14.out.2.parts hmg.chg hpp
      have G15 := Lib.hid (And.intro hg15 hbo15)
      have MH := Lib.hid hmg
      have K4 := Lib.hid k4
      obtain ⟨B4, hB4⟩ := t4.ptr_form
      have HB4 := Lib.hid hB4
      rw [hB4]
      clear hpp hg15 hbo15 hmg k4 hB4
      simp only
      refine hK _ _ ?_
      clear hK K a0 a1 a2 a3 al z0 z1 z2 z3 z4 z5 z6 z7 z8 z9 z10 z11 z12 zl g0 g1 gl
      repeat (first
        | (refine Txt3.mix_p (by rfl) rfl (by decide +kernel) (fun K hK => ?_); go_big_quiet_op; refine hK _ ?_; clear hK K)
        | (refine Txt3.mix_re (by rfl) (by decide +kernel) (by rfl) (by rfl) (by go_simp) (by first | exact HS1.out | exact HS2.out | exact id) HB (fun K hK => ?_); go_big_quiet_op; refine hK _ ?_; clear hK K)
        | (refine Txt3.mix_r (by rfl) (by decide) (by decide +kernel) (fun K hK => ?_); go_big_quiet_op; refine hK _ ?_; clear hK K)
        | (refine Txt3.mix_pass (by rfl) (by rfl) ?_; simp only [List.set_cons_succ, List.set_cons_zero]))
      refine Txt3.mix_a (by rfl) (by decide +kernel) (fun K hK => ?_)
      obtain ⟨g0, g1, gl⟩ := tO_facts G15.out.1
      have hf := fun j => blk_free G15.out.1 j
      go_wp2_with fail
      clear g0 g1 gl hf
      show Txt3.wpMix _ _ _ _ _ _ _ _ _ (w15.setCell ⟨g, 1, none⟩ (.pointer B4))
      have HC16 := Lib.hid ((Chg.refl (fun k => k = g) w15).setCell (p := ⟨g, 1, none⟩) (.inl rfl) (.pointer B4))
      have HG16 := Lib.hid (show (w15.setCell ⟨g, 1, none⟩ (.pointer B4)).heap[g]? = some (tO (.slice A0 bs.length d0) (.pointer B4)) from by
        have h := blk_set G15.out.1 1 (.pointer B4)
        simp only [List.setIfInBounds_toArray, List.set_cons_zero, List.set_cons_succ] at h
        exact h)
      generalize w15.setCell ⟨g, 1, none⟩ (.pointer B4) = w16 at *
      repeat (first
        | (refine Txt3.mix_p (by rfl) rfl (by decide +kernel) (fun K hK => ?_); go_big_quiet_op; refine hK _ ?_; clear hK K)
        | (refine Txt3.mix_re (by rfl) (by decide +kernel) (by rfl) (by rfl) (by go_simp) (by first | exact HS1.out | exact HS2.out | exact id) HB (fun K hK => ?_); go_big_quiet_op; refine hK _ ?_; clear hK K)
        | (refine Txt3.mix_r (by rfl) (by decide) (by decide +kernel) (fun K hK => ?_); go_big_quiet_op; refine hK _ ?_; clear hK K)
        | (refine Txt3.mix_pass (by rfl) (by rfl) ?_; simp only [List.set_cons_succ, List.set_cons_zero]))
      refine Txt3.mix_nil ?_
      have hti : TI w w16 (fun i => i ∈ t.blks ∨ i ∈ t.hbs) g (.slice A0 bs.length d0) bs t4 (ins x M) := by
        have s0 := HI8.out.chg.size
        have s1 := SP.out.chg.size
        have s2 := HSZ.out.1
        have s3 := HSZ.out.2
        have s4 := MG.out.chg.size
        have s5 := HSW.out
        have s6 := HPB.out
        have hng : g ∉ t4.blks := MH.out.a.none_ G15.out.1 (by decide)
        have hngh : g ∉ t4.hbs := fun hi => by
          obtain ⟨cs, h1⟩ := MH.out.a.kind.2 g hi
          rw [G15.out.1] at h1
          unfold tO at h1
          injection h1 with h1
          injection h1 with _ h1
          exact absurd h1 (by decide)
        have hb3 : ∀ i ∈ t3.blks, i ∈ u.blks ∨ i = pb := fun i hi => by
          rcases List.mem_append.1 (MG.out.perm.mem_iff.1 hi) with h | h
          · exact .inl (SP.out.perm.mem_iff.1 (List.mem_append_left _ h))
          · rw [HNP.out.2.1, List.mem_singleton] at h
            exact .inr h
        have hb4 : ∀ i ∈ t4.blks, i ∈ u.blks ∨ i = pb := fun i hi => by
          rcases List.mem_append.1 (MH.out.perm.mem_iff.1 hi) with h | h
          · exact hb3 i h
          · exact .inl (SP.out.perm.mem_iff.1 (List.mem_append_right _ h))
        have hbh : ∀ i ∈ t4.hbs, i ∈ u.hbs ∨ w.heap.size ≤ i := fun i hi => by
          rcases MH.out.hb i hi with (h | h) | h
          · rcases MG.out.hb i h with (h | h) | h
            · exact (SP.out.hb i (.inl h)).imp id (fun h => by omega)
            · rw [HNP.out.2.2, List.mem_append] at h
              rcases h with h | h
              · have := HOB.out i (by simpa using h)
                exact .inr (by omega)
              · have := HAV.out i (by simpa using h)
                exact .inr (by omega)
            · exact .inr (by omega)
          · exact (SP.out.hb i (.inr h)).imp id (fun h => by omega)
          · exact .inr (by omega)
        have hub : ∀ i, i < w.heap.size → i ∈ u.blks → i = g ∨ i ∈ t.blks ∨ i ∈ t.hbs := fun i hi hu => (HI8.out.fr i (.inl hu)).elim .inr (fun h => absurd hi (by omega))
        refine ⟨by rw [HB4.out]; exact HG16.out, G15.out.2.keep HC16.out (fun k hk e => row_noq G15.out.2 G15.out.1 (by decide) (by rw [hk, show k = g from e])), MH.out.a.keep HC16.out (fun i hi e => hng ((show i = g from e) ▸ hi)) (fun i hi e => hngh ((show i = g from e) ▸ hi)), by
          have := K4.out
          rw [List.append_assoc] at this
          exact this, MH.out.perm.nodup_iff.2 T14.out.2, ins_srt HI8.out.srt HNX.out, fun i hi => ?_, ?_⟩
        · rcases hi with hi | hi
          · rcases hb4 i hi with h | h
            · exact HI8.out.fr i (.inl h)
            · exact .inr (by omega)
          · rcases hbh i hi with h | h
            · exact HI8.out.fr i (.inr h)
            · exact .inr h
        · refine ((((((HI8.out.chg.trans SP.out.chg (fun i hi h => hub i hi h)).below HB12.out).trans HC13.out (fun i hi h => ?_)).trans MG.out.chg (fun i hi h => ?_)).trans MH.out.chg (fun i hi h => ?_)).trans HC16.out (fun i _ h => .inl h))
          · have h : i = pb := h
            omega
          · rcases h with h | h
            · exact hub i hi (SP.out.perm.mem_iff.1 (List.mem_append_left _ h))
            · rw [HNP.out.2.1, List.mem_singleton] at h
              omega
          · rcases h with h | h
            · rcases hb3 i h with h | h
              · exact hub i hi h
              · omega
            · exact hub i hi (SP.out.perm.mem_iff.1 (List.mem_append_right _ h))
      have HTI := Lib.hid hti
      clear hti MG MH K3 K4 HC16 HG16 G15 G14 T14 G13 T13 HC13 HND HNP HAV HKN SP HI8 O9 P9 V9 G9 HB12
      go_wp2_with fail
      exact ⟨⟨k + 1, t4, by go_num, by omega, by rw [HTK.out]; exact HTI.out⟩, by simp [intOf]; omega⟩
    · have ek : k = xs.length := by omega
      have HZ := Lib.hid (show TI w wr (fun i => i ∈ t.blks ∨ i ∈ t.hbs) g bv bs u (insAll L xs) from by
        have := HI.out
        rwa [ek, List.take_length] at this)
      clear HI
      subst ek
      go_wp2_with fail
      go_ret
      exact ⟨rfl, u, HZ.out⟩
end Go.Proofs.Ytfgabafbcephaaa.My

namespace Go.Proofs.Ytfgabafbcephaaa.My
open Go.RowKit Pa Go.Proofs.YtfgabafbcephaaaW.PrintWords
set_option linter.unusedSimpArgs false
theorem info_itm : (Try.prog.info? 34).map (fun i => (i.zero, i.size, i.bytes)) = some (some (.agg #[(.int .i64 0), (.int .i64 0), (.int .i64 0), (.int .i64 0)]), 4, 32) := by kernel_rfl
def OwX (w : World) (base : Nat) (v : Value) (xs : List S34) : Prop := w.ownsRow base 34 4 v xs.length (flatX xs)
theorem OwX.keep {S : Nat → Prop} {w w1 : World} {base : Nat} {v : Value} {xs : List S34} (h : OwX w base v xs) (hc : Chg S w w1) (hn : ∀ k, v.ownBlock = some k → ¬ S k) : OwX w1 base v xs := row_keep h hc hn
theorem OwX.below {w w1 : World} {base : Nat} {v : Value} {xs : List S34} (h : OwX w base v xs) (hb : Below w.heap.size w w1) : OwX w1 base v xs := h.keep (S := fun _ => False) (Chg.of_below hb) (fun _ _ h => h)
structure Lay (w0 w : World) (fb sb : Nat) (v : Value) (xs : List S34) : Prop where
  hf : w.heap[fb]? = some (.cells #[.func (.func 74) #[] #[.pointer (some ⟨fb, 0, none⟩), .pointer (some ⟨sb, 0, none⟩)]] 116)
  hs : w.heap[sb]? = some (.cells #[v] 65)
  ow : OwX w w0.heap.size v xs
  bel : Below w0.heap.size w0 w
  f0 : w0.heap.size ≤ fb
  s0 : w0.heap.size ≤ sb
theorem Lay.below {w0 w w1 : World} {fb sb : Nat} {v : Value} {xs : List S34} (h : Lay w0 w fb sb v xs) (hb : Below w.heap.size w w1) : Lay w0 w1 fb sb v xs :=
  ⟨blk_below h.hf hb, blk_below h.hs hb, h.ow.below hb, h.bel.trans (hb.mono h.bel.size), h.f0, h.s0⟩
set_option maxHeartbeats 16000000 in
set_option maxRecDepth 100000 in
theorem twalk_any {w0 : World} {bs : List Int} {fb sb : Nat} (hcf : ∀ args w, (callFunc 74 args).run Try.prog w = .ok (.enter 74 args) w) : ∀ (t : PT) (S L : List S34) (w : World) (v : Value), TrAt w0 t → TOk bs t L → Lay w0 w fb sb v S → S.length + L.length ≤ 100000 →
    Calls Try.prog 74 #[t.ptr, .pointer (some ⟨fb, 0, none⟩), .pointer (some ⟨sb, 0, none⟩)] w fun e w' => e = .returned (.tuple #[]) ∧ ∃ v', Lay w0 w' fb sb v' (S ++ L) := by
  intro t
  induction t with
  | nil =>
    intro S L w v ht hok hl hn
    have e : L = [] := hok
    subst e
    have HL := Lib.hid hl
    clear ht hok hl hn
    unfold PT.ptr
    go_enter Try.func74, Try.ntmps74
    go_wp2_with fail
    exact bodyPost_end (results_none rfl _ _ _) rfl ⟨rfl, v, by rw [List.append_nil]; exact HL.out⟩
  | node b x o ov a av m q l r ihl ihr =>
    intro S L w v ht hok hl hn
    obtain ⟨L1, L2, rfl, kl, kr, -⟩ := hok
    have HT := Lib.hid ht
    have HL := Lib.hid hl
    have HN := Lib.hid hn
    have HK := Lib.hid (And.intro kl kr)
    have HIL := Lib.hid ihl
    have HIR := Lib.hid ihr
    clear ht hl hn kl kr ihl ihr
    obtain ⟨A1, hA1⟩ := l.ptr_form
    obtain ⟨A2, hA2⟩ := r.ptr_form
    have HA := Lib.hid (And.intro hA1 hA2)
    clear hA1 hA2
    have hb := HL.out.bel.block b (blk_lt HT.out.1) |>.trans HT.out.1
    rw [HA.out.1, HA.out.2] at hb
    obtain ⟨e0, e1, e2, e3, -, -, -, -, -, -, -, -, -, -, -, -, -, -, -, -, -, -, -, -, -, -, -, -, -, -, -, -, e32, e33, el⟩ := nO_facts hb
    have f0 : w.cell? ⟨fb, 0, none⟩ = _ := (blk_cell HL.out.hf 0).trans rfl
    have fl := blk_lt HL.out.hf
    have s0 : w.cell? ⟨sb, 0, none⟩ = some v := (blk_cell HL.out.hs 0).trans rfl
    have sl := blk_lt HL.out.hs
    have HW := Lib.hid hb
    clear hb
    show Calls _ _ #[.pointer (some ⟨b, 0, none⟩), _, _] _ _
    go_enter Try.func74, Try.ntmps74
    go_wp2_with fail
    refine Txt3.wp_region_mix (V := [(5, .a)]) (S := fun _ => False) (by kernel_rfl) (by kernel_rfl) (fun HB => ?_)
    repeat (first
      | (refine Txt3.mix_p (by rfl) rfl (by decide +kernel) (fun K hK => ?_); go_big_quiet_op; refine hK _ ?_; clear hK K)
      | (refine Txt3.mix_re (by rfl) (by decide +kernel) (by rfl) (by rfl) (by go_simp) (by first | exact HS1.out | exact HS2.out | exact id) HB (fun K hK => ?_); go_big_quiet_op; refine hK _ ?_; clear hK K)
      | (refine Txt3.mix_r (by rfl) (by decide) (by decide +kernel) (fun K hK => ?_); go_big_quiet_op; refine hK _ ?_; clear hK K)
      | (refine Txt3.mix_pass (by rfl) (by rfl) ?_; simp only [List.set_cons_succ, List.set_cons_zero]))
    refine Txt3.mix_a (by rfl) (by decide +kernel) (fun K hK => ?_)
    go_wp2_with fail
    have hq := HIL.out S L1 w.drew v HT.out.2.2.2.1 HK.out.1 (HL.out.below (Below.refl _ _).drew) (by
      have := HN.out
      rw [List.length_append] at this
      omega)
    rw [HA.out.1] at hq
    refine hq.mono ?_
    clear hq
    rintro e w1 ⟨rfl, v1, hl⟩
    have L1' := Lib.hid hl
    clear hl HL HW e0 e1 e2 e3 e32 e33 el f0 fl s0 sl
    simp only
    refine hK _ _ ?_
    clear hK K
    repeat (first
      | (refine Txt3.mix_p (by rfl) rfl (by decide +kernel) (fun K hK => ?_); go_big_quiet_op; refine hK _ ?_; clear hK K)
      | (refine Txt3.mix_re (by rfl) (by decide +kernel) (by rfl) (by rfl) (by go_simp) (by first | exact HS1.out | exact HS2.out | exact id) HB (fun K hK => ?_); go_big_quiet_op; refine hK _ ?_; clear hK K)
      | (refine Txt3.mix_r (by rfl) (by decide) (by decide +kernel) (fun K hK => ?_); go_big_quiet_op; refine hK _ ?_; clear hK K)
      | (refine Txt3.mix_pass (by rfl) (by rfl) ?_; simp only [List.set_cons_succ, List.set_cons_zero]))
    refine Txt3.mix_nil ?_
    have hb := L1'.out.bel.block b (blk_lt HT.out.1) |>.trans HT.out.1
    rw [HA.out.1, HA.out.2] at hb
    obtain ⟨e0, e1, e2, e3, -, -, -, -, -, -, -, -, -, -, -, -, -, -, -, -, -, -, -, -, -, -, -, -, -, -, -, -, e32, e33, el⟩ := nO_facts hb
    have f0 : w1.cell? ⟨fb, 0, none⟩ = _ := (blk_cell L1'.out.hf 0).trans rfl
    have fl := blk_lt L1'.out.hf
    have s0 : w1.cell? ⟨sb, 0, none⟩ = some v1 := (blk_cell L1'.out.hs 0).trans rfl
    have sl := blk_lt L1'.out.hs
    have HS1 := Lib.hid (row_noq L1'.out.ow hb (by decide))
    have HS2 := Lib.hid (row_noq L1'.out.ow L1'.out.hs (by decide))
    clear hb
    go_wp2_with fail
    refine Txt2.wp_region_mix (S := fun k => some k = v1.ownBlock) (by kernel_rfl) (by kernel_rfl) (fun HB => ?_)
    repeat (first
      | (refine Txt2.mix_p (by rfl) rfl rfl (fun K hK => ?_); go_big_quiet_op; refine hK _ ?_; clear hK K)
      | (refine Txt2.mix_re (by rfl) (by decide +kernel) (by rfl) (by rfl) (by go_simp) (by first | exact HS1.out | exact HS2.out) HB (fun K hK => ?_); go_big_quiet_op; refine hK _ ?_; clear hK K)
      | (refine Txt2.mix_pass (by rfl) (by rfl) ?_; simp only [List.set_cons_succ, List.set_cons_zero]))
    refine Txt2.mix_m (fun g => .slice (some ⟨g, 0, none⟩) 1 1) (.cells #[.int .i64 x.f0, .int .i64 x.f1, .int .i64 x.f2, .int .i64 x.f3] 34) (by rfl) (by decide +kernel) (fun w1 => by go_simp) HB ?_
    intro pb wb hb2 hg2 ho2
    replace HB := HB.then_ hb2
    have HO2 := Lib.hid ho2
    have LB := Lib.hid (L1'.out.below (Txt.Bw.undrew hb2))
    clear hb2 hg2 ho2
    simp only [Act.put, List.setIfInBounds_toArray, List.set_cons_succ, List.set_cons_zero]
    repeat (first
      | (refine Txt2.mix_p (by rfl) rfl rfl (fun K hK => ?_); go_big_quiet_op; refine hK _ ?_; clear hK K)
      | (refine Txt2.mix_re (by rfl) (by decide +kernel) (by rfl) (by rfl) (by go_simp) (by first | exact HS1.out | exact HS2.out) HB (fun K hK => ?_); go_big_quiet_op; refine hK _ ?_; clear hK K)
      | (refine Txt2.mix_pass (by rfl) (by rfl) ?_; simp only [List.set_cons_succ, List.set_cons_zero]))
    refine Txt2.mix_e (by rfl) (by decide +kernel) HB ?_
    intro wc hwc K hK
    have lc := LB.out.below hwc
    have hvk := fun k hk => own_lt L1'.out.ow k hk
    have hoc := blk_below HO2.out hwc
    have hlen : (S ++ L1).length + 1 ≤ 100000 := by
      have := HN.out
      simp only [List.length_append, List.length_cons] at this ⊢
      omega
    refine wp_append (.tmp 12) (.tmp 17) 65 34 _ 4 32 w0.heap.size rfl Try.underlying65 info_itm rfl (by decide) v1 (S ++ L1).length 1 (flatX (S ++ L1)) (cellsX x) pb 1 rfl rfl lc.ow lc.bel.size rfl ?_ ?_ (by omega) (by omega) ?_
    · intro j u hu
      rw [blk_cell hoc]
      exact (List.getElem?_toArray).trans hu
    · intro u hu
      simp only [cellsX, List.mem_cons, List.not_mem_nil, or_false] at hu
      rcases hu with rfl | rfl | rfl | rfl <;> rfl
    intro v2 wd hown hgr hat
    have hch : Chg (fun k => some k = v1.ownBlock) wc wd := (Chg.refl _ wc).grown hgr (fun k hk => .inl hk.symm)
    have hkx : Txt2.Kx (fun k => some k = v1.ownBlock) w1.drew wc wd := ⟨hch.os, hch.tape, hch.output, hch.size, fun i hi hn => hch.block i hi (fun hs => hn ⟨hs, hvk i hs.symm⟩)⟩
    refine hK _ _ ⟨hkx, ?_⟩
    have hfd := hch.obj lc.hf (row_noq lc.ow lc.hf (by decide))
    have hsd := hch.obj lc.hs (row_noq lc.ow lc.hs (by decide))
    have hbd : Below w0.heap.size w0 wd := Chg.base lc.bel hch lc.bel.size (fun i hi => own_base lc.ow i hi.symm)
    have hod : OwX wd w0.heap.size v2 ((S ++ L1) ++ [x]) := by
      unfold OwX
      rw [flatX_append, flatX_one, List.length_append]
      exact hown
    have WD := Lib.hid (And.intro hfd (And.intro hsd (And.intro hod hbd)))
    have HFS := Lib.hid (And.intro lc.f0 lc.s0)
    obtain ⟨A9, c9, hv9, _⟩ := row_form hown
    clear lc hvk hoc hlen hown hgr hat hch hkx hfd hsd hbd hod hK K hwc LB HO2 HB L1' HS1 HS2 e0 e1 e2 e3 e32 e33 el f0 fl s0 sl
    obtain ⟨n9, hn9⟩ : ∃ n, n = (S ++ L1).length + 1 := ⟨_, rfl⟩
    rw [← hn9] at hv9
    clear hn9
    subst hv9
    obtain ⟨s0, sl⟩ : wd.cell? ⟨sb, 0, none⟩ = some v1 ∧ sb < wd.heap.size := ⟨(blk_cell WD.out.2.1 0).trans rfl, blk_lt WD.out.2.1⟩
    have hfr := fun j => blk_free WD.out.2.1 j
    simp only [Act.put, List.setIfInBounds_toArray, List.set_cons_succ, List.set_cons_zero]
    repeat (first
      | (refine Txt2.mix_p (by rfl) rfl rfl (fun K hK => ?_); go_big_quiet_op; refine hK _ ?_; clear hK K)
      | (refine Txt2.mix_re (by rfl) (by decide +kernel) (by rfl) (by rfl) (by go_simp) (by first | exact HS1.out | exact HS2.out) HB (fun K hK => ?_); go_big_quiet_op; refine hK _ ?_; clear hK K)
      | (refine Txt2.mix_pass (by rfl) (by rfl) ?_; simp only [List.set_cons_succ, List.set_cons_zero]))
    refine Txt2.mix_a (by rfl) (by decide +kernel) (fun K hK => ?_)
    go_wp2_with fail
    clear s0 sl hfr
    show Txt2.wpMix _ _ _ _ _ _ _ _ (wd.setCell ⟨sb, 0, none⟩ (.slice A9 n9 c9))
    have hcx : Chg (fun k => k = sb) wd (wd.setCell ⟨sb, 0, none⟩ (.slice A9 n9 c9)) := (Chg.refl (fun k => k = sb) wd).setCell (p := ⟨sb, 0, none⟩) (.inl rfl) (.slice A9 n9 c9)
    have hsx := blk_set WD.out.2.1 0 (.slice A9 n9 c9)
    simp only [List.setIfInBounds_toArray, List.set_cons_zero, List.set_cons_succ] at hsx
    have LX := Lib.hid (show Lay w0 (wd.setCell ⟨sb, 0, none⟩ (.slice A9 n9 c9)) fb sb (.slice A9 n9 c9) ((S ++ L1) ++ [x]) from ⟨hcx.obj WD.out.1 (fun e => by
        have h1 := WD.out.1
        rw [show fb = sb from e, WD.out.2.1] at h1
        injection h1 with h1
        injection h1 with _ h1
        exact absurd h1 (by decide)), hsx, WD.out.2.2.1.keep hcx (fun k hk e => row_noq WD.out.2.2.1 WD.out.2.1 (by decide) (by rw [hk, show k = sb from e])), Chg.base WD.out.2.2.2 hcx WD.out.2.2.2.size (fun i hi => by rw [show i = sb from hi]; exact HFS.out.2), HFS.out.1, HFS.out.2⟩)
    clear hcx hsx WD
    generalize wd.setCell ⟨sb, 0, none⟩ (.slice A9 n9 c9) = w4 at *
    repeat (first
      | (refine Txt2.mix_p (by rfl) rfl rfl (fun K hK => ?_); go_big_quiet_op; refine hK _ ?_; clear hK K)
      | (refine Txt2.mix_re (by rfl) (by decide +kernel) (by rfl) (by rfl) (by go_simp) (by first | exact HS1.out | exact HS2.out) HB (fun K hK => ?_); go_big_quiet_op; refine hK _ ?_; clear hK K)
      | (refine Txt2.mix_pass (by rfl) (by rfl) ?_; simp only [List.set_cons_succ, List.set_cons_zero]))
    refine Txt2.mix_nil ?_
    have hb := LX.out.bel.block b (blk_lt HT.out.1) |>.trans HT.out.1
    rw [HA.out.1, HA.out.2] at hb
    obtain ⟨-, -, -, -, -, -, -, -, -, -, -, -, -, -, -, -, -, -, -, -, -, -, -, -, -, -, -, -, -, -, -, -, e32, e33, el⟩ := nO_facts hb
    have f0 : w4.cell? ⟨fb, 0, none⟩ = _ := (blk_cell LX.out.hf 0).trans rfl
    have fl := blk_lt LX.out.hf
    clear hb
    go_wp2_with fail
    refine Txt3.wp_region_mix (V := [(5, .a)]) (S := fun _ => False) (by kernel_rfl) (by kernel_rfl) (fun HB => ?_)
    repeat (first
      | (refine Txt3.mix_p (by rfl) rfl (by decide +kernel) (fun K hK => ?_); go_big_quiet_op; refine hK _ ?_; clear hK K)
      | (refine Txt3.mix_re (by rfl) (by decide +kernel) (by rfl) (by rfl) (by go_simp) (by first | exact HS1.out | exact HS2.out | exact id) HB (fun K hK => ?_); go_big_quiet_op; refine hK _ ?_; clear hK K)
      | (refine Txt3.mix_r (by rfl) (by decide) (by decide +kernel) (fun K hK => ?_); go_big_quiet_op; refine hK _ ?_; clear hK K)
      | (refine Txt3.mix_pass (by rfl) (by rfl) ?_; simp only [List.set_cons_succ, List.set_cons_zero]))
    refine Txt3.mix_a (by rfl) (by decide +kernel) (fun K hK => ?_)
    go_wp2_with fail
    have hq := HIR.out ((S ++ L1) ++ [x]) L2 w4.drew (.slice A9 n9 c9) HT.out.2.2.2.2 HK.out.2 (LX.out.below (Below.refl _ _).drew) (by
      have := HN.out
      simp only [List.length_append, List.length_cons, List.length_nil] at this ⊢
      omega)
    rw [HA.out.2] at hq
    refine hq.mono ?_
    clear hq
    rintro e w5 ⟨rfl, v3, hl⟩
    have LY := Lib.hid hl
    clear hl LX e32 e33 el f0 fl
    simp only
    refine hK _ _ ?_
    clear hK K
    repeat (first
      | (refine Txt3.mix_p (by rfl) rfl (by decide +kernel) (fun K hK => ?_); go_big_quiet_op; refine hK _ ?_; clear hK K)
      | (refine Txt3.mix_re (by rfl) (by decide +kernel) (by rfl) (by rfl) (by go_simp) (by first | exact HS1.out | exact HS2.out | exact id) HB (fun K hK => ?_); go_big_quiet_op; refine hK _ ?_; clear hK K)
      | (refine Txt3.mix_r (by rfl) (by decide) (by decide +kernel) (fun K hK => ?_); go_big_quiet_op; refine hK _ ?_; clear hK K)
      | (refine Txt3.mix_pass (by rfl) (by rfl) ?_; simp only [List.set_cons_succ, List.set_cons_zero]))
    refine Txt3.mix_nil ?_
    go_wp2_with fail
    refine bodyPost_end (results_none rfl _ _ _) rfl ⟨rfl, v3, ?_⟩
    have := LY.out
    simp only [List.append_assoc, List.cons_append, List.nil_append] at this
    exact this
theorem run_store_fn {P : Program} {w : World} {a : Addr} {m : Mode} (fn : Fn) (first captured : Array Value) : (store a (.func fn first captured) m).run P w = stored P w a (.func fn first captured) m := run_store P w a _ m rfl
attribute [local go_sem] run_store_fn
set_option maxHeartbeats 16000000 in
set_option maxRecDepth 100000 in
theorem titems_any {w : World} {g : Nat} {bv : Value} {bs : List Int} (t : PT) (L : List S34) (hg : w.heap[g]? = some (tO bv t.ptr)) (h : TrAt w t) (k : TOk bs t L) (hl : L.length ≤ 8192) :
    Calls Try.prog 42 #[.pointer (some ⟨g, 0, none⟩)] w fun e w' => ∃ v, e = .returned v ∧ OwX w' w.heap.size v L ∧ Below w.heap.size w w' := by
  have HG := Lib.hid hg
  have HT := Lib.hid h
  have HK := Lib.hid k
  have hcf : ∀ args w, (callFunc 74 args).run Try.prog w = .ok (.enter 74 args) w := fun args w => by go_simp
  have HCF := Lib.hid hcf
  clear hg h k hcf
  go_enter Try.func42, Try.ntmps42
  go_wp2_with fail
  have hlay : Lay w ((w.alloc (.cells #[.slice none 0 0] 65)).alloc (.cells #[.func (.func 74) #[] #[.pointer (some ⟨w.heap.size + 1, 0, none⟩), .pointer (some ⟨w.heap.size, 0, none⟩)]] 116)) (w.heap.size + 1) w.heap.size (.slice none 0 0) [] := by
    refine ⟨?_, blk_below (heap_alloc_new w _) ((Below.refl _ _).alloc (Nat.le_refl _) _), World.ownsRow_nil _ _ _ _, ((Below.refl w.heap.size w).alloc (Nat.le_refl _) _).alloc (by simp) _, by omega, Nat.le_refl _⟩
    have := heap_alloc_new (w.alloc (.cells #[.slice none 0 0] 65)) (.cells #[.func (.func 74) #[] #[.pointer (some ⟨w.heap.size + 1, 0, none⟩), .pointer (some ⟨w.heap.size, 0, none⟩)]] 116)
    rw [show (w.alloc (.cells #[.slice none 0 0] 65)).heap.size = w.heap.size + 1 from by simp] at this
    exact this
  have LL := Lib.hid hlay
  clear hlay
  generalize (w.alloc (.cells #[.slice none 0 0] 65)).alloc (.cells #[.func (.func 74) #[] #[.pointer (some ⟨w.heap.size + 1, 0, none⟩), .pointer (some ⟨w.heap.size, 0, none⟩)]] 116) = w2 at *
  obtain ⟨A1, hA1⟩ := t.ptr_form
  have HA := Lib.hid hA1
  have hg2 := LL.out.bel.block g (blk_lt HG.out) |>.trans HG.out
  rw [hA1] at hg2
  obtain ⟨-, g1, gl⟩ := tO_facts hg2
  have f0 : w2.cell? ⟨w.heap.size + 1, 0, none⟩ = _ := (blk_cell LL.out.hf 0).trans rfl
  have fl := blk_lt LL.out.hf
  clear hA1 hg2
  refine Txt3.wp_region_mix (V := [(5, .a)]) (S := fun _ => False) (by kernel_rfl) (by kernel_rfl) (fun HB => ?_)
  repeat (first
    | (refine Txt3.mix_p (by rfl) rfl (by decide +kernel) (fun K hK => ?_); go_big_quiet_op; refine hK _ ?_; clear hK K)
    | (refine Txt3.mix_re (by rfl) (by decide +kernel) (by rfl) (by rfl) (by go_simp) (by first | exact HS1.out | exact HS2.out | exact id) HB (fun K hK => ?_); go_big_quiet_op; refine hK _ ?_; clear hK K)
    | (refine Txt3.mix_r (by rfl) (by decide) (by decide +kernel) (fun K hK => ?_); go_big_quiet_op; refine hK _ ?_; clear hK K)
    | (refine Txt3.mix_pass (by rfl) (by rfl) ?_; simp only [List.set_cons_succ, List.set_cons_zero]))
  refine Txt3.mix_a (by rfl) (by decide +kernel) (fun K hK => ?_)
  go_wp2_with fail
  have hq := twalk_any HCF.out t [] L w2.drew (.slice none 0 0) HT.out HK.out (LL.out.below (Below.refl _ _).drew) (by simp only [List.length_nil]; omega)
  rw [HA.out] at hq
  refine hq.mono ?_
  clear hq
  rintro e w5 ⟨rfl, v3, hl5⟩
  have LY := Lib.hid hl5
  clear hl5 LL g1 gl f0 fl
  simp only
  refine hK _ _ ?_
  clear hK K
  repeat (first
    | (refine Txt3.mix_p (by rfl) rfl (by decide +kernel) (fun K hK => ?_); go_big_quiet_op; refine hK _ ?_; clear hK K)
    | (refine Txt3.mix_re (by rfl) (by decide +kernel) (by rfl) (by rfl) (by go_simp) (by first | exact HS1.out | exact HS2.out | exact id) HB (fun K hK => ?_); go_big_quiet_op; refine hK _ ?_; clear hK K)
    | (refine Txt3.mix_r (by rfl) (by decide) (by decide +kernel) (fun K hK => ?_); go_big_quiet_op; refine hK _ ?_; clear hK K)
    | (refine Txt3.mix_pass (by rfl) (by rfl) ?_; simp only [List.set_cons_succ, List.set_cons_zero]))
  refine Txt3.mix_nil ?_
  have s0 : w5.cell? ⟨w.heap.size, 0, none⟩ = some v3 := (blk_cell LY.out.hs 0).trans rfl
  have sl := blk_lt LY.out.hs
  obtain ⟨A3, c3, rfl, _⟩ := row_form LY.out.ow
  go_wp2_with fail
  go_ret
  exact ⟨_, rfl, LY.out.ow, LY.out.bel⟩
end Go.Proofs.Ytfgabafbcephaaa.My

namespace Go.Proofs.Ytfgabafbcephaaa.My
open Go.RowKit Pa Go.Proofs.YtfgabafbcephaaaW.PrintWords
set_option linter.unusedSimpArgs false
section
attribute [local go_sem high] eqA34
set_option maxHeartbeats 8000000 in
set_option maxRecDepth 100000 in
theorem xsame_any (A B : Option Addr) (c d : Nat) (ys : List S34) (w : World) (hA : RdX w A ys) (hB : RdX w B ys) (hn : ys.length ≤ 4000000000000) :
    Calls Try.prog 43 #[.slice A ys.length c, .slice B ys.length d] w fun e w' => e = .returned (.bool true) ∧ Below w.heap.size w w' := by
  have HA := Lib.hid hA
  have HB := Lib.hid hB
  clear hA hB
  go_enter Try.func43, Try.ntmps43
  go_wp2_with fail
  go_loopw [5] (fun i wr => ∃ k : Nat, i = .int .i64 k ∧ k ≤ ys.length ∧ Below w.heap.size w wr) (fun i _ => ys.length - (intOf i).toNat)
  case atStart => exact ⟨0, rfl, Nat.zero_le _, Below.refl _ _⟩
  case round =>
    obtain ⟨k, rfl, hk, hb⟩ := hrel
    have HL := Lib.hid hb
    clear hb
    by_cases hlt : k < ys.length
    · obtain ⟨b, o, rfl, hbs, hcells⟩ := (HA.out.quiet HL.out) (by omega)
      obtain ⟨a0, a1, a2, a3⟩ := hcells k hlt
      obtain ⟨b2, o2, rfl, hbs2, hcells2⟩ := (HB.out.quiet HL.out) (by omega)
      obtain ⟨b0, b1, b2, b3⟩ := hcells2 k hlt
      clear hcells hcells2
      go_wp2_with fail
      refine Txt.wp_region_text (by kernel_rfl) (by kernel_rfl) ?_
      repeat (first
        | (refine Txt.text_p (by rfl) rfl (fun K hK => ?_); go_big_quiet_op; refine hK _ ?_; clear hK K)
        | (refine Txt.text_r (by rfl) rfl (fun K hK => ?_); go_big_quiet_op; refine hK _ ?_; clear hK K)
        | (refine Txt.text_pass (by rfl) (by rfl) ?_; simp only [List.set_cons_succ, List.set_cons_zero]))
      refine Txt.text_nil ?_
      go_wp2_with fail
      exact ⟨⟨k + 1, by go_num, by omega, HL.out.drew⟩, by simp [intOf]; omega⟩
    · obtain rfl : k = ys.length := by omega
      go_wp2_with fail
      go_ret
      exact ⟨rfl, HL.out⟩
end
theorem OwX.reads {w : World} {base : Nat} {v : Value} {xs : List S34} (h : OwX w base v xs) : ∃ A c, v = .slice A xs.length c ∧ xs.length ≤ c ∧ RdX w A xs := by
  obtain ⟨A, c, rfl, hc⟩ := row_form h
  refine ⟨A, c, rfl, hc, fun hp => ?_⟩
  rcases h.2 with ⟨e1, h0⟩ | ⟨b, cap, cur, e1, -, -, -, -⟩
  · injection e1 with _ e2 _
    omega
  · injection e1 with e2 _ _
    subst e2
    obtain ⟨cur, hcur⟩ : ∃ cur, w.heap[b]? = some (.cells cur 34 (0, 0)) := own_typed h b rfl
    refine ⟨b, 0, rfl, blk_lt hcur, fun i hi => ?_⟩
    obtain ⟨a0, a1, a2, a3⟩ := xrow_get (e := 34) h hi
    rw [Nat.zero_add]
    exact ⟨a0, a1, a2, a3⟩
theorem item19_any (s t q v : Int) (w : World) : Calls Try.prog 44 #[.int .i64 s, .int .i64 t, .int .i64 q, .int .i64 v] w fun e w' => e = .returned (.agg #[.int .i64 s, .int .i64 t, .int .i64 q, .int .i64 v]) ∧ Below w.heap.size w w' :=
  bournelaw19_item.calls s t q v s t q v w rfl
end Go.Proofs.Ytfgabafbcephaaa.My

namespace Go.Proofs.Ytfgabafbcephaaa.My
open Go.RowKit Pa Go.Proofs.YtfgabafbcephaaaW.PrintWords
set_option linter.unusedSimpArgs false
structure TS (w0 w : World) (F : Nat → Prop) (g : Nat) (bs : List Int) (L : List S34) : Prop where
  st : ∃ bv t, w.heap[g]? = some (tO bv t.ptr) ∧ Own w 0 bv bs ∧ TrAt w t ∧ TOk bs t L ∧ t.blks.Nodup ∧ F g ∧ (∀ k, bv.ownBlock = some k → F k) ∧ ∀ i, i ∈ t.blks ∨ i ∈ t.hbs → F i
  srt : Srt L
  one : One1 L
  len : L.length ≤ 8192
  bm : bmay bs = true
  new : ∀ i, F i → w0.heap.size ≤ i ∧ i < w.heap.size
  bel : Below w0.heap.size w0 w
def serL : List S34 → Int
  | [] => -1
  | x :: _ => x.f0
def mayL (L xs : List S34) : Bool := imays (serL L) xs && decide ((L.length : Int) + xs.length ≤ 8192)
theorem ser_eq {bs : List Int} {t : PT} {L : List S34} (k : TOk bs t L) (h : One1 L) : t.ser = serL L := by
  cases t with
  | nil =>
    have e : L = [] := k
    rw [e]
    rfl
  | node b x o ov a av m q l r =>
    obtain ⟨L1, L2, e, -⟩ := k
    obtain ⟨s, hs⟩ := h
    have h1 := (hs x (by rw [e]; simp)).2
    show x.f0 = serL L
    cases L with
    | nil => simp at e
    | cons y r => exact h1.trans (hs y (by simp)).2.symm
theorem One1.gd {bs : List Int} {L : List S34} (h : One1 L) (hb : bmay bs = true) (hl : L.length ≤ 8192) : ∃ s, Gd bs s (its bs L) := by
  obtain ⟨s, hs⟩ := h
  exact ⟨s, gd_of hb hs hl⟩
section
variable {w0 w w1 : World} {F S : Nat → Prop} {g : Nat} {bs : List Int} {L : List S34}
theorem TS.chg (h : TS w0 w F g bs L) (hc : Chg S w w1) (hS : ∀ k, S k → ¬ F k ∧ w0.heap.size ≤ k) : TS w0 w1 F g bs L := by
  obtain ⟨bv, t, h1, h2, h3, h4, h5, h6, h7, h8⟩ := h.st
  exact ⟨⟨bv, t, hc.obj h1 (fun hs => (hS _ hs).1 h6), h2.keep hc (fun k hk hs => (hS _ hs).1 (h7 k hk)), h3.keep hc (fun i hi hs => (hS _ hs).1 (h8 i (.inl hi))) (fun i hi hs => (hS _ hs).1 (h8 i (.inr hi))), h4, h5, h6, h7, h8⟩,
    h.srt, h.one, h.len, h.bm, fun i hi => ⟨(h.new i hi).1, Nat.lt_of_lt_of_le (h.new i hi).2 hc.size⟩, Chg.base h.bel hc h.bel.size (fun i hi => (hS i hi).2)⟩
theorem TS.quiet (h : TS w0 w F g bs L) (hb : Below w.heap.size w w1) : TS w0 w1 F g bs L := h.chg (S := fun _ => False) (Chg.of_below hb) (fun _ h => h.elim)
theorem tsnew_any (bs : List Int) (A : Option Addr) (c : Nat) (hw : Below w0.heap.size w0 w) (hr : RdI w A bs) (hc : bs.length ≤ c) :
    Calls Try.prog 29 #[.slice A bs.length c] w fun e w' =>
      (bmay bs = false ∧ e = .returned (.tuple #[.pointer none, .int .i64 1900]) ∧ Below w.heap.size w w') ∨
      (bmay bs = true ∧ ∃ (g : Nat) (F : Nat → Prop), e = .returned (.tuple #[.pointer (some ⟨g, 0, none⟩), .int .i64 0]) ∧ TS w0 w' F g bs [] ∧ (∀ i, F i → w.heap.size ≤ i) ∧ Below w.heap.size w w') :=
  (tnew_any bs A c w hr hc).mono fun e w' h => by
    rcases h with h | ⟨h0, g, bv, h1, h2, h3, h4, h5⟩
    · exact .inl h
    · have := hw.size
      have hgl := blk_lt h2
      refine .inr ⟨h0, g, fun i => w.heap.size ≤ i ∧ i < w'.heap.size, h1, ⟨⟨bv, .nil, h2, own_zero h3, trivial, rfl, List.nodup_nil, ⟨h4, hgl⟩, fun k hk => ⟨own_base h3 k hk, own_lt h3 k hk⟩, fun i hi => ?_⟩, List.Pairwise.nil, ⟨0, fun x hx => by cases hx⟩, by simp, h0, fun i hi => ⟨by omega, hi.2⟩, hw.trans (h5.mono this)⟩, fun i hi => hi.1, h5⟩
      rcases hi with hi | hi <;> cases hi
theorem tsins_any (h : TS w0 w F g bs L) (xs : List S34) (A : Option Addr) (c : Nat) (hr : RdX w A xs) (hl : xs.length ≤ 17592186044415) (hn : ∀ b o, A = some ⟨b, o, none⟩ → ¬ F b) :
    Calls Try.prog 34 #[.pointer (some ⟨g, 0, none⟩), .slice A xs.length c] w fun e w' =>
      (mayL L xs = false ∧ e = .returned (.int .i64 1900) ∧ Below w.heap.size w w') ∨
      (mayL L xs = true ∧ twi L [] xs = true ∧ e = .returned (.int .i64 1901) ∧ Below w.heap.size w w') ∨
      (mayL L xs = true ∧ twi L [] xs = false ∧ e = .returned (.int .i64 0) ∧ ∃ F', TS w0 w' F' g bs (insAll L xs) ∧ (∀ i, F' i → F i ∨ w.heap.size ≤ i) ∧ Chg F w w') := by
  obtain ⟨bv, t, h1, h2, h3, h4, h5, h6, h7, h8⟩ := h.st
  have hti : TI w w (fun i => i ∈ t.blks ∨ i ∈ t.hbs) g bv bs t L := ⟨h1, h2, h3, h4, h5, h.srt, fun i hi => .inl hi, Chg.refl _ _⟩
  have he : (imays t.ser xs && decide ((L.length : Int) + xs.length ≤ 8192)) = mayL L xs := by unfold mayL; rw [ser_eq h4 h.one]
  by_cases hm : mayL L xs = true
  · by_cases ht : twi L [] xs = true
    · exact (tins_twice hti xs A c hr hl h.len h.one (he.trans hm) ht).mono fun e w' hh => .inr (.inl ⟨hm, ht, hh⟩)
    · have ht : twi L [] xs = false := by simpa using ht
      refine (tins_self hti xs A c hr hl h.len h.one h.bm (he.trans hm) ht (fun b o e hb => hn b o e (by
        rcases hb with rfl | hb | hb
        · exact h6
        · exact h8 _ (.inl hb)
        · exact h8 _ (.inr hb)))).mono fun e w' hh => .inr (.inr ⟨hm, ht, hh.1, ?_⟩)
      obtain ⟨-, u, k⟩ := hh
      have hmm := Bool.and_eq_true_iff.1 (he.trans hm)
      have hle := of_decide_eq_true hmm.2
      have hc : Chg F w w' := k.chg.mono (fun i _ hi => by
        rcases hi with rfl | hi
        · exact h6
        · exact h8 i hi)
      refine ⟨fun i => (F i ∨ w.heap.size ≤ i) ∧ i < w'.heap.size, ⟨⟨bv, u, k.hg, k.bo, k.tr, k.ok, k.nd, ⟨.inl h6, blk_lt k.hg⟩, fun i hi => ⟨.inl (h7 i hi), own_lt k.bo i hi⟩, fun i hi => ⟨?_, ?_⟩⟩, k.srt, ?_, ?_, h.bm, fun i hi => ⟨?_, hi.2⟩, Chg.base h.bel hc h.bel.size (fun i hi => (h.new i hi).1)⟩, fun i hi => hi.1, hc⟩
      · exact (k.fr i hi).imp (fun hh => h8 i hh) id
      · exact hi.elim (fun hh => k.tr.lt.1 i hh) (fun hh => k.tr.lt.2 i hh)
      · exact (imays_all h4 h.one hmm.1).sub (fun x hx => List.mem_append.2 (insAll_mem.1 hx))
      · rw [insAll_len]
        omega
      · have := h.bel.size
        rcases hi.1 with hi | hi
        · exact (h.new i hi).1
        · omega
  · have hm : mayL L xs = false := by simpa using hm
    exact (tins_form hti xs A c hr hl h.len (he.trans hm)).mono fun e w' hh => .inl ⟨hm, hh⟩
theorem tsrange_any (h : TS w0 w F g bs L) (S E : Int) :
    Calls Try.prog 38 #[.pointer (some ⟨g, 0, none⟩), .agg #[.int .i64 S, .int .i64 E]] w fun e w' => ∃ v, e = .returned (acV (joinA bs (its bs (flt S E L))) v) ∧ Own w' w.heap.size v (joinA bs (its bs (flt S E L))).f6 ∧ Below w.heap.size w w' := by
  obtain ⟨bv, t, h1, h2, h3, h4, h5, h6, h7, h8⟩ := h.st
  obtain ⟨s, gd⟩ := h.one.gd h.bm h.len
  exact trange_any t L S E h1 h2 h3 h4 h.srt gd
def low (v : Int) (L : List S34) : List S34 := L.filter (fun y => decide (y.f1 < v))
def hig (v : Int) (L : List S34) : List S34 := L.filter (fun y => !decide (y.f1 < v))
theorem low_cut {v : Int} {L : List S34} (h : Srt L) : L = low v L ++ hig v L := srt_cut (p := fun y => decide (y.f1 < v)) (fun a b hab hb => by
  have := ord_time hab
  have hb := of_decide_eq_true hb
  exact decide_eq_true (by omega)) h
theorem tsevict_any (h : TS w0 w F g bs L) (v : Int) :
    Calls Try.prog 40 #[.pointer (some ⟨g, 0, none⟩), .int .i64 v] w fun e w' => e = .returned (.int .i64 (low v L).length) ∧ ∃ F', TS w0 w' F' g bs (hig v L) ∧ (∀ i, F' i → F i ∨ w.heap.size ≤ i) ∧ Chg F w w' := by
  obtain ⟨bv, t, h1, h2, h3, h4, h5, h6, h7, h8⟩ := h.st
  obtain ⟨s, gd⟩ := h.one.gd h.bm h.len
  refine (tevict_any t L (low v L) (hig v L) v h1 h2 h3 h5 h4 gd (low_cut h.srt) (fun y hy => by have := (List.mem_filter.1 hy).2; exact this) (fun y hy => by have := (List.mem_filter.1 hy).2; simpa using this)).mono fun e w' hh => ?_
  obtain ⟨u, r0, r1, r2, r3, r4, r5, r6, r7⟩ := hh
  have hc : Chg F w w' := r7.mono (fun i _ hi => by
    rcases hi with rfl | hi
    · exact h6
    · exact h8 i (.inl hi))
  refine ⟨r0, fun i => (F i ∨ w.heap.size ≤ i) ∧ i < w'.heap.size, ⟨⟨bv, u, r1, h2.keep r7 (fun k hk hs => ?_), r2, r3, r4, ⟨.inl h6, blk_lt r1⟩, fun i hi => ⟨.inl (h7 i hi), Nat.lt_of_lt_of_le (own_lt h2 i hi) r7.size⟩, fun i hi => ⟨?_, ?_⟩⟩, ?_, h.one.sub (fun x hx => (List.mem_filter.1 hx).1), Nat.le_trans (List.length_filter_le ..) h.len, h.bm, fun i hi => ⟨?_, hi.2⟩, Chg.base h.bel hc h.bel.size (fun i hi => (h.new i hi).1)⟩, fun i hi => hi.1, hc⟩
  · rcases hs with e | hs
    · exact row_noq h2 h1 (by decide) (by rw [hk, e])
    · obtain ⟨cs, h9⟩ := h3.kind.1 k hs
      exact row_noq h2 h9 (by decide) hk.symm
  · rcases hi with hi | hi
    · exact .inl (h8 i (.inl (r5 i hi)))
    · exact (r6 i hi).imp (fun hh => h8 i (.inr hh)) id
  · exact hi.elim (fun hh => r2.lt.1 i hh) (fun hh => r2.lt.2 i hh)
  · have := low_cut (v := v) h.srt ▸ h.srt
    exact srt_right this
  · have := h.bel.size
    rcases hi.1 with hi | hi
    · exact (h.new i hi).1
    · omega
theorem tsitems_any (h : TS w0 w F g bs L) :
    Calls Try.prog 42 #[.pointer (some ⟨g, 0, none⟩)] w fun e w' => ∃ v, e = .returned v ∧ OwX w' w.heap.size v L ∧ Below w.heap.size w w' := by
  obtain ⟨bv, t, h1, h2, h3, h4, h5, h6, h7, h8⟩ := h.st
  exact titems_any t L h1 h3 h4 h.len
end
end Go.Proofs.Ytfgabafbcephaaa.My

namespace Go.Proofs.Ytfgabafbcephaaa.My
open Go.RowKit Pa Go.Proofs.YtfgabafbcephaaaW.PrintWords
set_option linter.unusedSimpArgs false
def y1 : S34 := ⟨0, 5, 1, 2⟩
def y2 : S34 := ⟨0, 3, 2, 4⟩
def y3 : S34 := ⟨0, 5, 3, 8⟩
def yA : S36 := ⟨1, 4, 4, 4, y2, y2, [1]⟩
def yB : S36 := ⟨2, 10, 2, 8, y1, y3, [2]⟩
theorem y_ins : mayL [] [y1, y2, y3] = true ∧ twi [] [] [y1, y2, y3] = false ∧ insAll [] [y1, y2, y3] = [y2, y1, y3] := ⟨by kernel_rfl, by kernel_rfl, by kernel_rfl⟩
theorem y_two : twi [y2, y1, y3] [] [⟨0, 9, 4, 1⟩, ⟨0, 5, 3, 1⟩] = true := by decide +kernel
theorem y_two2 : mayL [y2, y1, y3] [⟨0, 9, 4, 1⟩, ⟨0, 5, 3, 1⟩] = true := by decide +kernel
theorem y_form : mayL [y2, y1, y3] [⟨1, 9, 4, 1⟩] = false := by decide +kernel
theorem y_ra : joinA [] (its [] (flt 3 5 [y2, y1, y3])) = yA := by kernel_rfl
theorem y_rb : joinA [] (its [] (flt 5 6 [y2, y1, y3])) = yB := by kernel_rfl
theorem y_ev : (low 5 [y2, y1, y3]).length = 1 ∧ hig 5 [y2, y1, y3] = [y1, y3] := ⟨by kernel_rfl, by kernel_rfl⟩
theorem two_new (w : World) (a b : Obj) : ((w.alloc a).alloc b).heap[w.heap.size]? = some a ∧ ((w.alloc a).alloc b).heap[w.heap.size + 1]? = some b ∧ Below w.heap.size w ((w.alloc a).alloc b) := by
  refine ⟨blk_below (heap_alloc_new w a) ((Below.refl _ _).alloc (Nat.le_refl _) _), ?_, ((Below.refl w.heap.size w).alloc (Nat.le_refl _) _).alloc (by simp) _⟩
  have := heap_alloc_new (w.alloc a) b
  rw [show (w.alloc a).heap.size = w.heap.size + 1 from by simp] at this
  exact this
set_option maxHeartbeats 16000000 in
set_option maxRecDepth 100000 in
theorem awake19_any (w : World) : Calls Try.prog 31 #[] w fun e w' => e = .returned (.bool true) ∧ Below w.heap.size w w' := by
  go_enter Try.func31, Try.ntmps31
  go_wp2_with fail
  refine (tsnew_any (w0 := w) [] none 0 (Below.refl _ _) (rdI_none _) (by simp)).mono ?_
  rintro e w1 (⟨h, _⟩ | ⟨_, g, F1, rfl, hq, -, -⟩)
  · exact absurd h (by rw [q_new.1]; simp)
  have Q1 := Lib.hid hq
  clear hq
  go_wp2_with fail
  have hb : Below w1.heap.size w1 (w1.alloc (.cells #[.int .i64 2, .int .i64 1] 3)) := (Below.refl w1.heap.size w1).alloc (Nat.le_refl _) _
  have hrb : RdI (w1.alloc (.cells #[.int .i64 2, .int .i64 1] 3)) (some ⟨w1.heap.size, 0, none⟩) [2, 1] := rdI_blk (heap_alloc_new w1 (.cells #[.int .i64 2, .int .i64 1] 3)) (by decide)
  have Q2 := Lib.hid (Q1.out.quiet hb)
  have HR := Lib.hid hrb
  clear hb hrb Q1
  generalize w1.alloc (.cells #[.int .i64 2, .int .i64 1] 3) = w2 at *
  refine (tnew_any [2, 1] (some ⟨w1.heap.size, 0, none⟩) 2 w2 HR.out (by simp)).mono ?_
  rintro e w3 (⟨_, rfl, hb⟩ | ⟨h, _⟩)
  rotate_left 1
  · exact absurd h (by rw [q_new.2]; simp)
  have Q3 := Lib.hid (Q2.out.quiet hb)
  clear hb Q2 HR
  go_wp2_with fail
  refine (num_any _ _).mono ?_
  rintro e w' ⟨rfl, rfl⟩
  go_wp2_with fail
  refine (item19_any 0 5 1 2 _).mono ?_
  rintro e w4 ⟨rfl, hb⟩
  have Q4 := Lib.hid (Q3.out.quiet hb)
  clear hb Q3
  go_wp2_with fail
  refine (item19_any 0 3 2 4 _).mono ?_
  rintro e w5 ⟨rfl, hb⟩
  have Q5 := Lib.hid (Q4.out.quiet hb)
  clear hb Q4
  go_wp2_with fail
  refine (item19_any 0 5 3 8 _).mono ?_
  rintro e w6 ⟨rfl, hb⟩
  have Q6 := Lib.hid (Q5.out.quiet hb)
  clear hb Q5
  go_wp2_with fail
  show Calls _ _ _ (w6.alloc (.cells (flatX [y1, y2, y3] ++ []).toArray 34)) _
  have hal : Below w6.heap.size w6 (w6.alloc (.cells (flatX [y1, y2, y3] ++ []).toArray 34)) := (Below.refl _ _).alloc (Nat.le_refl _) _
  have HX := Lib.hid (rdX_blk (heap_alloc_new w6 (.cells (flatX [y1, y2, y3] ++ []).toArray 34)))
  have HN := Lib.hid (fun h => by have := (Q6.out.new w6.heap.size h).2; omega : ¬ F1 w6.heap.size)
  have Q7 := Lib.hid (Q6.out.quiet hal)
  clear hal Q6
  generalize w6.alloc (.cells (flatX [y1, y2, y3] ++ []).toArray 34) = w7 at *
  generalize w6.heap.size = ab at *
  refine (tsins_any Q7.out [y1, y2, y3] (some ⟨ab, 0, none⟩) 3 HX.out (by decide) (fun b o e hf => HN.out (by injection e with e; injection e with e; exact e ▸ hf))).mono ?_
  rintro e w8 (⟨h, _⟩ | ⟨_, h, _⟩ | ⟨-, -, rfl, F2, hq, -, -⟩)
  · exact absurd h (by rw [y_ins.1]; simp)
  · exact absurd h (by rw [y_ins.2.1]; simp)
  rw [y_ins.2.2] at hq
  have Q8 := Lib.hid hq
  clear hq HX HN Q7
  go_wp2_with fail
  refine (item19_any 0 9 4 1 _).mono ?_
  rintro e w9 ⟨rfl, hb⟩
  have Q9 := Lib.hid (Q8.out.quiet hb)
  clear hb Q8
  go_wp2_with fail
  refine (item19_any 0 5 3 1 _).mono ?_
  rintro e wa ⟨rfl, hb⟩
  have Qa := Lib.hid (Q9.out.quiet hb)
  clear hb Q9
  go_wp2_with fail
  show Calls _ _ _ (wa.alloc (.cells (flatX [⟨0, 9, 4, 1⟩, ⟨0, 5, 3, 1⟩] ++ []).toArray 34)) _
  have hal : Below wa.heap.size wa (wa.alloc (.cells (flatX [⟨0, 9, 4, 1⟩, ⟨0, 5, 3, 1⟩] ++ []).toArray 34)) := (Below.refl _ _).alloc (Nat.le_refl _) _
  have HX := Lib.hid (rdX_blk (heap_alloc_new wa (.cells (flatX [⟨0, 9, 4, 1⟩, ⟨0, 5, 3, 1⟩] ++ []).toArray 34)))
  have HN := Lib.hid (fun h => by have := (Qa.out.new wa.heap.size h).2; omega : ¬ F2 wa.heap.size)
  have Qb := Lib.hid (Qa.out.quiet hal)
  clear hal Qa
  generalize wa.alloc (.cells (flatX [⟨0, 9, 4, 1⟩, ⟨0, 5, 3, 1⟩] ++ []).toArray 34) = wb at *
  generalize wa.heap.size = ac at *
  refine (tsins_any Qb.out [⟨0, 9, 4, 1⟩, ⟨0, 5, 3, 1⟩] (some ⟨ac, 0, none⟩) 2 HX.out (by decide) (fun b o e hf => HN.out (by injection e with e; injection e with e; exact e ▸ hf))).mono ?_
  rintro e wc (⟨h, _⟩ | ⟨-, -, rfl, hb⟩ | ⟨_, h, _⟩)
  · exact absurd h (by rw [y_two2]; simp)
  rotate_left 1
  · exact absurd h (by rw [y_two]; simp)
  have Qc := Lib.hid (Qb.out.quiet hb)
  clear hb HX HN Qb
  go_wp2_with fail
  refine (item19_any 1 9 4 1 _).mono ?_
  rintro e wd ⟨rfl, hb⟩
  have Qd := Lib.hid (Qc.out.quiet hb)
  clear hb Qc
  go_wp2_with fail
  show Calls _ _ _ (wd.alloc (.cells (flatX [⟨1, 9, 4, 1⟩] ++ []).toArray 34)) _
  have hal : Below wd.heap.size wd (wd.alloc (.cells (flatX [⟨1, 9, 4, 1⟩] ++ []).toArray 34)) := (Below.refl _ _).alloc (Nat.le_refl _) _
  have HX := Lib.hid (rdX_blk (heap_alloc_new wd (.cells (flatX [⟨1, 9, 4, 1⟩] ++ []).toArray 34)))
  have HN := Lib.hid (fun h => by have := (Qd.out.new wd.heap.size h).2; omega : ¬ F2 wd.heap.size)
  have Qe := Lib.hid (Qd.out.quiet hal)
  clear hal Qd
  generalize wd.alloc (.cells (flatX [⟨1, 9, 4, 1⟩] ++ []).toArray 34) = we at *
  generalize wd.heap.size = ad at *
  refine (tsins_any Qe.out [⟨1, 9, 4, 1⟩] (some ⟨ad, 0, none⟩) 1 HX.out (by decide) (fun b o e hf => HN.out (by injection e with e; injection e with e; exact e ▸ hf))).mono ?_
  rintro e wf (⟨-, rfl, hb⟩ | ⟨h, _⟩ | ⟨h, _⟩)
  rotate_left 1
  · exact absurd h (by rw [y_form]; simp)
  · exact absurd h (by rw [y_form]; simp)
  have Qf := Lib.hid (Qe.out.quiet hb)
  clear hb HX HN Qe
  go_wp2_with fail
  refine (tsrange_any Qf.out 3 5).mono ?_
  rintro e wg ⟨v, rfl, how, hb⟩
  rw [y_ra] at how ⊢
  obtain ⟨A4, c4, rfl, _, _⟩ := how.reads
  have Qg := Lib.hid (Qf.out.quiet hb)
  clear hb how Qf
  simp only [acV, yA, List.length_cons, List.length_nil, Nat.zero_add, Nat.reduceAdd]
  go_wp2_with fail
  refine (tsrange_any Qg.out 5 6).mono ?_
  rintro e wh ⟨v, rfl, how, hb⟩
  rw [y_rb] at how ⊢
  obtain ⟨A5, c5, rfl, _, _⟩ := how.reads
  have Qh := Lib.hid (Qg.out.quiet hb)
  clear hb how Qg
  simp only [acV, yB, List.length_cons, List.length_nil, Nat.zero_add, Nat.reduceAdd]
  go_wp2_with fail
  show Calls _ _ _ ((wh.alloc (acO yA (.slice A4 1 c4))).alloc (acO yB (.slice A5 1 c5))) _
  obtain ⟨ha, hbb, hal⟩ := two_new wh (acO yA (.slice A4 1 c4)) (acO yB (.slice A5 1 c5))
  have VA := Lib.hid ha
  have VB := Lib.hid hbb
  have NF := Lib.hid (And.intro (fun h => by have := (Qh.out.new wh.heap.size h).2; omega : ¬ F2 wh.heap.size) (fun h => by have := (Qh.out.new (wh.heap.size + 1) h).2; omega : ¬ F2 (wh.heap.size + 1)))
  have Qi := Lib.hid (Qh.out.quiet hal)
  clear ha hbb hal Qh
  generalize (wh.alloc (acO yA (.slice A4 1 c4))).alloc (acO yB (.slice A5 1 c5)) = wi at *
  generalize wh.heap.size + 1 = vb at *
  generalize wh.heap.size = va at *
  refine (tsevict_any Qi.out 5).mono ?_
  rintro e wj ⟨rfl, F3, hq, hF, hc⟩
  rw [y_ev.1]
  rw [y_ev.2] at hq
  have VAj := Lib.hid (hc.obj VA.out NF.out.1)
  have VBj := Lib.hid (hc.obj VB.out NF.out.2)
  have Qj := Lib.hid hq
  clear hq hF hc VA VB NF Qi
  obtain ⟨x0, x1, x2, x3, x4, x5, x6, x7, x8, x9, x10, x11, x12, xl⟩ := acO_facts VAj.out
  obtain ⟨z0, z1, z2, z3, z4, z5, z6, z7, z8, z9, z10, z11, z12, zl⟩ := acO_facts VBj.out
  clear x2 x3 x4 x5 x6 x7 x8 x9 x10 x11 x12 z2 z3 z4 z5 z6 z7 z8 z9 z10 z11 z12
  simp only [yA, yB] at x0 x1 z0 z1
  go_wp2_with fail
  refine (num_any _ _).mono ?_
  rintro e w' ⟨rfl, rfl⟩
  iterate 3 (
    go_wp2_with fail
    refine (num_any _ _).mono ?_
    rintro e w' ⟨rfl, rfl⟩)
  go_wp2_with fail
  refine (tsitems_any Qj.out).mono ?_
  rintro e wk ⟨v, rfl, how, hb⟩
  have Qk := Lib.hid (Qj.out.quiet hb)
  have OX := Lib.hid how
  obtain ⟨A6, c6, rfl, _⟩ := row_form how
  clear hb how Qj x0 x1 z0 z1 xl zl VAj VBj
  go_wp2_with fail
  refine (item19_any 0 5 1 2 _).mono ?_
  rintro e wl ⟨rfl, hb⟩
  have Ql := Lib.hid (Qk.out.quiet hb)
  replace OX := Lib.hid (OX.out.below hb)
  clear hb Qk
  go_wp2_with fail
  refine (item19_any 0 5 3 8 _).mono ?_
  rintro e wm ⟨rfl, hb⟩
  have Qm := Lib.hid (Ql.out.quiet hb)
  replace OX := Lib.hid (OX.out.below hb)
  clear hb Ql
  go_wp2_with fail
  show Calls _ _ _ (wm.alloc (.cells (flatX [y1, y3] ++ []).toArray 34)) _
  have hal : Below wm.heap.size wm (wm.alloc (.cells (flatX [y1, y3] ++ []).toArray 34)) := (Below.refl _ _).alloc (Nat.le_refl _) _
  have HX := Lib.hid (rdX_blk (heap_alloc_new wm (.cells (flatX [y1, y3] ++ []).toArray 34)))
  have Qn := Lib.hid (Qm.out.quiet hal)
  replace OX := Lib.hid (OX.out.below hal)
  clear hal Qm
  generalize wm.alloc (.cells (flatX [y1, y3] ++ []).toArray 34) = wn at *
  generalize wm.heap.size = ae at *
  obtain ⟨A7, c7, he, hc7, hr7⟩ := OX.out.reads
  injection he with he1 he2 he3
  subst he1 he3
  refine (xsame_any A6 (some ⟨ae, 0, none⟩) c6 2 [y1, y3] wn hr7 HX.out (by simp)).mono ?_
  rintro e wo ⟨rfl, hb⟩
  have Qo := Lib.hid (Qn.out.quiet hb)
  clear hb Qn
  go_wp2_with fail
  go_ret
  exact ⟨rfl, Qo.out.bel⟩
end Go.Proofs.Ytfgabafbcephaaa.My

namespace Go.Proofs.Ytfgabafbcephaaa.My
open Go.RowKit Pa Go.Proofs.YtfgabafbcephaaaW.PrintWords
set_option linter.unusedSimpArgs false
theorem imays_yes {s : Int} : ∀ {xs : List S34} {r : Int}, (r < 0 ∨ r = s) → (∀ x ∈ xs, imay x = true ∧ x.f0 = s) → imays r xs = true := by
  intro xs
  induction xs with
  | nil => intro r _ _; rfl
  | cons x xs ih =>
    intro r hr h
    have hx := h x (List.mem_cons_self ..)
    rw [imays, hx.1, ih (.inr hx.2) (fun y hy => h y (List.mem_cons_of_mem _ hy))]
    rcases hr with hr | hr
    · simp [hr]
    · simp [hr, hx.2]
theorem mayL_yes {L xs : List S34} (h : One1 (L ++ xs)) (hl : L.length + xs.length ≤ 8192) : mayL L xs = true := by
  obtain ⟨s, hs⟩ := h
  unfold mayL
  rw [Bool.and_eq_true_iff]
  refine ⟨imays_yes ?_ (fun x hx => hs x (List.mem_append_right _ hx)), decide_eq_true (by omega)⟩
  cases L with
  | nil => exact .inl (by show (-1 : Int) < 0; omega)
  | cons y r => exact .inr (hs y (by simp)).2
theorem seen_no {x : S34} {S : List S34} (h : ∀ y ∈ S, ord y x ≠ 0) : seen x S = false := by
  unfold seen
  refine List.any_eq_false.2 (fun y hy e => h y hy ?_)
  rw [Bool.and_eq_true_iff] at e
  exact ord_zero.2 ⟨by simpa using e.1, by simpa using e.2⟩
theorem twi_yes {L : List S34} : ∀ {xs S : List S34}, xs.Pairwise (fun a b => ord a b ≠ 0) → (∀ x ∈ xs, ∀ y ∈ L, ord x y ≠ 0) → (∀ x ∈ xs, ∀ y ∈ S, ord y x ≠ 0) → twi L S xs = false := by
  intro xs
  induction xs with
  | nil => intro S _ _ _; rfl
  | cons x r ih =>
    intro S hp hL hS
    obtain ⟨p1, p2⟩ := List.pairwise_cons.1 hp
    rw [twi, seen_no (hS x (List.mem_cons_self ..)), hasB_false (hL x (List.mem_cons_self ..)), ih p2 (fun y hy => hL y (List.mem_cons_of_mem _ hy)) (fun y hy z hz => ?_)]
    · rfl
    · rcases List.mem_append.1 hz with hz | hz
      · exact hS y (List.mem_cons_of_mem _ hy) z hz
      · rw [List.mem_singleton.1 hz]
        exact p1 y hy
theorem srt_ext : ∀ {L M : List S34}, Srt L → Srt M → (∀ x, x ∈ L ↔ x ∈ M) → L = M
  | [], [], _, _, _ => rfl
  | [], y :: M, _, _, h => absurd ((h y).2 (List.mem_cons_self ..)) (by simp)
  | x :: L, [], _, _, h => absurd ((h x).1 (List.mem_cons_self ..)) (by simp)
  | x :: L, y :: M, hl, hm, h => by
    obtain ⟨l1, l2⟩ := List.pairwise_cons.1 hl
    obtain ⟨m1, m2⟩ := List.pairwise_cons.1 hm
    have hirr : ∀ a : S34, ¬ ord a a < 0 := fun a ha => by
      have := ord_anti (a := a) (b := a)
      omega
    have hasy : ∀ a b : S34, ord a b < 0 → ord b a < 0 → False := fun a b h1 h2 => by
      have := ord_anti (a := a) (b := b)
      omega
    have e : x = y := by
      rcases List.mem_cons.1 ((h x).1 (List.mem_cons_self ..)) with e | hx
      · exact e
      · rcases List.mem_cons.1 ((h y).2 (List.mem_cons_self ..)) with e | hy
        · exact e.symm
        · exact (hasy x y (l1 y hy) (m1 x hx)).elim
    subst e
    rw [srt_ext l2 m2 (fun z => ⟨fun hz => ?_, fun hz => ?_⟩)]
    · rcases List.mem_cons.1 ((h z).1 (List.mem_cons_of_mem _ hz)) with e | hz2
      · exact absurd (l1 z hz) (by rw [e]; exact hirr x)
      · exact hz2
    · rcases List.mem_cons.1 ((h z).2 (List.mem_cons_of_mem _ hz)) with e | hz2
      · exact absurd (m1 z hz) (by rw [e]; exact hirr x)
      · exact hz2
end Go.Proofs.Ytfgabafbcephaaa.My

namespace Go.Proofs.Ytfgabafbcephaaa.My
open Go.RowKit Pa Go.Proofs.YtfgabafbcephaaaW.PrintWords
set_option linter.unusedSimpArgs false
theorem at_op {ops : Array Oper} {Q : Exit → Act → World → Prop} {o : Oper} {rest : List Oper} {a : Act} {w : World} (op : Op) (_ : o.op = op) (h : AtOp ops Q o rest a w) : wpList Try.prog ops Q (o :: rest) a w := h.out
end Go.Proofs.Ytfgabafbcephaaa.My

namespace Go.Proofs.Ytfgabafbcephaaa.My
open Go.RowKit Pa Go.Proofs.YtfgabafbcephaaaW.PrintWords Go.Proofs.YtfgabafbcephaaaW.PrintMore
set_option linter.unusedSimpArgs false
attribute [local go_sem] max2_int min2_int max_two min_two
end Go.Proofs.Ytfgabafbcephaaa.My

namespace Go.Proofs.Ytfgabafbcephaaa.My
open Go.RowKit Pa Go.Proofs.YtfgabafbcephaaaW.PrintWords Go.Proofs.YtfgabafbcephaaaW.PrintMore
set_option linter.unusedSimpArgs false
attribute [local go_sem] max2_int min2_int max_two min_two
def Made (k : Nat) (xs : List S34) : Prop := xs.length = k ∧ (∀ x ∈ xs, imay x = true ∧ x.f0 = 1 ∧ x.f2 ≤ k) ∧ xs.Pairwise (fun a b => ord a b ≠ 0)
theorem Made.snoc {k : Nat} {xs : List S34} (h : Made k xs) {x : S34} (hx : imay x = true ∧ x.f0 = 1 ∧ x.f2 = k + 1) : Made (k + 1) (xs ++ [x]) := by
  refine ⟨by rw [List.length_append, h.1]; rfl, fun y hy => ?_, List.pairwise_append.2 ⟨h.2.2, by simp, fun a ha b hb e => ?_⟩⟩
  · rcases List.mem_append.1 hy with hy | hy
    · have := h.2.1 y hy
      exact ⟨this.1, this.2.1, by omega⟩
    · rw [List.mem_singleton.1 hy]
      exact ⟨hx.1, hx.2.1, by rw [hx.2.2]; omega⟩
  · rw [List.mem_singleton.1 hb] at e
    have h1 := (ord_zero.1 e).2
    have h2 := (h.2.1 a ha).2.2
    rw [hx.2.2] at h1
    omega
theorem xitm_cells : Try.prog.cellsOf (Try.prog.elem 65) = 4 := by kernel_rfl
theorem xitm_size (w : World) : (sizeOf (Try.prog.elem 65)).run Try.prog w = .ok 4 w := by
  obtain ⟨i, hi, _⟩ := Option.map_eq_some_iff.1 info_itm
  have e : Try.prog.elem 65 = 34 := by kernel_rfl
  have h := run_sizeOf (P := Try.prog) (w := w) (t := Try.prog.elem 65) (i := i) (by rw [e]; exact hi)
  rw [h, xitm_cells]
set_option maxRecDepth 100000 in
theorem xtake_any (A : Option Addr) (n c k : Nat) (hk : k ≤ c) : ∃ A5, (∀ w, (Instr.slice 65 (.slice A n c) none (some (.int .i64 k)) none).run Try.prog w = .ok (.slice A5 k c) w) ∧ (∀ b o, A = some ⟨b, o, none⟩ → A5 = some ⟨b, o, none⟩) ∧ (A = none → A5 = none) := by
  refine ⟨if c = 0 then A else A.map (·.add (0 * 4)), fun w => ?_, fun b o e => ?_, fun e => ?_⟩
  · rw [run_slice_h (P := Try.prog) w 65 A n c Try.underlying65 .i64 k (by omega) (by omega), xitm_size]
    rfl
  · subst e
    split
    · rfl
    · simp [Addr.add]
  · subst e
    split <;> rfl
set_option maxRecDepth 100000 in
theorem xdrop_any (A : Option Addr) (n c k : Nat) (hk : k ≤ n) : ∃ A5, (∀ w, (Instr.slice 65 (.slice A n c) (some (.int .i64 k)) none none).run Try.prog w = .ok (.slice A5 (n - k) (c - k)) w) ∧ (∀ b o, A = some ⟨b, o, none⟩ → ∃ o', A5 = some ⟨b, o', none⟩ ∧ (k < c → o' = o + k * 4)) ∧ (A = none → A5 = none) := by
  refine ⟨if c = k then A else A.map (·.add (k * 4)), fun w => ?_, fun b o e => ?_, fun e => ?_⟩
  · rw [run_slice_l (P := Try.prog) w 65 A n c Try.underlying65 .i64 k (by omega) (by omega), xitm_size]
    rfl
  · subst e
    split
    · exact ⟨o, rfl, fun h => by omega⟩
    · exact ⟨o + k * 4, by simp [Addr.add], fun _ => rfl⟩
  · subst e
    split <;> rfl
theorem RdX.take5 {w : World} {A A5 : Option Addr} {xs : List S34} (h : RdX w A xs) (k : Nat) (he : ∀ b o, A = some ⟨b, o, none⟩ → A5 = some ⟨b, o, none⟩) : RdX w A5 (xs.take k) := fun hp => by
  rw [List.length_take] at hp
  obtain ⟨b, o, e, hb, hc⟩ := h (by omega)
  refine ⟨b, o, he b o e, hb, fun i hi => ?_⟩
  rw [List.length_take] at hi
  rw [atX_take (by omega)]
  exact hc i (by omega)
theorem RdX.drop5 {w : World} {A A5 : Option Addr} {xs : List S34} {c : Nat} (h : RdX w A xs) (k : Nat) (hc : xs.length ≤ c) (he : ∀ b o, A = some ⟨b, o, none⟩ → ∃ o', A5 = some ⟨b, o', none⟩ ∧ (k < c → o' = o + k * 4)) : RdX w A5 (xs.drop k) := fun hp => by
  rw [List.length_drop] at hp
  obtain ⟨b, o, e, hb, hcl⟩ := h (by omega)
  obtain ⟨o', h1, h2⟩ := he b o e
  refine ⟨b, o', h1, hb, fun i hi => ?_⟩
  rw [List.length_drop] at hi
  rw [atX_drop, h2 (by omega), show o + k * 4 + i * 4 = o + (k + i) * 4 by omega]
  exact hcl (k + i) (by omega)
theorem OwX.place {w : World} {base n c : Nat} {A : Option Addr} {xs : List S34} (h : OwX w base (.slice A n c) xs) : (∀ b o, A = some ⟨b, o, none⟩ → (Value.slice A n c).ownBlock = some b) ∧ (A = none ∨ ∃ b, A = some ⟨b, 0, none⟩) := by
  rcases h.2 with ⟨e1, _⟩ | ⟨b1, cap, cur, e1, -, -, -, -⟩
  · injection e1 with e1 _ _
    subst e1
    exact ⟨(fun b o e => by cases e), .inl rfl⟩
  · injection e1 with e1 _ _
    subst e1
    refine ⟨fun b o e => ?_, .inr ⟨b1, rfl⟩⟩
    injection e with e
    injection e with e _ _
    subst e
    rfl
theorem bm0 : bmay [0] = true := by kernel_rfl
structure Beside (w0 w : World) (F1 F2 : Nat → Prop) (g1 g2 : Nat) (bs : List Int) (L M : List S34) (v : Value) (xs : List S34) : Prop where
  t : TS w0 w F1 g1 bs L
  u : TS w0 w F2 g2 bs M
  d : ∀ i, F1 i → F2 i → False
  o : OwX w w0.heap.size v xs
  n : ∀ j, v.ownBlock = some j → ¬ F1 j ∧ ¬ F2 j
theorem Beside.quiet {w0 w w1 : World} {F1 F2 : Nat → Prop} {g1 g2 : Nat} {bs : List Int} {L M : List S34} {v : Value} {xs : List S34} (h : Beside w0 w F1 F2 g1 g2 bs L M v xs) (hb : Below w.heap.size w w1) : Beside w0 w1 F1 F2 g1 g2 bs L M v xs :=
  ⟨h.t.quiet hb, h.u.quiet hb, h.d, h.o.below hb, h.n⟩
set_option maxHeartbeats 16000000 in
set_option maxRecDepth 100000 in
theorem trows_any (A : Option Addr) (l : List Int) (c : Nat) (ct : Int) (w : World) (hA : RdI w A l) (hc : l.length ≤ c) (hl : l.length ≤ 17592186044415) :
    Calls Try.prog 10 #[.slice A l.length c, .int .i64 ct] w fun e w' => e = .returned (.bool true) ∧ Below w.heap.size w w' := by
  have HA := Lib.hid (And.intro hA (And.intro hc hl))
  clear hA hc hl
  go_enter Try.func10, Try.ntmps10
  go_wp2_with fail
  refine (awake19_any _).mono ?_
  rintro e wa ⟨rfl, hb⟩
  have HW := Lib.hid hb
  clear hb
  go_wp2_with fail
  have hal : Below wa.heap.size wa (wa.alloc (.cells #[.int .i64 0] 3)) := (Below.refl wa.heap.size wa).alloc (Nat.le_refl _) _
  have RB := Lib.hid (rdI_blk (l := [0]) (heap_alloc_new wa (.cells #[.int .i64 0] 3)) (by simp))
  replace HW := Lib.hid (HW.out.trans (hal.mono HW.out.size))
  clear hal
  generalize wa.alloc (.cells #[.int .i64 0] 3) = wb at *
  refine (tsnew_any (w0 := w) [0] (some ⟨wa.heap.size, 0, none⟩) 1 HW.out RB.out (by simp)).mono ?_
  rintro e w1 (⟨h, _⟩ | ⟨_, g, F1, rfl, hq, -, -⟩)
  · exact absurd h (by rw [bm0]; simp)
  have Q1 := Lib.hid hq
  clear hq HW RB
  go_wp2_with fail
  have hal : Below w1.heap.size w1 (w1.alloc (.cells #[.int .i64 0] 3)) := (Below.refl w1.heap.size w1).alloc (Nat.le_refl _) _
  have RB := Lib.hid (rdI_blk (l := [0]) (heap_alloc_new w1 (.cells #[.int .i64 0] 3)) (by simp))
  replace Q1 := Lib.hid (Q1.out.quiet hal)
  clear hal
  generalize w1.alloc (.cells #[.int .i64 0] 3) = wc at *
  refine (tsnew_any (w0 := w) [0] (some ⟨w1.heap.size, 0, none⟩) 1 Q1.out.bel RB.out (by simp)).mono ?_
  rintro e w2 (⟨h, _⟩ | ⟨_, g2, F2, rfl, hq, hn, hb⟩)
  · exact absurd h (by rw [bm0]; simp)
  have B2 := Lib.hid (show Beside w w2 F1 F2 g g2 [0] [] [] (.slice none 0 0) [] from ⟨Q1.out.quiet hb, hq, fun i h1 h2 => by have := (Q1.out.new i h1).2; have := hn i h2; omega, World.ownsRow_nil _ _ _ _, fun j hj => by cases hj⟩)
  clear hq hn hb Q1 RB
  go_wp2_with fail
  refine (num_any _ _).mono ?_
  rintro e w' ⟨rfl, rfl⟩
  go_wp2_with fail
  refine (num_any _ _).mono ?_
  rintro e w' ⟨rfl, rfl⟩
  obtain ⟨n, hn, hn1, hn2⟩ : ∃ n : Nat, (if (40 : Int) < (l.length : Int) then 40 else (l.length : Int)) = (n : Int) ∧ n ≤ l.length ∧ n ≤ 40 := by
    by_cases h : (40 : Int) < (l.length : Int)
    · exact ⟨40, by rw [if_pos h]; rfl, by omega, by omega⟩
    · exact ⟨l.length, by rw [if_neg h], by omega, by omega⟩
  have HN := Lib.hid (And.intro hn1 hn2)
  clear hn1 hn2
  go_wp2_with fail
  clear hn
  go_loopw [10, 11] (fun v i wr => ∃ (k : Nat) (xs : List S34) (Av : Option Addr) (cv : Nat), v = .slice Av xs.length cv ∧ i = .int .i64 k ∧ k ≤ n ∧ Beside w wr F1 F2 g g2 [0] [] [] (.slice Av xs.length cv) xs ∧ Made k xs) (fun _ i _ => n - (intOf i).toNat)
  case atStart => exact ⟨0, [], none, 0, rfl, rfl, by omega, B2.out, rfl, (fun x hx => by cases hx), List.Pairwise.nil⟩
  case round =>
    clear B2
    obtain ⟨k, xs, Av, cv, rfl, rfl, hk, hbs, hmd⟩ := hrel
    have BB := Lib.hid hbs
    have MD := Lib.hid hmd
    have hnl := HN.out.1
    have hn40 := HN.out.2
    clear hbs hmd
    by_cases hlt : k < n
    · have hd1 : decide (k < n) = true := decide_eq_true hlt
      have hd2 : decide ((k : Int) < n) = true := decide_eq_true (by omega)
      obtain ⟨ad, hA0, e00⟩ := RdI.at_ HA.out.1 (show k < l.length by omega)
      have hadl := block_lt_of_cell e00
      have e0 := cell_below e00 BB.out.t.bel
      subst hA0
      have HK := Lib.hid hlt
      have hw1 : wrap64 ((k : Int) + 1) = (k : Int) + 1 := by unfold wrap64; omega
      obtain ⟨nk, hnk⟩ : ∃ nk, nk = l.getD k 0 := ⟨_, rfl⟩
      rw [← hnk] at e0
      have HS1 := Lib.hid (show ¬ some (ad.add k).block = (Value.slice Av xs.length cv).ownBlock from fun e => by
        have h1 := own_base BB.out.o _ e.symm
        omega)
      have HS2 := HS1
      clear hnk e00 hadl
      go_wp2_with fail
      refine Txt2.wp_region_mix (S := fun k => some k = (Value.slice Av xs.length cv).ownBlock) (by kernel_rfl) (by kernel_rfl) (fun HB => ?_)
      repeat (first
        | (refine Txt2.mix_p (by rfl) rfl rfl (fun K hK => ?_); go_big_quiet_op; refine hK _ ?_; clear hK K)
        | (refine Txt2.mix_re (by rfl) (by decide +kernel) (by rfl) (by rfl) (by go_simp) (by first | exact HS1.out | exact HS2.out) HB (fun K hK => ?_); go_big_quiet_op; refine hK _ ?_; clear hK K)
        | (refine Txt2.mix_pass (by rfl) (by rfl) ?_; simp only [List.set_cons_succ, List.set_cons_zero]))
      refine Txt2.mix_c (by rfl) (by decide +kernel) HB ?_
      intro w3 hw3 K hK
      have hb3 : Below wr.heap.size wr w3 := Txt.Bw.undrew hw3
      replace HB := HB.then_ hw3
      clear hw3
      go_wp2_with fail
      have hb15 : 0 ≤ bits .and .i64 nk 15 ∧ bits .and .i64 nk 15 ≤ 15 := and_bound nk 15 (by decide)
      have hv63 : 0 ≤ bits .and .i64 (nk / 64) 63 ∧ bits .and .i64 (nk / 64) 63 ≤ 63 := and_bound (nk / 64) 63 (by decide)
      obtain ⟨tm, htm⟩ : ∃ tm, bits BinOp.and IntKind.i64 nk 15 = tm := ⟨_, rfl⟩
      obtain ⟨vl, hvl⟩ : ∃ vl, wrap64 (bits BinOp.and IntKind.i64 (nk / 64) 63 - 30) = vl := ⟨_, rfl⟩
      have hvb : -30 ≤ vl ∧ vl ≤ 33 := by rw [← hvl]; unfold wrap64; omega
      rw [htm] at hb15 ⊢
      rw [hvl]
      have HTV := Lib.hid (And.intro hb15 hvb)
      clear hb15 hv63 hvb htm hvl e0 hd1 hd2
      refine (item19_any 1 tm (k + 1) vl _).mono ?_
      rintro e w4 ⟨rfl, hb⟩
      refine hK _ _ ⟨hb, ?_⟩
      replace HB := HB.then_ hb
      have B4 := Lib.hid ((BB.out.quiet hb3).quiet hb)
      have HS4 := Lib.hid (hb3.trans (hb.mono hb3.size)).size
      clear hK K hb hb3
      obtain ⟨x, hx⟩ : ∃ x : S34, x = ⟨1, tm, k + 1, vl⟩ := ⟨_, rfl⟩
      have HX := Lib.hid (show imay x = true ∧ x.f0 = 1 ∧ x.f2 = k + 1 from by
        have := HTV.out
        have := HK.out
        rw [hx]
        exact ⟨by unfold imay; simp; omega, rfl, rfl⟩)
      have hitm : (Value.agg #[.int .i64 1, .int .i64 tm, .int .i64 (k + 1), .int .i64 vl]) = .agg #[.int .i64 x.f0, .int .i64 x.f1, .int .i64 x.f2, .int .i64 x.f3] := by rw [hx]
      rw [hitm]
      clear hx hitm
      repeat (first
        | (refine Txt2.mix_p (by rfl) rfl rfl (fun K hK => ?_); go_big_quiet_op; refine hK _ ?_; clear hK K)
        | (refine Txt2.mix_re (by rfl) (by decide +kernel) (by rfl) (by rfl) (by go_simp) (by first | exact HS1.out | exact HS2.out) HB (fun K hK => ?_); go_big_quiet_op; refine hK _ ?_; clear hK K)
        | (refine Txt2.mix_pass (by rfl) (by rfl) ?_; simp only [List.set_cons_succ, List.set_cons_zero]))
      refine Txt2.mix_m (fun g => .slice (some ⟨g, 0, none⟩) 1 1) (.cells #[.int .i64 x.f0, .int .i64 x.f1, .int .i64 x.f2, .int .i64 x.f3] 34) (by rfl) (by decide +kernel) (fun w1 => by go_simp) HB ?_
      intro pb w5 hb5 hg5 ho5
      replace HB := HB.then_ hb5
      have B5 := Lib.hid (B4.out.quiet (show Below w4.heap.size w4 w5 from hb5))
      have HO5 := Lib.hid ho5
      have HS5 := Lib.hid (Nat.le_trans HS4.out hb5.size)
      clear hb5 hg5 ho5 B4
      simp only [Act.put, List.setIfInBounds_toArray, List.set_cons_succ, List.set_cons_zero]
      repeat (first
        | (refine Txt2.mix_p (by rfl) rfl rfl (fun K hK => ?_); go_big_quiet_op; refine hK _ ?_; clear hK K)
        | (refine Txt2.mix_re (by rfl) (by decide +kernel) (by rfl) (by rfl) (by go_simp) (by first | exact HS1.out | exact HS2.out) HB (fun K hK => ?_); go_big_quiet_op; refine hK _ ?_; clear hK K)
        | (refine Txt2.mix_pass (by rfl) (by rfl) ?_; simp only [List.set_cons_succ, List.set_cons_zero]))
      refine Txt2.mix_e (by rfl) (by decide +kernel) HB ?_
      intro w6 hw6 K hK
      have b6 := B5.out.quiet hw6
      have hoc := blk_below HO5.out hw6
      have hlen := MD.out.1
      have hvk := fun j hj => own_lt BB.out.o j hj
      refine wp_append (.tmp 55) (.tmp 71) 65 34 _ 4 32 w.heap.size rfl Try.underlying65 info_itm rfl (by decide) (.slice Av xs.length cv) xs.length 1 (flatX xs) (cellsX x) pb 1 rfl rfl b6.o b6.t.bel.size rfl ?_ ?_ (by omega) (by omega) ?_
      · intro j u hu
        rw [blk_cell hoc]
        exact (List.getElem?_toArray).trans hu
      · intro u hu
        simp only [cellsX, List.mem_cons, List.not_mem_nil, or_false] at hu
        rcases hu with rfl | rfl | rfl | rfl <;> rfl
      intro v2 w7 hown hgr hat
      have hch : Chg (fun k => some k = (Value.slice Av xs.length cv).ownBlock) w6 w7 := (Chg.refl _ w6).grown hgr (fun k hk => .inl hk.symm)
      have hkx : Txt2.Kx (fun k => some k = (Value.slice Av xs.length cv).ownBlock) wr.drew w6 w7 := ⟨hch.os, hch.tape, hch.output, hch.size, fun i hi hn => hch.block i hi (fun hs => hn ⟨hs, hvk i hs.symm⟩)⟩
      refine hK _ _ ⟨hkx, ?_⟩
      have hod : OwX w7 w.heap.size v2 (xs ++ [x]) := by
        unfold OwX
        rw [flatX_append, flatX_one, List.length_append]
        exact hown
      have b7 : Beside w w7 F1 F2 g g2 [0] [] [] v2 (xs ++ [x]) := ⟨b6.t.chg hch (fun k hk => ⟨(b6.n k hk.symm).1, own_base b6.o k hk.symm⟩), b6.u.chg hch (fun k hk => ⟨(b6.n k hk.symm).2, own_base b6.o k hk.symm⟩), b6.d, hod, fun j hj => by
        rcases hat with h | h
        · exact b6.n j (h.symm.trans hj)
        · have e : j = w6.heap.size := by
            rw [hj] at h
            injection h
          exact ⟨fun h => by have := (b6.t.new j h).2; omega, fun h => by have := (b6.u.new j h).2; omega⟩⟩
      have B7 := Lib.hid b7
      have MD2 := Lib.hid (MD.out.snoc HX.out)
      obtain ⟨A9, c9, hv9, _⟩ := row_form hod
      clear b6 hoc hlen hvk hown hgr hat hch hkx hod b7 hK K hw6 B5 HO5 HB BB MD HS1 HS2
      obtain ⟨xs2, hxs2⟩ : ∃ xs2, xs2 = xs ++ [x] := ⟨_, rfl⟩
      rw [← hxs2] at hv9 B7 MD2
      clear hxs2
      subst hv9
      simp only [Act.put, List.setIfInBounds_toArray, List.set_cons_succ, List.set_cons_zero]
      repeat (first
        | (refine Txt2.mix_p (by rfl) rfl rfl (fun K hK => ?_); go_big_quiet_op; refine hK _ ?_; clear hK K)
        | (refine Txt2.mix_re (by rfl) (by decide +kernel) (by rfl) (by rfl) (by go_simp) (by first | exact HS1.out | exact HS2.out) HB (fun K hK => ?_); go_big_quiet_op; refine hK _ ?_; clear hK K)
        | (refine Txt2.mix_pass (by rfl) (by rfl) ?_; simp only [List.set_cons_succ, List.set_cons_zero]))
      refine Txt2.mix_nil ?_
      go_wp2_with fail
      exact ⟨⟨k + 1, xs2, A9, c9, rfl, by go_num, by omega, B7.out, MD2.out⟩, by simp [intOf]; omega⟩
    · have ek : k = n := by omega
      have MDN := Lib.hid (show Made n xs from ek ▸ MD.out)
      clear MD
      subst ek
      have hd : decide (k < k) = false := decide_eq_false (by omega)
      go_wp2_with (refine at_op (.convert 3 55 (.tmp 73)) rfl ?_)
      have h2 := Int.tmod_lt_of_pos (IntKind.u64.wrap ct) (show 0 < (k : Int) + 1 by omega)
      have h3 := Int.tmod_nonneg ((k : Int) + 1) (u64_nonneg ct)
      have hk40 := HN.out.2
      refine ⟨?_⟩
      go_wp2_with fail
      obtain ⟨m, hm⟩ : ∃ m : Nat, (IntKind.u64.wrap ct).tmod ((k : Int) + 1) = m := ⟨((IntKind.u64.wrap ct).tmod ((k : Int) + 1)).toNat, by omega⟩
      have HM := Lib.hid (show m ≤ k by omega)
      rw [hm]
      clear h2 h3 hm hd
      have hon : One1 xs := ⟨1, fun x hx => ⟨(MDN.out.2.1 x hx).1, (MDN.out.2.1 x hx).2.1⟩⟩
      have m1 := mayL_yes (L := []) (xs := xs) (by rw [List.nil_append]; exact hon) (by have := MDN.out.1; simp; omega)
      have m2 : twi [] [] xs = false := twi_yes MDN.out.2.2 (fun _ _ y hy => by cases hy) (fun _ _ y hy => by cases hy)
      obtain ⟨Av2, cv2, hve, hcv, hrv⟩ := BB.out.o.reads
      injection hve with hv1 hv2 hv3
      subst hv1 hv3
      obtain ⟨hown, hfm⟩ := BB.out.o.place
      have HFM := Lib.hid hfm
      refine (tsins_any BB.out.t xs Av cv hrv (by have := MDN.out.1; omega) (fun b o e => (BB.out.n b (hown b o e)).1)).mono ?_
      rintro e w3 (⟨h, _⟩ | ⟨_, h, _⟩ | ⟨-, -, rfl, F3, hq, hF, hc⟩)
      · exact absurd h (by rw [m1]; simp)
      · exact absurd h (by rw [m2]; simp)
      have T3 := Lib.hid hq
      have U3 := Lib.hid (BB.out.u.chg hc (fun k hk => ⟨fun h => BB.out.d k hk h, (BB.out.t.new k hk).1⟩))
      have O3 := Lib.hid (BB.out.o.keep hc (fun j hj => (BB.out.n j hj).1))
      have N3 := Lib.hid (fun j hj => (BB.out.n j hj).2)
      have HOW := Lib.hid hown
      have D3 := Lib.hid (fun i (h1 : F3 i) (h2 : F2 i) => (hF i h1).elim (fun h => BB.out.d i h h2) (fun h => by have := (BB.out.u.new i h2).2; omega) : ∀ i, F3 i → F2 i → False)
      clear hq hF hc m1 m2 hrv hown BB
      clear hfm
      have hmk := HM.out
      have hxl := MDN.out.1
      obtain ⟨B5, hs5, hd5, hz5⟩ := xdrop_any Av xs.length cv m (by omega)
      obtain ⟨B6, hs6, ht6, hz6⟩ := xtake_any Av xs.length cv m (by omega)
      have HD5 := Lib.hid (And.intro hd5 hz5)
      have HT6 := Lib.hid (And.intro ht6 hz6)
      clear hd5 hz5 ht6 hz6 hxl
      go_wp2_with fail
      clear hs5
      have HS6 := Lib.hid hs6
      clear hs6 hmk
      obtain ⟨Av2, cv2, hve, hcv, hrv⟩ := O3.out.reads
      injection hve with hv1 hv2 hv3
      subst hv1 hv3
      have hpl : ∀ b o, B5 = some ⟨b, o, none⟩ ∨ B6 = some ⟨b, o, none⟩ → (Value.slice Av xs.length cv).ownBlock = some b := fun b o e => by
        rcases HFM.out with h | ⟨b0, h⟩
        · rw [HD5.out.2 h, HT6.out.2 h] at e
          rcases e with e | e <;> cases e
        · obtain ⟨o', h1, -⟩ := HD5.out.1 b0 0 h
          have h2 := HT6.out.1 b0 0 h
          rw [h1, h2] at e
          refine HOW.out b 0 ?_
          rw [h]
          rcases e with e | e
          · injection e with e
            injection e with e _ _
            rw [e]
          · injection e with e
            injection e with e _ _
            rw [e]
      have HPL := Lib.hid hpl
      clear hpl
      have hp1 : One1 ([] ++ xs.drop m) := hon.sub (fun x hx => List.mem_of_mem_drop hx)
      have hp2 : (xs.take m ++ xs.drop m).Pairwise (fun a b => ord a b ≠ 0) := by rw [List.take_append_drop]; exact MDN.out.2.2
      have HPW := Lib.hid (List.pairwise_append.1 hp2)
      have m1 := mayL_yes hp1 (by have := MDN.out.1; simp; omega)
      have m2 : twi [] [] (xs.drop m) = false := twi_yes HPW.out.2.1 (fun _ _ y hy => by cases hy) (fun _ _ y hy => by cases hy)
      have hi := tsins_any U3.out (xs.drop m) B5 (cv - m) (hrv.drop5 m hcv HD5.out.1) (by have := MDN.out.1; rw [List.length_drop]; omega) (fun b o e => N3.out b (HPL.out b o (.inl e)))
      rw [List.length_drop] at hi
      refine hi.mono ?_
      clear hi hp1 hp2
      rintro e w4 (⟨h, _⟩ | ⟨_, h, _⟩ | ⟨-, -, rfl, F4, hq, hF, hc⟩)
      · exact absurd h (by rw [m1]; simp)
      · exact absurd h (by rw [m2]; simp)
      have U4 := Lib.hid hq
      have T4 := Lib.hid (T3.out.chg hc (fun k hk => ⟨fun h => D3.out k h hk, (U3.out.new k hk).1⟩))
      have O4 := Lib.hid (O3.out.keep hc (fun j hj => N3.out j hj))
      have N4 := Lib.hid (fun j hj (h : F4 j) => (hF j h).elim (N3.out j hj) (fun h => by have := own_lt O3.out j hj; omega) : ∀ j, (Value.slice Av xs.length cv).ownBlock = some j → ¬ F4 j)
      have D4 := Lib.hid (fun i (h1 : F3 i) (h2 : F4 i) => (hF i h2).elim (fun h => D3.out i h1 h) (fun h => by have := (T3.out.new i h1).2; omega) : ∀ i, F3 i → F4 i → False)
      clear hq hF hc m1 m2 hrv hcv T3 U3 O3 N3 D3
      have hs6 := HS6.out
      go_wp2_with fail
      clear hs6
      obtain ⟨Av2, cv2, hve, hcv, hrv⟩ := O4.out.reads
      injection hve with hv1 hv2 hv3
      subst hv1 hv3
      have hmk := HM.out
      have hp1 : One1 (insAll [] (xs.drop m) ++ xs.take m) := hon.sub (fun x hx => by
        rcases List.mem_append.1 hx with hx | hx
        · rcases insAll_mem.1 hx with hx | hx
          · cases hx
          · exact List.mem_of_mem_drop hx
        · exact List.mem_of_mem_take hx)
      have m1 := mayL_yes hp1 (by have := MDN.out.1; rw [insAll_len]; simp; omega)
      have m2 : twi (insAll [] (xs.drop m)) [] (xs.take m) = false := twi_yes HPW.out.1 (fun x hx y hy => by
        rcases insAll_mem.1 hy with hy | hy
        · cases hy
        · exact HPW.out.2.2 x hx y hy) (fun _ _ y hy => by cases hy)
      have hi := tsins_any U4.out (xs.take m) B6 cv (hrv.take5 m HT6.out.1) (by rw [List.length_take]; omega) (fun b o e => N4.out b (HPL.out b o (.inr e)))
      rw [List.length_take, Nat.min_eq_left (by have := MDN.out.1; omega)] at hi
      refine hi.mono ?_
      clear hi hp1
      rintro e w5 (⟨h, _⟩ | ⟨_, h, _⟩ | ⟨-, -, rfl, F5, hq, hF, hc⟩)
      · exact absurd h (by rw [m1]; simp)
      · exact absurd h (by rw [m2]; simp)
      have U5 := Lib.hid hq
      have T5 := Lib.hid (T4.out.chg hc (fun k hk => ⟨fun h => D4.out k h hk, (U4.out.new k hk).1⟩))
      have hle : insAll (insAll [] (xs.drop m)) (xs.take m) = insAll [] xs := srt_ext U5.out.srt T5.out.srt (fun x => by
        rw [insAll_mem, insAll_mem, insAll_mem]
        have : x ∈ xs ↔ x ∈ xs.take m ∨ x ∈ xs.drop m := by
          conv => lhs; rw [← List.take_append_drop m xs]
          exact List.mem_append
        rw [this]
        constructor
        · rintro ((h | h) | h)
          · exact .inl h
          · exact .inr (.inr h)
          · exact .inr (.inl h)
        · rintro (h | h | h)
          · exact .inl (.inl h)
          · exact .inr h
          · exact .inl (.inr h))
      have HLE := Lib.hid hle
      have HLL := Lib.hid (show (insAll [] xs).length = k from by rw [insAll_len, MDN.out.1]; simp)
      clear hq hF hc m1 m2 hrv hcv T4 U4 O4 N4 D4 hle hmk HPL HPW HD5 HT6 HFM HOW HS6
      go_wp2_with fail
      refine (tsitems_any T5.out).mono ?_
      rintro e w6 ⟨v, rfl, how, hb⟩
      have T6 := Lib.hid (T5.out.quiet hb)
      have U6 := Lib.hid (U5.out.quiet hb)
      obtain ⟨A1, c1, rfl, hc1, hr1⟩ := how.reads
      have R6 := Lib.hid (And.intro hc1 hr1)
      have HSR := Lib.hid T5.out.srt
      clear hb how hc1 hr1 T5 U5 MDN
      rw [HLL.out]
      obtain ⟨L, hL⟩ : ∃ L, L = insAll [] xs := ⟨_, rfl⟩
      rw [← hL] at T6 R6 HLE HLL HSR
      clear hL
      go_wp2_with fail
      go_loopw [17] (fun i wr => ∃ j : Nat, i = .int .i64 j ∧ 1 ≤ j ∧ Below w6.heap.size w6 wr) (fun i _ => k - (intOf i).toNat)
      case atStart => exact ⟨1, rfl, by omega, Below.refl _ _⟩
      case round =>
        obtain ⟨j, rfl, hj1, hb⟩ := hrel
        have HB6 := Lib.hid hb
        have hk40 := HN.out.2
        clear hb
        by_cases hlt : j < k
        · have hd1 : decide (j < k) = true := decide_eq_true hlt
          obtain ⟨b, o, rfl, hbs, hcells⟩ := (R6.out.2.below HB6.out) (by rw [HLL.out]; omega)
          obtain ⟨p0, p1, p2, p3⟩ := hcells (j - 1) (by rw [HLL.out]; omega)
          obtain ⟨q0, q1, q2, q3⟩ := hcells j (by rw [HLL.out]; omega)
          have hw1 : wrap64 ((j : Int) - 1) = ((j - 1 : Nat) : Int) := by unfold wrap64; omega
          have hw2 : wrap64 ((j : Int) + 1) = (j : Int) + 1 := by unfold wrap64; omega
          have hord : ord (atX L (j - 1)) (atX L j) < 0 := by
            have e1 : atX L (j - 1) = L[j - 1]'(by rw [HLL.out]; omega) := by
              unfold atX
              rw [List.getD_eq_getElem?_getD, List.getElem?_eq_getElem (by rw [HLL.out]; omega)]
              rfl
            have e2 : atX L j = L[j]'(by rw [HLL.out]; omega) := by
              unfold atX
              rw [List.getD_eq_getElem?_getD, List.getElem?_eq_getElem (by rw [HLL.out]; omega)]
              rfl
            rw [e1, e2]
            exact List.pairwise_iff_getElem.1 HSR.out (j - 1) j (by rw [HLL.out]; omega) (by rw [HLL.out]; omega) (by omega)
          generalize atX L (j - 1) = x at *
          generalize atX L j = y at *
          clear p0 p3 q0 q3 hcells
          have hxy : x.f1 < y.f1 ∨ (x.f1 = y.f1 ∧ x.f2 < y.f2) := by
            unfold ord at hord
            (repeat' split at hord) <;> omega
          clear hord
          have hg1 : decide (y.f1 < x.f1) = false := decide_eq_false (by omega)
          rcases hxy with hxy | ⟨hx1, hx2⟩
          · have hg2 : (y.f1 == x.f1) = false := beq_eq_false_iff_ne.2 (by omega)
            clear hxy
            go_wp2_with fail
            refine Txt.wp_region_mix (by kernel_rfl) (by kernel_rfl) (fun HB => ?_)
            repeat (first
              | (refine Txt.mix_p (by rfl) rfl rfl (fun K hK => ?_); go_big_quiet_op; refine hK _ ?_; clear hK K)
              | (refine Txt.mix_re (by rfl) (by decide +kernel) (by rfl) (by rfl) (by go_simp) HB (fun K hK => ?_); go_big_quiet_op; refine hK _ ?_; clear hK K)
              | (refine Txt.mix_rl (by rfl) (by decide +kernel) (by rfl) (by rfl) (by go_simp) HB (fun K hK => ?_); go_big_quiet_op; refine hK _ ?_; clear hK K)
              | (refine Txt.mix_pass (by rfl) (by rfl) ?_; simp only [List.set_cons_succ, List.set_cons_zero]))
            refine Txt.mix_nil ?_
            go_wp2_with fail
            exact ⟨⟨j + 1, by go_num, by omega, HB6.out.drew⟩, by simp [intOf]; omega⟩
          · have hg2 : (y.f1 == x.f1) = true := beq_iff_eq.2 hx1.symm
            have hg3 : decide (y.f2 ≤ x.f2) = false := decide_eq_false (by omega)
            clear hx1 hx2
            go_wp2_with fail
            refine Txt.wp_region_mix (by kernel_rfl) (by kernel_rfl) (fun HB => ?_)
            repeat (first
              | (refine Txt.mix_p (by rfl) rfl rfl (fun K hK => ?_); go_big_quiet_op; refine hK _ ?_; clear hK K)
              | (refine Txt.mix_re (by rfl) (by decide +kernel) (by rfl) (by rfl) (by go_simp) HB (fun K hK => ?_); go_big_quiet_op; refine hK _ ?_; clear hK K)
              | (refine Txt.mix_rl (by rfl) (by decide +kernel) (by rfl) (by rfl) (by go_simp) HB (fun K hK => ?_); go_big_quiet_op; refine hK _ ?_; clear hK K)
              | (refine Txt.mix_pass (by rfl) (by rfl) ?_; simp only [List.set_cons_succ, List.set_cons_zero]))
            refine Txt.mix_nil ?_
            go_wp2_with fail
            exact ⟨⟨j + 1, by go_num, by omega, HB6.out.drew⟩, by simp [intOf]; omega⟩
        · have hd : decide (j < k) = false := decide_eq_false hlt
          have T7 := Lib.hid (T6.out.quiet HB6.out)
          have U7 := Lib.hid (U6.out.quiet HB6.out)
          have R7 := Lib.hid (And.intro R6.out.1 (R6.out.2.below HB6.out))
          clear T6 U6 R6 HB6
          go_wp2_with fail
          show Code.wp _ _ _ _ (wr.alloc (sO 3 12))
          have hal : Below wr.heap.size wr (wr.alloc (sO 3 12)) := (Below.refl _ _).alloc (Nat.le_refl _) _
          have VS := Lib.hid (heap_alloc_new wr (sO 3 12))
          have T8 := Lib.hid (T7.out.quiet hal)
          have U8 := Lib.hid (U7.out.quiet hal)
          have R8 := Lib.hid (And.intro R7.out.1 (R7.out.2.below hal))
          clear hal T7 U7 R7 hd
          generalize wr.alloc (sO 3 12) = we at *
          generalize wr.heap.size = sp at *
          obtain ⟨s0, s1, sl⟩ : we.cell? ⟨sp, 0, none⟩ = some (.int .i64 3) ∧ we.cell? ⟨sp, 1, none⟩ = some (.int .i64 12) ∧ sp < we.heap.size := ⟨(blk_cell VS.out 0).trans rfl, (blk_cell VS.out 1).trans rfl, blk_lt VS.out⟩
          refine Txt.wp_region_mix (by kernel_rfl) (by kernel_rfl) (fun HB => ?_)
          repeat (first
            | (refine Txt.mix_p (by rfl) rfl rfl (fun K hK => ?_); go_big_quiet_op; refine hK _ ?_; clear hK K)
            | (refine Txt.mix_re (by rfl) (by decide +kernel) (by rfl) (by rfl) (by go_simp) HB (fun K hK => ?_); go_big_quiet_op; refine hK _ ?_; clear hK K)
            | (refine Txt.mix_rl (by rfl) (by decide +kernel) (by rfl) (by rfl) (by go_simp) HB (fun K hK => ?_); go_big_quiet_op; refine hK _ ?_; clear hK K)
            | (refine Txt.mix_pass (by rfl) (by rfl) ?_; simp only [List.set_cons_succ, List.set_cons_zero]))
          refine Txt.mix_c (by rfl) (by decide +kernel) HB ?_
          intro wn hwn K hK
          replace HB := HB.trans hwn
          clear hwn
          go_wp2_with fail
          refine (num_any _ _).mono ?_
          rintro e w' ⟨rfl, rfl⟩
          refine hK _ _ ⟨Txt.Bw.refl _, ?_⟩
          clear hK K
          repeat (first
            | (refine Txt.mix_p (by rfl) rfl rfl (fun K hK => ?_); go_big_quiet_op; refine hK _ ?_; clear hK K)
            | (refine Txt.mix_re (by rfl) (by decide +kernel) (by rfl) (by rfl) (by go_simp) HB (fun K hK => ?_); go_big_quiet_op; refine hK _ ?_; clear hK K)
            | (refine Txt.mix_rl (by rfl) (by decide +kernel) (by rfl) (by rfl) (by go_simp) HB (fun K hK => ?_); go_big_quiet_op; refine hK _ ?_; clear hK K)
            | (refine Txt.mix_pass (by rfl) (by rfl) ?_; simp only [List.set_cons_succ, List.set_cons_zero]))
          refine Txt.mix_c (by rfl) (by decide +kernel) HB ?_
          intro wn hwn K hK
          replace HB := HB.trans hwn
          clear hwn
          go_wp2_with fail
          refine (num_any _ _).mono ?_
          rintro e w' ⟨rfl, rfl⟩
          refine hK _ _ ⟨Txt.Bw.refl _, ?_⟩
          clear hK K
          repeat (first
            | (refine Txt.mix_p (by rfl) rfl rfl (fun K hK => ?_); go_big_quiet_op; refine hK _ ?_; clear hK K)
            | (refine Txt.mix_re (by rfl) (by decide +kernel) (by rfl) (by rfl) (by go_simp) HB (fun K hK => ?_); go_big_quiet_op; refine hK _ ?_; clear hK K)
            | (refine Txt.mix_rl (by rfl) (by decide +kernel) (by rfl) (by rfl) (by go_simp) HB (fun K hK => ?_); go_big_quiet_op; refine hK _ ?_; clear hK K)
            | (refine Txt.mix_pass (by rfl) (by rfl) ?_; simp only [List.set_cons_succ, List.set_cons_zero]))
          refine Txt.mix_c (by rfl) (by decide +kernel) HB ?_
          intro wn hwn K hK
          replace HB := HB.trans hwn
          clear hwn
          go_wp2_with fail
          refine (num_any _ _).mono ?_
          rintro e w' ⟨rfl, rfl⟩
          refine hK _ _ ⟨Txt.Bw.refl _, ?_⟩
          clear hK K
          repeat (first
            | (refine Txt.mix_p (by rfl) rfl rfl (fun K hK => ?_); go_big_quiet_op; refine hK _ ?_; clear hK K)
            | (refine Txt.mix_re (by rfl) (by decide +kernel) (by rfl) (by rfl) (by go_simp) HB (fun K hK => ?_); go_big_quiet_op; refine hK _ ?_; clear hK K)
            | (refine Txt.mix_rl (by rfl) (by decide +kernel) (by rfl) (by rfl) (by go_simp) HB (fun K hK => ?_); go_big_quiet_op; refine hK _ ?_; clear hK K)
            | (refine Txt.mix_pass (by rfl) (by rfl) ?_; simp only [List.set_cons_succ, List.set_cons_zero]))
          refine Txt.mix_c (by rfl) (by decide +kernel) HB ?_
          intro w8 hw8 K hK
          replace HB := HB.trans hw8
          have hb8 := HB.undrew
          clear hw8
          go_wp2_with fail
          refine (tsitems_any (U8.out.quiet hb8)).mono ?_
          rintro e w9 ⟨v1, rfl, how, hb⟩
          refine hK _ _ ⟨hb, ?_⟩
          replace HB := HB.trans hb
          have hb9 := HB.undrew
          rw [HLE.out] at how
          obtain ⟨A2, c2, rfl, hc2, hr2⟩ := how.reads
          have R2 := Lib.hid (And.intro hc2 hr2)
          have R9 := Lib.hid (And.intro R8.out.1 (R8.out.2.below hb9))
          clear hK K hb hb8 hb9 how hc2 hr2
          have hi := fun w10 (h1 : RdX w10 A1 L) (h2 : RdX w10 A2 L) => xsame_any A1 A2 c1 c2 L w10 h1 h2 (by have := T8.out.len; omega)
          rw [HLL.out] at hi ⊢
          have HI := Lib.hid hi
          clear hi
          repeat (first
            | (refine Txt.mix_p (by rfl) rfl rfl (fun K hK => ?_); go_big_quiet_op; refine hK _ ?_; clear hK K)
            | (refine Txt.mix_re (by rfl) (by decide +kernel) (by rfl) (by rfl) (by go_simp) HB (fun K hK => ?_); go_big_quiet_op; refine hK _ ?_; clear hK K)
            | (refine Txt.mix_rl (by rfl) (by decide +kernel) (by rfl) (by rfl) (by go_simp) HB (fun K hK => ?_); go_big_quiet_op; refine hK _ ?_; clear hK K)
            | (refine Txt.mix_pass (by rfl) (by rfl) ?_; simp only [List.set_cons_succ, List.set_cons_zero]))
          refine Txt.mix_c (by rfl) (by decide +kernel) HB ?_
          intro w10 hw10 K hK
          replace HB := HB.trans hw10
          go_wp2_with fail
          refine (HI.out w10 (R9.out.2.below hw10) (R2.out.2.below hw10)).mono ?_
          rintro e w11 ⟨rfl, hb⟩
          refine hK _ _ ⟨hb, ?_⟩
          replace HB := HB.trans hb
          clear hK K hb hw10 R2 R9 R8 HI
          repeat (first
            | (refine Txt.mix_p (by rfl) rfl rfl (fun K hK => ?_); go_big_quiet_op; refine hK _ ?_; clear hK K)
            | (refine Txt.mix_re (by rfl) (by decide +kernel) (by rfl) (by rfl) (by go_simp) HB (fun K hK => ?_); go_big_quiet_op; refine hK _ ?_; clear hK K)
            | (refine Txt.mix_rl (by rfl) (by decide +kernel) (by rfl) (by rfl) (by go_simp) HB (fun K hK => ?_); go_big_quiet_op; refine hK _ ?_; clear hK K)
            | (refine Txt.mix_pass (by rfl) (by rfl) ?_; simp only [List.set_cons_succ, List.set_cons_zero]))
          refine Txt.mix_c (by rfl) (by decide +kernel) HB ?_
          intro w12 hw12 K hK
          replace HB := HB.trans hw12
          have hb12 := HB.undrew
          clear hw12
          go_wp2_with fail
          refine (tsrange_any (T8.out.quiet hb12) 3 12).mono ?_
          rintro e w13 ⟨v1, rfl, how, hb⟩
          refine hK _ _ ⟨hb, ?_⟩
          replace HB := HB.trans hb
          obtain ⟨X, hX⟩ : ∃ X, X = joinA [0] (its [0] (flt 3 12 L)) := ⟨_, rfl⟩
          have HXL := Lib.hid (show X.f6.length ≤ 9 from by
            obtain ⟨s, gd⟩ := T8.out.one.gd T8.out.bm T8.out.len
            have g2 := flt_gd (S := 3) (E := 12) gd
            rw [hX]
            exact joinRes_len g2.join g2.b)
          rw [← hX] at how ⊢
          have HX := Lib.hid hX
          obtain ⟨Ar, cr, rfl, hcr, hrr⟩ := how.reads
          have RR := Lib.hid (And.intro hcr hrr)
          clear hK K hb hb12 how hcr hrr hX
          simp only [acV]
          repeat (first
            | (refine Txt.mix_p (by rfl) rfl rfl (fun K hK => ?_); go_big_quiet_op; refine hK _ ?_; clear hK K)
            | (refine Txt.mix_re (by rfl) (by decide +kernel) (by rfl) (by rfl) (by go_simp) HB (fun K hK => ?_); go_big_quiet_op; refine hK _ ?_; clear hK K)
            | (refine Txt.mix_rl (by rfl) (by decide +kernel) (by rfl) (by rfl) (by go_simp) HB (fun K hK => ?_); go_big_quiet_op; refine hK _ ?_; clear hK K)
            | (refine Txt.mix_pass (by rfl) (by rfl) ?_; simp only [List.set_cons_succ, List.set_cons_zero]))
          refine Txt.mix_c (by rfl) (by decide +kernel) HB ?_
          intro w14 hw14 K hK
          replace HB := HB.trans hw14
          replace RR := Lib.hid (And.intro RR.out.1 (RdI.below RR.out.2 hw14))
          have hb14 := HB.undrew
          clear hw14
          go_wp2_with fail
          refine (tsrange_any (U8.out.quiet hb14) 3 12).mono ?_
          rintro e w15 ⟨v1, rfl, how, hb⟩
          refine hK _ _ ⟨hb, ?_⟩
          replace HB := HB.trans hb
          replace RR := Lib.hid (And.intro RR.out.1 (RdI.below RR.out.2 hb))
          rw [HLE.out, ← HX.out] at how ⊢
          obtain ⟨As, cs, rfl, hcs, hrs⟩ := how.reads
          have RS := Lib.hid (And.intro hcs hrs)
          clear hK K hb hb14 how hcs hrs
          simp only [acV]
          repeat (first
            | (refine Txt.mix_p (by rfl) rfl rfl (fun K hK => ?_); go_big_quiet_op; refine hK _ ?_; clear hK K)
            | (refine Txt.mix_re (by rfl) (by decide +kernel) (by rfl) (by rfl) (by go_simp) HB (fun K hK => ?_); go_big_quiet_op; refine hK _ ?_; clear hK K)
            | (refine Txt.mix_rl (by rfl) (by decide +kernel) (by rfl) (by rfl) (by go_simp) HB (fun K hK => ?_); go_big_quiet_op; refine hK _ ?_; clear hK K)
            | (refine Txt.mix_pass (by rfl) (by rfl) ?_; simp only [List.set_cons_succ, List.set_cons_zero]))
          refine Txt.mix_c (by rfl) (by decide +kernel) HB ?_
          intro w16 hw16 K hK
          replace HB := HB.trans hw16
          go_wp2_with fail
          change Calls _ _ #[acV X (.slice Ar X.f6.length cr), acV X (.slice As X.f6.length cs)] _ _
          refine (same_yes X Ar As cr cs w16 (RdI.below RR.out.2 hw16) RR.out.1 (RdI.below RS.out.2 hw16) RS.out.1 (by have := HXL.out; omega)).mono ?_
          rintro e w17 ⟨rfl, hb⟩
          refine hK _ _ ⟨hb, ?_⟩
          replace HB := HB.trans hb
          have T17 := Lib.hid (T8.out.quiet HB.undrew)
          clear hK K hb hw16 RR RS
          repeat (first
            | (refine Txt.mix_p (by rfl) rfl rfl (fun K hK => ?_); go_big_quiet_op; refine hK _ ?_; clear hK K)
            | (refine Txt.mix_re (by rfl) (by decide +kernel) (by rfl) (by rfl) (by go_simp) HB (fun K hK => ?_); go_big_quiet_op; refine hK _ ?_; clear hK K)
            | (refine Txt.mix_rl (by rfl) (by decide +kernel) (by rfl) (by rfl) (by go_simp) HB (fun K hK => ?_); go_big_quiet_op; refine hK _ ?_; clear hK K)
            | (refine Txt.mix_pass (by rfl) (by rfl) ?_; simp only [List.set_cons_succ, List.set_cons_zero]))
          refine Txt.mix_nil ?_
          go_wp2_with fail
          go_ret
          exact ⟨rfl, T17.out.bel⟩
theorem trows_walk (A : Option Addr) (l : List Int) (c : Nat) (ct : Int) (w : World) (hA : RdI w A l) (hc : l.length ≤ c) (hl : l.length * 8 ≤ 140737488351232) (_ : (Lit.int .i64 ct).wf = true) :
    Calls Try.prog 10 #[.slice A l.length c, .int .i64 ct] w fun e w' => e = .returned (.bool true) ∧ Below w.heap.size w w' := trows_any A l c ct w hA hc (by omega)
end Go.Proofs.Ytfgabafbcephaaa.My

namespace Go.Proofs.Ytfgabafbcephaaa.My
open Go.RowKit Pa Go.Proofs.YtfgabafbcephaaaW.PrintWords

theorem rd_of_row {w : World} {x : Addr} {len cap : Nat} {zs : List Int} (hl : len ≤ cap) (hm : cap ≤ maxLen) (hz : zs.length = cap)
    (hc : ∀ i, i < zs.length → w.cell? (x.add i) = some (.int .i64 (zs.getD i 0))) (hw : ∀ n ∈ zs, (Lit.int .i64 n).wf = true) :
    ∃ l : List Int, len = l.length ∧ RdI w (some x) l ∧ ∀ n ∈ l, (Lit.int .i64 n).wf = true := by
  refine ⟨zs.take len, by rw [List.length_take]; omega, ⟨rfl, ?_, fun _ => ⟨x, rfl, fun j p hp => ⟨[.int .i64 p], rfl, rfl, fun i u hu => ?_⟩⟩⟩, fun n hn => hw n (List.mem_of_mem_take hn)⟩
  · rw [List.length_take]
    have h : maxLen = 9223372036854775807 := by simp [maxLen]
    omega
  · rw [show j * (Kd.int .i64).sz + i = j + i by rw [show (Kd.int .i64).sz = 1 from rfl, Nat.mul_one]]
    cases i with
    | zero =>
      simp at hu
      subst hu
      have hj := (List.getElem?_eq_some_iff.1 hp).1
      rw [List.length_take] at hj
      have h1 := hc j (by omega)
      rw [List.getElem?_take] at hp
      split at hp
      · rw [List.getD_eq_getElem?_getD, hp] at h1
        exact h1
      · cases hp
    | succ i => simp at hu
end Go.Proofs.Ytfgabafbcephaaa.My

namespace Go.Proofs.Ytfgabafbcephaaa.My
open Go.RowKit Go.ChangeShapes Go.WideShapes Go.Deep Go.Joins Pa Go.Proofs.YtfgabafbcephaaaW.PrintWords

section
variable {H : Type} {enc : TypeId × Value → H} {W : World} {fuel base : Nat} {spare : Nat → Bool} {held : Bool} {x : DataW H × List MemPlace}

theorem open_int {cs : List Value} (h : DataW.trod enc Try.prog W base spare held fuel 3 cs = some x) : ∃ n, cs = [.int .i64 n] ∧ (Lit.int .i64 n).wf = true := by
  obtain ⟨n, e, _, hw⟩ := DataW.trod_int Try.underlying3 h
  exact ⟨n, e, hw⟩
theorem open_row {A : Option Addr} {len cap : Nat} (h : DataW.trod enc Try.prog W base spare held fuel 22 [.slice A len cap] = some x) : ∃ l : List Int, len = l.length ∧ RdI W A l ∧ len ≤ cap ∧ ∀ n ∈ l, (Lit.int .i64 n).wf = true := by
  rcases open_ints Try.underlying22 Try.underlying3 (by kernel_rfl) h with ⟨hcs, _⟩ | ⟨x, l, c, zs, hcs, _, hl, hm, hz, _, hcell, hwz⟩
  · simp at hcs
    obtain ⟨rfl, rfl, rfl⟩ := hcs
    exact ⟨[], rfl, rdI_nil _, Nat.le_refl _, by simp⟩
  · simp at hcs
    obtain ⟨rfl, rfl, rfl⟩ := hcs
    have hzl : len ≤ zs.length := by rw [hz]; split <;> omega
    have hzc : zs.length ≤ cap := by rw [hz]; split <;> omega
    obtain ⟨l, e, hr, hw⟩ := rd_of_row hzl (Nat.le_trans hzc hm) rfl hcell hwz
    exact ⟨l, e, hr, hl, hw⟩
end
end Go.Proofs.Ytfgabafbcephaaa.My

namespace Go.Proofs.Ytfgabafbcephaaa.My
open Go.RowKit Pa Go.Proofs.YtfgabafbcephaaaW.PrintWords
set_option linter.unusedSimpArgs false

end Go.Proofs.Ytfgabafbcephaaa.My

namespace Go.Proofs.Ytfgabafbcephaaa.My
open Go.RowKit Go.ChangeShapes Go.WideShapes Go.Deep Go.Joins Pa Go.Proofs.YtfgabafbcephaaaW.PrintWords

section
variable {H : Type} {enc : TypeId × Value → H} {W : World} {fuel base : Nat} {spare : Nat → Bool} {held : Bool} {x : DataW H × List MemPlace}

end
end Go.Proofs.Ytfgabafbcephaaa.My
