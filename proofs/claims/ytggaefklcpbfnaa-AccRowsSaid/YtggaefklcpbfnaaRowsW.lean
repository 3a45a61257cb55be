/- AccRows returns true: of items of unlike stamps the row does not count, nor how they are put together. No conditions. -/
import Derived.Test.YtggaefklcpbfnaaRowsI
import Derived.Test.YtggaefklcpbfnaaAccL
import Derived.Test.YtggaefklcpbfnaaRefB
import Derived.Test.YtggaefklcpbfnaaOpen
import Derived.Test.YtggaefklcpbfnaaSlices
namespace Go.Proofs.Ytggaefklcpbfnaa.My
open Go.RowKit Pa Go.Proofs.YtggaefklcpbfnaaW.PrintWords Go.Proofs.YtggaefklcpbfnaaW.PrintMore
attribute [local go_sem] max2_int min2_int max_two min_two
attribute [local go_sem high] eqA26
set_option linter.unusedSimpArgs false
theorem RowA.get {w : World} {v : Value} {xs : List S28} {cs : List Value} (h : RowA w v xs cs) {i : Nat} (hi : i < xs.length) : ∃ b cap u, v = .slice (some ⟨b, 0, none⟩) xs.length cap ∧ Own w 0 u (xs.getD i z28).f6 ∧ b < w.heap.size ∧ w.cell? ⟨b, i * 13 + 0, none⟩ = some (.int .i64 (xs.getD i z28).f0) ∧ w.cell? ⟨b, i * 13 + 1, none⟩ = some (.int .i64 (xs.getD i z28).f1) ∧ w.cell? ⟨b, i * 13 + 2, none⟩ = some (.int .i64 (xs.getD i z28).f2) ∧ w.cell? ⟨b, i * 13 + 3, none⟩ = some (.int .i64 (xs.getD i z28).f3) ∧ w.cell? ⟨b, i * 13 + 4, none⟩ = some (.int .i64 (xs.getD i z28).f4.f0) ∧ w.cell? ⟨b, i * 13 + 5, none⟩ = some (.int .i64 (xs.getD i z28).f4.f1) ∧ w.cell? ⟨b, i * 13 + 6, none⟩ = some (.int .i64 (xs.getD i z28).f4.f2) ∧ w.cell? ⟨b, i * 13 + 7, none⟩ = some (.int .i64 (xs.getD i z28).f4.f3) ∧ w.cell? ⟨b, i * 13 + 8, none⟩ = some (.int .i64 (xs.getD i z28).f5.f0) ∧ w.cell? ⟨b, i * 13 + 9, none⟩ = some (.int .i64 (xs.getD i z28).f5.f1) ∧ w.cell? ⟨b, i * 13 + 10, none⟩ = some (.int .i64 (xs.getD i z28).f5.f2) ∧ w.cell? ⟨b, i * 13 + 11, none⟩ = some (.int .i64 (xs.getD i z28).f5.f3) ∧ w.cell? ⟨b, i * 13 + 12, none⟩ = some u := by
  obtain ⟨u, h1, h2⟩ := h.el i hi
  rcases h.own.2 with ⟨e, h0⟩ | ⟨b, cap, cur, e, hb, hcur, _⟩
  · omega
  · have hc : ∀ j, j < 13 → ∀ x, (accC (xs.getD i z28) u)[j]? = some x → w.cell? ⟨b, i * 13 + j, none⟩ = some x := fun j hj x hx => by
      have h3 := h.own.cells (g := b) (by rw [e]; rfl) (i * 13 + j) x ((h2 j hj).trans hx)
      rwa [add_plain] at h3
    exact ⟨b, cap, u, e, h1, blk_lt hcur, hc 0 (by omega) _ rfl, hc 1 (by omega) _ rfl, hc 2 (by omega) _ rfl, hc 3 (by omega) _ rfl, hc 4 (by omega) _ rfl, hc 5 (by omega) _ rfl, hc 6 (by omega) _ rfl, hc 7 (by omega) _ rfl, hc 8 (by omega) _ rfl, hc 9 (by omega) _ rfl, hc 10 (by omega) _ rfl, hc 11 (by omega) _ rfl, hc 12 (by omega) _ rfl⟩
theorem own_cell1 {w : World} {base : Nat} {v : Value} {h : List Int} (ho : Own w base v h) : v.oneCell' = true := by
  obtain ⟨A, c, rfl, _⟩ := ho.reads
  rfl
theorem joinRes_len {bs : List Int} {xs : List S28} {a : S28} (h : joinRes bs xs = (a, 0)) (hb : bmay bs = true) : a.f6.length ≤ 9 := by
  unfold joinRes at h
  split at h
  · rename_i ha
    split at h
    · injection h with _ h2
      exact absurd h2 (by decide)
    · rename_i h8
      injection h with h1 h2
      have hf := (join_fit hb (allm_all ha) (by omega) xs.length (Nat.le_refl _)).1
      rw [List.take_length, h1] at hf
      have := hf.len
      have := bmay_len hb
      omega
  · injection h with _ h2
    exact absurd h2 (by decide)
theorem at_nat (cut : Int) (k : Nat) (hk : k ≤ 20) : ∃ at_ : Nat, wrap64 ((IntKind.u64.wrap cut).tmod ((k : Int) + 1)) = (at_ : Int) ∧ at_ ≤ k := by
  have h0 : 0 ≤ IntKind.u64.wrap cut := by
    have := IntKind.wrap_u64 cut
    rw [this]
    omega
  rw [Int.tmod_eq_emod_of_nonneg h0]
  have h1 := Int.emod_nonneg (IntKind.u64.wrap cut) (show (k : Int) + 1 ≠ 0 by omega)
  have h2 := Int.emod_lt_of_pos (IntKind.u64.wrap cut) (show 0 < (k : Int) + 1 by omega)
  generalize IntKind.u64.wrap cut % ((k : Int) + 1) = m at *
  refine ⟨m.toNat, ?_, by omega⟩
  unfold wrap64
  omega
theorem rits_rev {bs : List Int} {l : List Int} {k i : Nat} (h : i < k) : (((rits l k).drop i).reverse).map (fun x => one x bs) = (((rits l k).drop (i + 1)).reverse).map (fun x => one x bs) ++ [((rits l k).map (fun x => one x bs)).getD i z28] := by
  have hl := rits_len l k
  rw [List.drop_eq_getElem_cons (by omega), List.reverse_cons, List.map_append, List.getD_eq_getElem?_getD, List.getElem?_map, List.getElem?_eq_getElem (by omega)]
  rfl
set_option maxHeartbeats 8000000 in
set_option maxRecDepth 100000 in
theorem rows_any (A : Option Addr) (l : List Int) (c : Nat) (cut : Int) (B : Option Addr) (bs : List Int) (d : Nat) (w : World) (hA : RdI w A l) (hl : l.length ≤ 140737488351232) (hB : RdI w B bs) (hd : bs.length ≤ d) (hbl : bs.length ≤ 140737488351232) :
    Calls Try.prog 10 #[.slice A l.length c, .int .i64 cut, .slice B bs.length d] w fun e w' => e = .returned (.bool true) ∧ Below w.heap.size w w' := by
  have HA := Lib.hid hA
  have HBS := Lib.hid hB
  have HD := Lib.hid hd
  clear hA hB hd
  go_enter Try.func10, Try.ntmps10
  go_wp2_with fail
  refine (awake_any _).mono ?_
  rintro e w1 ⟨rfl, hb⟩
  have HW := Lib.hid hb
  clear hb
  go_wp2_with fail
  refine (rbm_any bs B d _ (Kd.C_below HBS.out HW.out) HD.out (by omega)).mono ?_
  rintro e w2 ⟨rfl, hb⟩
  replace HW := Lib.hid (HW.out.trans (hb.mono HW.out.size))
  clear hb
  cases hbm : bmay bs with
  | false =>
    have HBM := Lib.hid hbm
    clear hbm
    go_wp2_with fail
    refine (join_any bs [] B d none 0 _ (Kd.C_below HBS.out HW.out) HD.out (rdA_nil _ _) (by decide)).mono ?_
    rintro e w3 ⟨vj, rfl, how, hb⟩
    rw [show joinRes bs [] = (z28, 100) from by unfold joinRes; exact if_neg (by rw [show allm bs (-1) [] = bmay bs from rfl, HBM.out]; decide)] at how ⊢
    replace HW := Lib.hid (HW.out.trans (hb.mono HW.out.size))
    obtain ⟨Aj, cj, rfl, hlj, hrj⟩ := how.reads
    have hb2 : Below w3.heap.size w3 (w3.alloc (acO z28 (.slice Aj z28.f6.length cj))) := (Below.refl _ _).alloc (Nat.le_refl _) _
    replace HW := Lib.hid (HW.out.trans (hb2.mono HW.out.size))
    clear hb hb2 how hlj hrj
    simp only [acV, z28, z26, List.length_nil]
    go_wp2_with fail
    refine (num_any _ _).mono ?_
    rintro e w' ⟨rfl, rfl⟩
    go_wp2_with fail
    go_ret
    exact ⟨rfl, HW.out⟩
  | true =>
    have HBM := Lib.hid hbm
    clear hbm
    obtain ⟨kk, hmn, hkk, hk20⟩ : ∃ kk : Nat, (if (20 : Int) < (l.length : Int) then 20 else (l.length : Int)) = (kk : Int) ∧ kk ≤ l.length ∧ kk ≤ 20 := by
      by_cases h : (20 : Int) < l.length
      · exact ⟨20, by rw [if_pos h]; rfl, by omega, by omega⟩
      · exact ⟨l.length, by rw [if_neg h], by omega, by omega⟩
    go_wp2_with fail
    clear hmn
    go_loopw [9, 12] (fun v i wr => ∃ (k : Nat) (cs : List Value), i = .int .i64 k ∧ k ≤ kk ∧ Below w.heap.size w wr ∧ RowA wr v ((rits l k).map (fun x => one x bs)) cs ∧ Rel (∀ b, v.ownBlock = some b → w.heap.size ≤ b)) (fun _ i _ => kk - (intOf i).toNat)
    case atStart => exact ⟨0, [], rfl, by omega, HW.out, RowA.nil _, fun b hb => by simp [Value.ownBlock] at hb⟩
    case round =>
      obtain ⟨k, cs, rfl, hk, hb, hrow, hx⟩ := hrel
      have HO := Lib.hid hb
      have HRO := Lib.hid hrow
      have HX := Lib.hid hx
      clear hb hrow hx HW
      by_cases hlt : k < kk
      · have hd : decide ((k : Int) < kk) = true := decide_eq_true (by omega)
        obtain ⟨ad, rfl, e0⟩ := RdI.at_ (Kd.C_below HA.out HO.out) (show k < l.length by omega)
        have HSN := Lib.hid (show (rits l (k + 1)).map (fun x => one x bs) = (rits l k).map (fun x => one x bs) ++ [one (rit (l.getD k 0) k) bs] from by rw [show rits l (k + 1) = rits l k ++ [rit (l.getD k 0) k] from rfl, List.map_append]; rfl)
        generalize l.getD k 0 = n at *
        have h1 : wrap64 (bits .and .i64 (n / 256) 7 - 3) = tv n := by
          have := tv_b n
          unfold tv at *
          unfold wrap64
          omega
        have h2 : wrap64 (bits .and .i64 n 255 - 100) = vv n := by
          have := vv_b n
          unfold vv at *
          unfold wrap64
          omega
        go_wp2_with fail
        refine Txt.wp_region_mix (by kernel_rfl) (by kernel_rfl) (fun HB => ?_)
        repeat (first
          | (refine Txt.mix_p (by rfl) rfl rfl (fun K hK => ?_); go_big_quiet_op; refine hK _ ?_; clear hK K)
          | (refine Txt.mix_re (by rfl) (by decide +kernel) (by rfl) (by rfl) (by go_simp) HB (fun K hK => ?_); go_big_quiet_op; refine hK _ ?_; clear hK K)
          | (refine Txt.mix_rl (by rfl) (by decide +kernel) (by rfl) (by rfl) (by go_simp) HB (fun K hK => ?_); go_big_quiet_op; refine hK _ ?_; clear hK K)
          | (refine Txt.mix_pass (by rfl) (by rfl) ?_; simp only [List.set_cons_succ, List.set_cons_zero]))
        refine Txt.mix_c (by rfl) (by decide +kernel) HB ?_
        intro wN hw1 K hK
        replace HB := HB.trans hw1
        clear hw1
        go_wp2_with fail
        clear h1 h2
        refine (item_any 3 (tv n) (k + 1) (vv n) _).mono ?_
        rintro e w2' ⟨rfl, hb⟩
        refine hK _ _ ⟨hb, ?_⟩
        replace HB := HB.trans hb
        clear hK K hb
        repeat (first
          | (refine Txt.mix_p (by rfl) rfl rfl (fun K hK => ?_); go_big_quiet_op; refine hK _ ?_; clear hK K)
          | (refine Txt.mix_re (by rfl) (by decide +kernel) (by rfl) (by rfl) (by go_simp) HB (fun K hK => ?_); go_big_quiet_op; refine hK _ ?_; clear hK K)
          | (refine Txt.mix_rl (by rfl) (by decide +kernel) (by rfl) (by rfl) (by go_simp) HB (fun K hK => ?_); go_big_quiet_op; refine hK _ ?_; clear hK K)
          | (refine Txt.mix_pass (by rfl) (by rfl) ?_; simp only [List.set_cons_succ, List.set_cons_zero]))
        refine Txt.mix_c (by rfl) (by decide +kernel) HB ?_
        intro wM hw2 K hK
        replace HB := HB.trans hw2
        clear hw2
        go_wp2_with fail
        have HO2 := Lib.hid (HO.out.trans (HB.undrew.mono HO.out.size))
        refine (one_any (rit n k) bs B d _ (Kd.C_below HBS.out HO2.out) HD.out).mono ?_
        rintro e w3 ⟨va, rfl, how, hb⟩
        rw [one_rit HBM.out (by omega) (by omega)] at how ⊢
        refine hK _ _ ⟨hb, ?_⟩
        replace HB := HB.trans hb
        clear hK K hb HO2
        repeat (first
          | (refine Txt.mix_p (by rfl) rfl rfl (fun K hK => ?_); go_big_quiet_op; refine hK _ ?_; clear hK K)
          | (refine Txt.mix_re (by rfl) (by decide +kernel) (by rfl) (by rfl) (by go_simp) HB (fun K hK => ?_); go_big_quiet_op; refine hK _ ?_; clear hK K)
          | (refine Txt.mix_rl (by rfl) (by decide +kernel) (by rfl) (by rfl) (by go_simp) HB (fun K hK => ?_); go_big_quiet_op; refine hK _ ?_; clear hK K)
          | (refine Txt.mix_pass (by rfl) (by rfl) ?_; simp only [List.set_cons_succ, List.set_cons_zero]))
        obtain ⟨Aa, ca, rfl, hla, hra⟩ := how.reads
        have HOW := Lib.hid (own_weaken how (Nat.zero_le _))
        clear how
        have hln : (one (rit n k) bs).f6.length = bs.length + 1 := (may1_one (rit_may (by omega) (by omega)) HBM.out).len
        have HLN := Lib.hid hln
        clear hln
        have HAA := Lib.hid (And.intro hla hra)
        clear hla hra
        refine Txt.mix_m (fun g => .pointer (some ⟨g, 0, none⟩)) (acO z28 (.slice none 0 0)) (by rfl) (by decide +kernel) (fun w1 => by unfold acO; go_simp; rfl) HB ?_
        intro rb w7 hb7 hg7 ho7
        replace HB := HB.trans hb7
        have hrb : wr.heap.size ≤ rb := hg7
        simp only [Act.put, List.setIfInBounds_toArray, List.set_cons_succ, List.set_cons_zero]
        repeat (first
          | (refine Txt.mix_p (by rfl) rfl rfl (fun K hK => ?_); go_big_quiet_op; refine hK _ ?_; clear hK K)
          | (refine Txt.mix_re (by rfl) (by decide +kernel) (by rfl) (by rfl) (by go_simp) HB (fun K hK => ?_); go_big_quiet_op; refine hK _ ?_; clear hK K)
          | (refine Txt.mix_rl (by rfl) (by decide +kernel) (by rfl) (by rfl) (by go_simp) HB (fun K hK => ?_); go_big_quiet_op; refine hK _ ?_; clear hK K)
          | (refine Txt.mix_pass (by rfl) (by rfl) ?_; simp only [List.set_cons_succ, List.set_cons_zero]))
        refine Txt.mix_a (by rfl) (by decide +kernel) (fun K hK => ?_)
        obtain ⟨z0, z1, z2, z3, z4, z5, z6, z7, z8, z9, z10, z11, z12, zl⟩ := acO_facts ho7
        have hf := fun j => blk_free ho7 j
        simp only [acV, one]
        go_wp2_with fail
        clear z0 z1 z2 z3 z4 z5 z6 z7 z8 z9 z10 z11 z12 zl hf
        show Txt.wpMix _ _ _ _ _ _ _ (putA w7 rb (one (rit n k) bs) (.slice Aa (bs.length + 1) ca))
        have VR := Lib.hid (putA_blk (a := one (rit n k) bs) (v := .slice Aa (bs.length + 1) ca) ho7)
        have hch := putA_chg w7 rb (one (rit n k) bs) (.slice Aa (bs.length + 1) ca)
        have how3 : Own w3 0 (.slice Aa (bs.length + 1) ca) (one (rit n k) bs).f6 := by
          rw [← HLN.out]
          exact HOW.out
        have how7 := Own.below how3 hb7
        clear how3
        have HOW8 := Lib.hid (how7.keep hch (fun q hq e => own_no how7 ho7 (by rw [hq, e])))
        have HW8 := Lib.hid (Chg.base HB.undrew hch HB.undrew.size (fun i hi => by rw [hi]; exact hrb))
        clear how7 hch ho7 hb7 HOW HAA
        generalize putA w7 rb (one (rit n k) bs) (.slice Aa (bs.length + 1) ca) = w8 at *
        repeat (first
          | (refine Txt.mix_p (by rfl) rfl rfl (fun K hK => ?_); go_big_quiet_op; refine hK _ ?_; clear hK K)
          | (refine Txt.mix_re (by rfl) (by decide +kernel) (by rfl) (by rfl) (by go_simp) HB (fun K hK => ?_); go_big_quiet_op; refine hK _ ?_; clear hK K)
          | (refine Txt.mix_rl (by rfl) (by decide +kernel) (by rfl) (by rfl) (by go_simp) HB (fun K hK => ?_); go_big_quiet_op; refine hK _ ?_; clear hK K)
          | (refine Txt.mix_pass (by rfl) (by rfl) ?_; simp only [List.set_cons_succ, List.set_cons_zero]))
        refine Txt.mix_nil ?_
        go_wp2_with fail
        refine (num_any _ _).mono ?_
        rintro e w' ⟨rfl, rfl⟩
        replace HRO := Lib.hid (HRO.out.below HW8.out)
        replace HO := Lib.hid (HO.out.trans (HW8.out.mono HO.out.size))
        clear HB HW8 hrb
        obtain ⟨a0, a1, a2, a3, a4, a5, a6, a7, a8, a9, a10, a11, a12, al⟩ := acO_facts VR.out
        simp only [one] at a0 a1 a2 a3 a4 a5 a6 a7 a8 a9 a10 a11
        go_wp2_with (at_builtin; refine at_append _ _ _ rfl ?_)
        show AtAppend _ _ _ _ _ _ (w8.alloc (acO (one (rit n k) bs) (.slice Aa (bs.length + 1) ca)))
        clear a0 a1 a2 a3 a4 a5 a6 a7 a8 a9 a10 a11 a12 al
        have hb : Below w8.heap.size w8 (w8.alloc (acO (one (rit n k) bs) (.slice Aa (bs.length + 1) ca))) := (Below.refl _ _).alloc (Nat.le_refl _) _
        have hbk := heap_alloc_new w8 (acO (one (rit n k) bs) (.slice Aa (bs.length + 1) ca))
        have hlen : ((rits l k).map (fun x => one x bs)).length ≤ 20 := by rw [List.length_map, rits_len]; omega
        refine RowA.append (.tmp 72) (.tmp 74) rfl rfl (HRO.out.below hb) rfl w8.heap.size (one (rit n k) bs) (.slice Aa (bs.length + 1) ca) 1 rfl hbk (Own.below HOW8.out hb) rfl (by omega) ?_
        rintro v1 w9 hr9 hg9 hat
        have hb9 : Below w.heap.size w w9 := (HO.out.trans (hb.mono HO.out.size)).grown hg9 (Nat.le_trans HO.out.size hb.size) (fun b hb' => HX.out b hb')
        have hx9 : ∀ b, v1.ownBlock = some b → w.heap.size ≤ b := fun b hb' => by
          rcases hat with h | h
          · exact HX.out b (h.symm.trans hb')
          · rw [hb'] at h
            have e1 : b = (w8.alloc (acO (one (rit n k) bs) (.slice Aa (bs.length + 1) ca))).heap.size := by simpa using h
            have := HO.out.size
            have := hb.size
            omega
        rw [← HSN.out] at hr9
        have HR9 := Lib.hid hr9
        have HB9 := Lib.hid hb9
        have HX9 := Lib.hid hx9
        clear hr9 hb9 hx9 hg9 hat hb hbk hlen HRO HO HX HOW8 VR
        simp only [Act.put, List.setIfInBounds_toArray, List.set_cons_succ, List.set_cons_zero]
        go_wp2_with fail
        exact ⟨⟨k + 1, _, by go_num, by omega, HB9.out, HR9.out, HX9.out⟩, by simp [intOf] <;> omega⟩
      · obtain rfl : k = kk := by omega
        have hd : decide ((k : Int) < k) = false := decide_eq_false (by omega)
        have hk1 : wrap64 ((k : Int) - 1) = (k : Int) - 1 := by unfold wrap64; omega
        clear hlt
        have hlen : ((rits l k).map (fun x => one x bs)).length = k := by rw [List.length_map, rits_len]
        obtain ⟨A3, c3, rfl, hrd⟩ := HRO.out.reads
        rw [hlen] at HRO ⊢
        have HRD := Lib.hid hrd
        have HLN := Lib.hid hlen
        clear hrd hlen
        go_wp2_with fail
        clear hk1 hd
        go_loopw [10, 15] (fun v i wq => ∃ (j : Nat) (ds : List Value), i = .int .i64 ((j : Int) - 1) ∧ j ≤ k ∧ Below wr.heap.size wr wq ∧ RowA wq v ((((rits l k).drop j).reverse).map (fun x => one x bs)) ds ∧ Rel (∀ b, v.ownBlock = some b → wr.heap.size ≤ b)) (fun _ i _ => (intOf i + 1).toNat)
        case atStart => exact ⟨k, [], rfl, Nat.le_refl _, Below.refl _ _, by rw [List.drop_eq_nil_of_le (by rw [rits_len]; exact Nat.le_refl _)]; exact RowA.nil _, fun b hb => by simp [Value.ownBlock] at hb⟩
        case round =>
          obtain ⟨j, ds, rfl, hj, hb, hrow, hx2⟩ := hrel
          have HO2 := Lib.hid hb
          have HRO2 := Lib.hid hrow
          have HX2 := Lib.hid hx2
          clear hb hrow hx2
          by_cases hj0 : j = 0
          · subst hj0
            have hd : decide ((0 : Int) ≤ ((0 : Nat) : Int) - 1) = false := by decide
            go_wp2_with fail
            simp only [List.drop_zero] at HRO2
            generalize hz : wrap64 ((IntKind.u64.wrap cut).tmod ((k : Int) + 1)) = z at *
            obtain ⟨at_, rfl, hak⟩ : ∃ at_ : Nat, z = (at_ : Int) ∧ at_ ≤ k := by
              rw [← hz]
              exact at_nat _ _ hk20
            clear hz
            obtain ⟨oa, oc, od, ja, jb, jc, jd, jx, hcnt⟩ := rows_meet HBM.out l hk20 hak
            have HOL := Lib.hid (joinRes_len (by rw [ja]) (bs := bs) (a := oa) HBM.out)
            have JB := Lib.hid jb
            have JC := Lib.hid jc
            have JD := Lib.hid jd
            have JX := Lib.hid jx
            have HCN := Lib.hid hcnt
            have HAK := Lib.hid hak
            have hlr : (((rits l k).reverse).map (fun x => one x bs)).length = k := by rw [List.length_map, List.length_reverse, rits_len]
            obtain ⟨A4, c4, rfl, hrd4⟩ := HRO2.out.reads
            rw [hlr] at HRO2 ⊢
            have HRD4 := Lib.hid hrd4
            have HLR := Lib.hid hlr
            have hp := join_any bs ((rits l k).map (fun x => one x bs)) B d A3 c3 wr (Kd.C_below HBS.out (HO.out.trans (HO2.out.mono HO.out.size))) HD.out (HRD.out.below HO2.out) (by rw [HLN.out]; omega)
            rw [HLN.out, ja] at hp
            clear ja jb jc jd jx hcnt hak hlr hrd4
            have HB := Lib.hid (HO.out.trans (HO2.out.mono HO.out.size))
            replace HBS := Lib.hid (RdI.below HBS.out HB.out)
            replace HRD := Lib.hid (HRD.out.below HO2.out)
            have HCP := Lib.hid (And.intro HRO.out.cap HRO2.out.cap)
            clear HRO HRO2 HO HO2 HX HX2
            refine hp.mono ?_
            clear hp
            rintro e w5 ⟨vj, rfl, how, hb⟩
            obtain ⟨A5, c5, rfl, hlj, hrj⟩ := how.reads
            have hal : Below w5.heap.size w5 (w5.alloc (acO oa (.slice A5 oa.f6.length c5))) := (Below.refl _ _).alloc (Nat.le_refl _) _
            have hbb := hb.trans (hal.mono hb.size)
            replace HB := Lib.hid (HB.out.trans (hbb.mono HB.out.size))
            replace HBS := Lib.hid (RdI.below HBS.out hbb)
            replace HRD := Lib.hid (HRD.out.below hbb)
            replace HRD4 := Lib.hid (HRD4.out.below hbb)
            have V5 := Lib.hid (AVar.new (w := w5) (a := oa) hlj hrj)
            clear how hb hal hlj hrj hbb
            simp only [acV]
            go_wp2_with fail
            show Calls _ _ _ (w5.alloc (acO oa (.slice A5 oa.f6.length c5))) _
            change Hid (AVar (w5.alloc (acO oa (.slice A5 oa.f6.length c5))) _ _ _ _) at V5
            generalize w5.alloc (acO oa (.slice A5 oa.f6.length c5)) = x5 at *
            generalize w5.heap.size = b5 at *
            clear w5
            have hp := join_any bs (((rits l k).reverse).map (fun x => one x bs)) B d A4 c4 x5 HBS.out HD.out HRD4.out (by rw [HLR.out]; omega)
            rw [HLR.out, JB.out] at hp
            have hle : (at_ : Int) ≤ (c3 : Int) := by have := HCP.out.1; rw [HLN.out] at this; have := HAK.out; omega
            refine hp.mono ?_
            clear hp
            rintro e w6 ⟨vj, rfl, how, hb⟩
            obtain ⟨A6, c6, rfl, hlj, hrj⟩ := how.reads
            have hal : Below w6.heap.size w6 (w6.alloc (acO oa (.slice A6 oa.f6.length c6))) := (Below.refl _ _).alloc (Nat.le_refl _) _
            have hbb := hb.trans (hal.mono hb.size)
            replace HB := Lib.hid (HB.out.trans (hbb.mono HB.out.size))
            replace HBS := Lib.hid (RdI.below HBS.out hbb)
            replace HRD := Lib.hid (HRD.out.below hbb)
            replace HRD4 := Lib.hid (HRD4.out.below hbb)
            replace V5 := Lib.hid (V5.out.below hbb)
            have V6 := Lib.hid (AVar.new (w := w6) (a := oa) hlj hrj)
            clear how hb hal hlj hrj hbb
            simp only [acV]
            go_wp2_with fail
            show Calls _ _ _ (w6.alloc (acO oa (.slice A6 oa.f6.length c6))) _
            change Hid (AVar (w6.alloc (acO oa (.slice A6 oa.f6.length c6))) _ _ _ _) at V6
            generalize w6.alloc (acO oa (.slice A6 oa.f6.length c6)) = x6 at *
            generalize w6.heap.size = b6 at *
            clear w6
            clear hle
            have hl7 : (((rits l k).map (fun x => one x bs)).take at_).length = at_ := by rw [List.length_take, HLN.out]; have := HAK.out; omega
            have hp := join_any bs (((rits l k).map (fun x => one x bs)).take at_) B d A3 c3 x6 HBS.out HD.out (HRD.out.take at_ (fun b o h => h)) (by rw [hl7]; have := HAK.out; omega)
            rw [hl7, ← List.map_take, JC.out] at hp
            obtain ⟨A3', hcut, hA3⟩ := drop_any A3 k c3 at_ HAK.out
            have HA3 := Lib.hid hA3
            clear hl7 hA3
            refine hp.mono ?_
            clear hp
            rintro e w7 ⟨vj, rfl, how, hb⟩
            obtain ⟨A7, c7, rfl, hlj, hrj⟩ := how.reads
            have hal : Below w7.heap.size w7 (w7.alloc (acO oc (.slice A7 oc.f6.length c7))) := (Below.refl _ _).alloc (Nat.le_refl _) _
            have hbb := hb.trans (hal.mono hb.size)
            replace HB := Lib.hid (HB.out.trans (hbb.mono HB.out.size))
            replace HBS := Lib.hid (RdI.below HBS.out hbb)
            replace HRD := Lib.hid (HRD.out.below hbb)
            replace HRD4 := Lib.hid (HRD4.out.below hbb)
            replace V5 := Lib.hid (V5.out.below hbb)
            replace V6 := Lib.hid (V6.out.below hbb)
            have V7 := Lib.hid (AVar.new (w := w7) (a := oc) hlj hrj)
            clear how hb hal hlj hrj hbb
            simp only [acV]
            go_wp2_with fail
            show Calls _ _ _ (w7.alloc (acO oc (.slice A7 oc.f6.length c7))) _
            change Hid (AVar (w7.alloc (acO oc (.slice A7 oc.f6.length c7))) _ _ _ _) at V7
            generalize w7.alloc (acO oc (.slice A7 oc.f6.length c7)) = x7 at *
            generalize w7.heap.size = b7 at *
            clear w7
            clear hcut
            have hl8 : (((rits l k).map (fun x => one x bs)).drop at_).length = k - at_ := by rw [List.length_drop, HLN.out]
            have hp := join_any bs (((rits l k).map (fun x => one x bs)).drop at_) B d A3' (c3 - at_) x7 HBS.out HD.out (HRD.out.drop at_ HCP.out.1 HA3.out) (by rw [hl8]; omega)
            rw [hl8, ← List.map_drop, JD.out] at hp
            clear hl8
            refine hp.mono ?_
            clear hp
            rintro e w8 ⟨vj, rfl, how, hb⟩
            obtain ⟨A8, c8, rfl, hlj, hrj⟩ := how.reads
            have hal : Below w8.heap.size w8 (w8.alloc (acO od (.slice A8 od.f6.length c8))) := (Below.refl _ _).alloc (Nat.le_refl _) _
            have hbb := hb.trans (hal.mono hb.size)
            replace HB := Lib.hid (HB.out.trans (hbb.mono HB.out.size))
            replace HBS := Lib.hid (RdI.below HBS.out hbb)
            replace HRD := Lib.hid (HRD.out.below hbb)
            replace HRD4 := Lib.hid (HRD4.out.below hbb)
            replace V5 := Lib.hid (V5.out.below hbb)
            replace V6 := Lib.hid (V6.out.below hbb)
            replace V7 := Lib.hid (V7.out.below hbb)
            have V8 := Lib.hid (AVar.new (w := w8) (a := od) hlj hrj)
            clear how hb hal hlj hrj hbb
            simp only [acV]
            go_wp2_with (refine at_load _ rfl ?_)
            show AtOp _ _ _ _ _ (w8.alloc (acO od (.slice A8 od.f6.length c8)))
            change Hid (AVar (w8.alloc (acO od (.slice A8 od.f6.length c8))) _ _ _ _) at V8
            generalize w8.alloc (acO od (.slice A8 od.f6.length c8)) = x8 at *
            generalize w8.heap.size = b8 at *
            clear w8
            obtain ⟨c0_, c1_, c2_, c3_, c4_, c5_, c6_, c7_, c8_, c9_, c10_, c11_, c12_, cl⟩ := acO_facts V7.out.1
            obtain ⟨d0_, d1_, d2_, d3_, d4_, d5_, d6_, d7_, d8_, d9_, d10_, d11_, d12_, dl⟩ := acO_facts V8.out.1
            refine ⟨?_⟩
            go_wp2_with fail
            clear c0_ c1_ c2_ c3_ c4_ c5_ c6_ c7_ c8_ c9_ c10_ c11_ c12_ cl d0_ d1_ d2_ d3_ d4_ d5_ d6_ d7_ d8_ d9_ d10_ d11_ d12_ dl
            have hal : Below x8.heap.size x8 (x8.alloc (.cells #[.int .i64 od.f0, .int .i64 od.f1, .int .i64 od.f2, .int .i64 od.f3, .int .i64 od.f4.f0, .int .i64 od.f4.f1, .int .i64 od.f4.f2, .int .i64 od.f4.f3, .int .i64 od.f5.f0, .int .i64 od.f5.f1, .int .i64 od.f5.f2, .int .i64 od.f5.f3, .slice A8 od.f6.length c8, .int .i64 oc.f0, .int .i64 oc.f1, .int .i64 oc.f2, .int .i64 oc.f3, .int .i64 oc.f4.f0, .int .i64 oc.f4.f1, .int .i64 oc.f4.f2, .int .i64 oc.f4.f3, .int .i64 oc.f5.f0, .int .i64 oc.f5.f1, .int .i64 oc.f5.f2, .int .i64 oc.f5.f3, .slice A7 oc.f6.length c7] 28)) := (Below.refl _ _).alloc (Nat.le_refl _) _
            have h2 := rdA_two (x := od) (y := oc) (heap_alloc_new x8 (.cells #[.int .i64 od.f0, .int .i64 od.f1, .int .i64 od.f2, .int .i64 od.f3, .int .i64 od.f4.f0, .int .i64 od.f4.f1, .int .i64 od.f4.f2, .int .i64 od.f4.f3, .int .i64 od.f5.f0, .int .i64 od.f5.f1, .int .i64 od.f5.f2, .int .i64 od.f5.f3, .slice A8 od.f6.length c8, .int .i64 oc.f0, .int .i64 oc.f1, .int .i64 oc.f2, .int .i64 oc.f3, .int .i64 oc.f4.f0, .int .i64 oc.f4.f1, .int .i64 oc.f4.f2, .int .i64 oc.f4.f3, .int .i64 oc.f5.f0, .int .i64 oc.f5.f1, .int .i64 oc.f5.f2, .int .i64 oc.f5.f3, .slice A7 oc.f6.length c7] 28)) V8.out.2.1 (Kd.C_below V8.out.2.2 hal) V7.out.2.1 (Kd.C_below V7.out.2.2 hal)
            replace V5 := Lib.hid (V5.out.below hal)
            replace V6 := Lib.hid (V6.out.below hal)
            replace HB := Lib.hid (HB.out.trans (hal.mono HB.out.size))
            have hp := join_any bs [od, oc] B d (some ⟨x8.heap.size, 0, none⟩) 2 _ (RdI.below HBS.out hal) HD.out h2 (by simp)
            rw [JX.out] at hp
            refine hp.mono ?_
            clear hp
            rintro e w9 ⟨vj, rfl, how, hb⟩
            obtain ⟨A9, c9, rfl, hlj, hrj⟩ := how.reads
            have hal2 : Below w9.heap.size w9 (w9.alloc (acO oa (.slice A9 oa.f6.length c9))) := (Below.refl _ _).alloc (Nat.le_refl _) _
            have hbb := hb.trans (hal2.mono hb.size)
            replace HB := Lib.hid (HB.out.trans (hbb.mono HB.out.size))
            replace V5 := Lib.hid (V5.out.below hbb)
            replace V6 := Lib.hid (V6.out.below hbb)
            have V9 := Lib.hid (AVar.new (w := w9) (a := oa) hlj hrj)
            clear how hb hal hlj hrj hbb h2 V7 V8 HBS HRD HRD4 hal2
            simp only [acV]
            go_wp2_with fail
            show Calls _ _ _ (w9.alloc (acO oa (.slice A9 oa.f6.length c9))) _
            change Hid (AVar (w9.alloc (acO oa (.slice A9 oa.f6.length c9))) _ _ _ _) at V9
            generalize w9.alloc (acO oa (.slice A9 oa.f6.length c9)) = x9 at *
            generalize w9.heap.size = b9 at *
            clear w9
            refine (num_any _ _).mono ?_
            rintro e w' ⟨rfl, rfl⟩
            go_wp2_with fail
            refine (num_any _ _).mono ?_
            rintro e w' ⟨rfl, rfl⟩
            go_wp2_with fail
            refine (num_any _ _).mono ?_
            rintro e w' ⟨rfl, rfl⟩
            go_wp2_with fail
            refine (num_any _ _).mono ?_
            rintro e w' ⟨rfl, rfl⟩
            go_wp2_with fail
            refine (num_any _ _).mono ?_
            rintro e w' ⟨rfl, rfl⟩
            obtain ⟨m0, m1, m2, m3, m4, m5, m6, m7, m8, m9, m10, m11, m12, ml⟩ := acO_facts V5.out.1
            obtain ⟨n0, n1, n2, n3, n4, n5, n6, n7, n8, n9, n10, n11, n12, nl⟩ := acO_facts V6.out.1
            go_wp2_with fail
            clear m0 m1 m2 m3 m4 m5 m6 m7 m8 m9 m10 m11 m12 ml
            clear n0 n1 n2 n3 n4 n5 n6 n7 n8 n9 n10 n11 n12 nl
            refine (same_yes oa A5 A6 c5 c6 _ V5.out.2.2 V5.out.2.1 V6.out.2.2 V6.out.2.1 (by have := HOL.out; omega)).mono ?_
            rintro e w' ⟨rfl, hb⟩
            replace HB := Lib.hid (HB.out.trans (hb.mono HB.out.size))
            replace V5 := Lib.hid (V5.out.below hb)
            replace V9 := Lib.hid (V9.out.below hb)
            clear hb V6
            obtain ⟨m0, m1, m2, m3, m4, m5, m6, m7, m8, m9, m10, m11, m12, ml⟩ := acO_facts V5.out.1
            obtain ⟨n0, n1, n2, n3, n4, n5, n6, n7, n8, n9, n10, n11, n12, nl⟩ := acO_facts V9.out.1
            go_wp2_with fail
            clear m0 m1 m2 m3 m4 m5 m6 m7 m8 m9 m10 m11 m12 ml
            clear n0 n1 n2 n3 n4 n5 n6 n7 n8 n9 n10 n11 n12 nl
            refine (same_yes oa A5 A9 c5 c9 _ V5.out.2.2 V5.out.2.1 V9.out.2.2 V9.out.2.1 (by have := HOL.out; omega)).mono ?_
            rintro e w' ⟨rfl, hb⟩
            replace HB := Lib.hid (HB.out.trans (hb.mono HB.out.size))
            replace V5 := Lib.hid (V5.out.below hb)
            clear hb V9
            obtain ⟨m0, m1, m2, m3, m4, m5, m6, m7, m8, m9, m10, m11, m12, ml⟩ := acO_facts V5.out.1
            have hcn : (oa.f0 == (k : Int)) = true := by rw [HCN.out]; exact beq_self_eq_true _
            go_wp2_with fail
            go_ret
            exact ⟨rfl, HB.out⟩
          · obtain ⟨i, rfl⟩ : ∃ i, j = i + 1 := ⟨j - 1, by omega⟩
            have hd : decide ((0 : Int) ≤ ((i + 1 : Nat) : Int) - 1) = true := decide_eq_true (by omega)
            have hii : ((i + 1 : Nat) : Int) - 1 = (i : Int) := by omega
            have hi1 : wrap64 ((i : Int) - 1) = (i : Int) - 1 := by unfold wrap64; omega
            rw [hii] at hd ⊢
            have HSN := Lib.hid (rits_rev (bs := bs) (l := l) (k := k) (i := i) (by omega))
            obtain ⟨b, cap, u, hv, hu, hbl, e0, e1, e2, e3, e4, e5, e6, e7, e8, e9, e10, e11, e12⟩ := (HRO.out.below HO2.out).get (i := i) (by rw [HLN.out]; omega)
            injection hv with hv1 hv2 hv3
            subst hv1 hv3
            have HU := Lib.hid hu
            generalize ((rits l k).map (fun x => one x bs)).getD i z28 = y at *
            simp only [Nat.add_zero] at e0
            clear hu hv2 hii
            go_wp2_with (at_builtin; refine at_append _ _ _ rfl ?_)
            show AtAppend _ _ _ _ _ _ (wr.alloc (acO y u))
            clear e0 e1 e2 e3 e4 e5 e6 e7 e8 e9 e10 e11 e12 hbl
            have hb : Below wr.heap.size wr (wr.alloc (acO y u)) := (Below.refl _ _).alloc (Nat.le_refl _) _
            have hbk := heap_alloc_new wr (acO y u)
            have hll : ((((rits l k).drop (i + 1)).reverse).map (fun x => one x bs)).length ≤ 20 := by rw [List.length_map, List.length_reverse, List.length_drop, rits_len]; omega
            refine RowA.append (.tmp 82) (.tmp 87) rfl rfl (HRO2.out.below hb) rfl wr.heap.size y u 1 rfl hbk (Own.below HU.out hb) (own_cell1 HU.out) (by omega) ?_
            rintro v1 w9 hr9 hg9 hat
            have hb9 := (HO2.out.trans (hb.mono HO2.out.size)).grown hg9 (Nat.le_trans HO2.out.size hb.size) (fun b hb' => HX2.out b hb')
            have hx9 : ∀ b', v1.ownBlock = some b' → _ ≤ b' := fun b' hb' => by
              rcases hat with h | h
              · exact HX2.out b' (h.symm.trans hb')
              · rw [hb'] at h
                have e1 : b' = (wr.alloc (acO y u)).heap.size := by simpa using h
                exact Nat.le_trans (Nat.le_trans HO2.out.size hb.size) (by omega)
            rw [← HSN.out] at hr9
            have HR9 := Lib.hid hr9
            have HB9 := Lib.hid hb9
            have HX9 := Lib.hid hx9
            clear hr9 hb9 hx9 hg9 hat hb hbk hll HRO HO HX HO2 HX2 HRO2 HU
            simp only [Act.put, List.setIfInBounds_toArray, List.set_cons_succ, List.set_cons_zero]
            go_wp2_with fail
            exact ⟨⟨i, _, by go_num, by omega, HB9.out, HR9.out, HX9.out⟩, by simp [intOf] <;> omega⟩
theorem rows_walk (A : Option Addr) (l : List Int) (c : Nat) (cut : Int) (B : Option Addr) (bs : List Int) (d : Nat) (w : World) (hA : RdI w A l) (hl : l.length * 8 ≤ 140737488351232) (_ : ∀ n ∈ l, (Lit.int .i64 n).wf = true) (_ : (Lit.int .i64 cut).wf = true) (hB : RdI w B bs) (hd : bs.length ≤ d) (hbl : bs.length * 8 ≤ 140737488351232) :
    Calls Try.prog 10 #[.slice A l.length c, .int .i64 cut, .slice B bs.length d] w fun e w' => e = .returned (.bool true) ∧ Below w.heap.size w w' := rows_any A l c cut B bs d w hA (by omega) hB hd (by omega)
end Go.Proofs.Ytggaefklcpbfnaa.My
