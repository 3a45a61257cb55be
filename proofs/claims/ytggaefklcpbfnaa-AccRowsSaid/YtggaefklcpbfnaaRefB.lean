/- One, as the document tells it, walked. No statement of the seed is proved here. -/
import Derived.Test.YtggaefklcpbfnaaAccU
import Derived.Test.YtggaefklcpbfnaaPaRLeaf
namespace Go.Proofs.Ytggaefklcpbfnaa.My
open Go.RowKit Pa Go.Proofs.YtggaefklcpbfnaaW.PrintWords
attribute [local go_sem high] eqA26

theorem rwm_f (x : Int) : bourneref1_within.f x 1099511627776 = some (wm x) := by
  unfold bourneref1_within.f wm
  have e : wrap64 (-1099511627776) = -1099511627776 := by unfold wrap64; rfl
  simp only [e]
  by_cases h3 : x ≥ -1099511627776 <;> by_cases h4 : x ≤ 1099511627776 <;> simp [h3, h4] <;> omega
theorem rimay_f (x : S26) : bourneref1_ItemMay.f x.f0 x.f1 x.f2 x.f3 = some (imay x) := by
  unfold bourneref1_ItemMay.f bourneref1_within.f imay
  have e : wrap64 (-1099511627776) = -1099511627776 := by unfold wrap64; rfl
  simp only [e]
  by_cases h1 : x.f0 ≥ 0 <;> by_cases h2 : x.f0 ≤ 1048575 <;> by_cases h3 : x.f1 ≥ -1099511627776 <;> by_cases h4 : x.f1 ≤ 1099511627776 <;> by_cases h5 : x.f2 ≥ 1 <;> by_cases h6 : x.f2 ≤ 1073741823 <;> by_cases h7 : x.f3 ≥ -1099511627776 <;> by_cases h8 : x.f3 ≤ 1099511627776 <;> simp [h1, h2, h3, h4, h5, h6, h7, h8] <;> omega
theorem rbm_loop (l : List Int) (hl : l.length ≤ 9223372036854775807) : ∀ n i k, i + n = l.length → n < k → bourneref1_BoundsMay.l0 k l i = some (ball l n i && decide (l.length ≤ 8))
  | 0, i, 0, _, hk => absurd hk (by omega)
  | 0, i, k + 1, h, _ => by
    unfold bourneref1_BoundsMay.l0 ball
    rw [if_neg (by omega)]
    by_cases h8 : l.length ≤ 8
    · rw [decide_eq_true h8, decide_eq_true (by omega)]
      rfl
    · rw [decide_eq_false h8, decide_eq_false (by omega)]
      rfl
  | n + 1, i, 0, _, hk => absurd hk (by omega)
  | n + 1, i, k + 1, h, hk => by
    have ih := rbm_loop l hl n (i + 1) k (by omega) (by omega)
    unfold bourneref1_BoundsMay.l0 ball
    rw [if_pos (by omega), if_pos (by omega)]
    have e1 : rd l (i : Int) = l.getD i 0 := by simp [rd]
    rw [e1, rwm_f]
    simp only [Option.bind_some]
    rw [show wrap64 ((i : Int) + 1) = ((i + 1 : Nat) : Int) by unfold wrap64; omega, ih]
    unfold bok
    by_cases h1 : wm (l.getD i 0) = true
    · rw [if_pos h1, h1]
      by_cases h0 : i = 0
      · subst h0
        simp
      · rw [if_pos (by omega)]
        have e2 : wrap64 ((i : Int) - 1) = ((i - 1 : Nat) : Int) := by unfold wrap64; omega
        rw [e2, if_pos (by omega), if_pos (by omega)]
        have e3 : rd l ((i - 1 : Nat) : Int) = l.getD (i - 1) 0 := by simp [rd]
        rw [e3]
        by_cases h2 : l.getD (i - 1) 0 ≥ l.getD i 0
        · rw [if_pos h2, show decide (l.getD (i - 1) 0 < l.getD i 0) = false from decide_eq_false (by omega), decide_eq_false h0]
          simp
        · rw [if_neg h2, show decide (l.getD (i - 1) 0 < l.getD i 0) = true from decide_eq_true (by omega), decide_eq_false h0]
          simp
    · have h1' : wm (l.getD i 0) = false := by
        cases h' : wm (l.getD i 0)
        · rfl
        · exact absurd h' h1
      rw [if_neg h1, h1']
      rfl
theorem rbmay_f (l : List Int) (hl : l.length ≤ 9223372036854775807) : bourneref1_BoundsMay.f (l.length + 1) l = some (bmay l) := by
  unfold bourneref1_BoundsMay.f bmay
  have := rbm_loop l hl l.length 0 (l.length + 1) (by omega) (by omega)
  rw [Int.natCast_zero] at this
  rw [this, Bool.and_comm]
theorem rbk_loop (l : List Int) (v : Int) (hl : l.length ≤ 8) : ∀ n i k, i + n = l.length → n < k → bourneref1_bucket.l0 k v l i = some ((bkt l v n i : Nat) : Int)
  | 0, i, 0, _, hk => absurd hk (by omega)
  | 0, i, k + 1, h, _ => by
    unfold bourneref1_bucket.l0 bkt
    rw [if_neg (by omega)]
  | n + 1, i, 0, _, hk => absurd hk (by omega)
  | n + 1, i, k + 1, h, hk => by
    have ih := rbk_loop l v hl n (i + 1) k (by omega) (by omega)
    unfold bourneref1_bucket.l0 bkt
    rw [if_pos (by omega), if_pos (by omega), wrap_up (by omega), ih]
    have e1 : rd l (i : Int) = l.getD i 0 := by simp [rd]
    rw [e1]
    by_cases h1 : v ≤ l.getD i 0
    · rw [if_neg (by omega), if_pos h1]
    · rw [if_pos (by omega), if_neg h1]
theorem rbucket_f (l : List Int) (v : Int) (hl : l.length ≤ 8) : bourneref1_bucket.f 9 v l = some ((bucket l v : Nat) : Int) := rbk_loop l v hl l.length 0 9 (by omega) (by omega)
theorem rbm_any (bs : List Int) (A : Option Addr) (c : Nat) (w : World) (hr : Kd.C (Kd.int .i64) w A bs.length bs) (hc : bs.length ≤ c) (hl : bs.length ≤ 9223372036854775807) :
    Calls Try.prog 37 #[.slice A bs.length c] w fun e w' => e = .returned (.bool (bmay bs)) ∧ Below w.heap.size w w' :=
  (bourneref1_BoundsMay.calls (bs.length + 1) A c bs _ w hr hc (rbmay_f bs hl)).mono fun _ _ h => ⟨h.1, h.2.below⟩
theorem rim_any (x : S26) (w : World) :
    Calls Try.prog 48 #[.agg #[.int .i64 x.f0, .int .i64 x.f1, .int .i64 x.f2, .int .i64 x.f3]] w fun e w' => e = .returned (.bool (imay x)) ∧ Below w.heap.size w w' :=
  bourneref1_ItemMay.calls _ _ _ _ _ w (rimay_f x)
theorem rbucket_any (bs : List Int) (v : Int) (A : Option Addr) (c : Nat) (w : World) (hr : Kd.C (Kd.int .i64) w A bs.length bs) (hc : bs.length ≤ c) (hl : bs.length ≤ 8) :
    Calls Try.prog 49 #[.int .i64 v, .slice A bs.length c] w fun e w' => e = .returned (.int .i64 (bucket bs v : Nat)) ∧ Below w.heap.size w w' :=
  (bourneref1_bucket.calls 9 v A c bs _ w hr hc (rbucket_f bs v hl)).mono fun _ _ h => ⟨h.1, h.2.below⟩

set_option maxHeartbeats 2000000 in
set_option maxRecDepth 100000 in
theorem rone_any (x : S26) (bs : List Int) (A : Option Addr) (c : Nat) (w : World) (hr : RdI w A bs) (hc : bs.length ≤ c) :
    Calls Try.prog 29 #[.agg #[.int .i64 x.f0, .int .i64 x.f1, .int .i64 x.f2, .int .i64 x.f3], .slice A bs.length c] w fun e w' => ∃ v, e = .returned (.tuple #[acV (oneRes x bs).1 v, .int .i64 (oneRes x bs).2]) ∧ Own w' w.heap.size v (oneRes x bs).1.f6 ∧ Below w.heap.size w w' := by
  have HR := Lib.hid hr
  have HC := Lib.hid hc
  clear hr hc
  go_enter Try.func29, Try.ntmps29
  go_wp2_with fail
  have hx : ((w.alloc (itO x)).alloc (acO z28 (.slice none 0 0))).heap[w.heap.size]? = some (itO x) := blk_below (heap_alloc_new w (itO x)) ((Below.refl _ _).alloc (Nat.le_refl _) _)
  have hz : ((w.alloc (itO x)).alloc (acO z28 (.slice none 0 0))).heap[w.heap.size + 1]? = some (acO z28 (.slice none 0 0)) := by
    have := heap_alloc_new (w.alloc (itO x)) (acO z28 (.slice none 0 0))
    simpa using this
  have hB : Below w.heap.size w ((w.alloc (itO x)).alloc (acO z28 (.slice none 0 0))) := ((Below.refl w.heap.size w).alloc (Nat.le_refl _) _).alloc (by simp) _
  refine (rim_any x _).mono ?_
  rintro e w1 ⟨rfl, hb⟩
  have HX := Lib.hid (blk_below hx hb)
  have HZ := Lib.hid (blk_below hz hb)
  have HB1 := Lib.hid (hB.trans (hb.mono hB.size))
  clear hx hz hB hb
  by_cases h1 : imay x = true
  · rw [h1]
    go_wp2_with fail
    refine (rbm_any bs A c _ (Kd.C_below HR.out HB1.out) HC.out (by have := HR.out.2.1; unfold maxLen at this; exact this)).mono ?_
    rintro e w2 ⟨rfl, hb⟩
    replace HX := Lib.hid (blk_below HX.out hb)
    replace HZ := Lib.hid (blk_below HZ.out hb)
    replace HB1 := Lib.hid (HB1.out.trans (hb.mono HB1.out.size))
    clear hb
    by_cases h2 : bmay bs = true
    · have hl := bmay_len h2
      have hres : oneRes x bs = (one x bs, 0) := by unfold oneRes; rw [h1, h2]; rfl
      have HRES := Lib.hid hres
      rw [h2]
      clear hres h1 h2
      obtain ⟨x0, x1, x2, x3, xl⟩ := itO_facts HX.out
      go_wp2_with fail
      refine Txt.wp_region_mix (by kernel_rfl) (by kernel_rfl) (fun HB => ?_)
      repeat (first
        | (refine Txt.mix_p (by rfl) rfl rfl (fun K hK => ?_); go_big_quiet_op; refine hK _ ?_; clear hK K)
        | (refine Txt.mix_re (by rfl) (by decide +kernel) (by rfl) (by rfl) (by go_simp) HB (fun K hK => ?_); go_big_quiet_op; refine hK _ ?_; clear hK K)
        | (refine Txt.mix_rl (by rfl) (by decide +kernel) (by rfl) (by rfl) (by go_simp) HB (fun K hK => ?_); go_big_quiet_op; refine hK _ ?_; clear hK K)
        | (refine Txt.mix_pass (by rfl) (by rfl) ?_; simp only [List.set_cons_succ, List.set_cons_zero]))
      refine Txt.mix_m (fun g => .slice (some ⟨g, 0, none⟩) (bs.length + 1) (bs.length + 1)) (.cells (Array.replicate (bs.length + 1) (.int .i64 0)) 3) (by rfl) (by decide +kernel) (fun w1 => by
        go_simp
        rw [show ((bs.length : Int) + 1) = ((bs.length + 1 : Nat) : Int) by omega, make_ints _ (by omega)]
        rfl) HB ?_
      intro gb w3 hb2 hg2 ho2
      replace HB := HB.trans hb2
      have HG := Lib.hid ho2
      have HGB := Lib.hid hg2
      clear hb2 ho2 hg2
      simp only [Act.put, List.setIfInBounds_toArray, List.set_cons_succ, List.set_cons_zero]
      repeat (first
        | (refine Txt.mix_p (by rfl) rfl rfl (fun K hK => ?_); go_big_quiet_op; refine hK _ ?_; clear hK K)
        | (refine Txt.mix_re (by rfl) (by decide +kernel) (by rfl) (by rfl) (by go_simp) HB (fun K hK => ?_); go_big_quiet_op; refine hK _ ?_; clear hK K)
        | (refine Txt.mix_rl (by rfl) (by decide +kernel) (by rfl) (by rfl) (by go_simp) HB (fun K hK => ?_); go_big_quiet_op; refine hK _ ?_; clear hK K)
        | (refine Txt.mix_pass (by rfl) (by rfl) ?_; simp only [List.set_cons_succ, List.set_cons_zero]))
      refine Txt.mix_m (fun g => .pointer (some ⟨g, 0, none⟩)) (acO z28 (.slice none 0 0)) (by rfl) (by decide +kernel) (fun w1 => by unfold acO; go_simp; rfl) HB ?_
      intro oa w4 hb4 hg4 ho4
      replace HG := Lib.hid (blk_below HG.out hb4)
      replace HB := HB.trans hb4
      have HOA := Lib.hid hg4
      clear hb4 hg4
      simp only [Act.put, List.setIfInBounds_toArray, List.set_cons_succ, List.set_cons_zero]
      repeat (first
        | (refine Txt.mix_p (by rfl) rfl rfl (fun K hK => ?_); go_big_quiet_op; refine hK _ ?_; clear hK K)
        | (refine Txt.mix_re (by rfl) (by decide +kernel) (by rfl) (by rfl) (by go_simp) HB (fun K hK => ?_); go_big_quiet_op; refine hK _ ?_; clear hK K)
        | (refine Txt.mix_rl (by rfl) (by decide +kernel) (by rfl) (by rfl) (by go_simp) HB (fun K hK => ?_); go_big_quiet_op; refine hK _ ?_; clear hK K)
        | (refine Txt.mix_pass (by rfl) (by rfl) ?_; simp only [List.set_cons_succ, List.set_cons_zero]))
      refine Txt.mix_a (by rfl) (by decide +kernel) (fun K hK => ?_)
      obtain ⟨z0, z1, z2, z3, z4, z5, z6, z7, z8, z9, z10, z11, z12, zl⟩ := acO_facts ho4
      have hf := fun j => blk_free ho4 j
      go_wp2_with fail
      clear z0 z1 z2 z3 z4 z5 z6 z7 z8 z9 z10 z11 z12 zl hf x0 x1 x2 x3 xl
      show Txt.wpMix _ _ _ _ _ _ _ (putA w4 oa ⟨1, x.f3, x.f3, x.f3, x, x, []⟩ (.slice (some ⟨gb, 0, none⟩) (bs.length + 1) (bs.length + 1)))
      have ho5 := putA_blk (a := ⟨1, x.f3, x.f3, x.f3, x, x, []⟩) (v := .slice (some ⟨gb, 0, none⟩) (bs.length + 1) (bs.length + 1)) ho4
      have hc5 := putA_chg w4 oa ⟨1, x.f3, x.f3, x.f3, x, x, []⟩ (.slice (some ⟨gb, 0, none⟩) (bs.length + 1) (bs.length + 1))
      have hne : gb ≠ oa := fun e => by
        have h5 := HG.out
        rw [e, ho4] at h5
        unfold acO at h5
        injection h5 with h5
        injection h5 with _ h5
        exact absurd h5 (by decide)
      have hl2 := blk_lt HX.out
      have hl3 := blk_lt HZ.out
      have hoa : w2.heap.size ≤ oa := HOA.out
      have hgb : w2.heap.size ≤ gb := HGB.out
      have HX5 := Lib.hid (hc5.obj (blk_below HX.out HB.undrew) (by omega))
      have HZ5 := Lib.hid (hc5.obj (blk_below HZ.out HB.undrew) (by omega))
      have HG5 := Lib.hid (hc5.obj HG.out hne)
      have HB5 := Lib.hid (Chg.base (HB1.out.trans (HB.undrew.mono HB1.out.size)) hc5 (Nat.le_trans HB1.out.size HB.undrew.size) (fun i hi => by have := HB1.out.size; omega))
      have HO5 := Lib.hid ho5
      have HNE := Lib.hid (And.intro hne (And.intro (show w.heap.size + 1 ≠ oa by omega) (And.intro (show w.heap.size + 1 ≠ gb by omega) (show w.heap.size ≤ gb by omega))))
      clear ho5 hc5 hne hl2 hl3 hoa hgb HX HZ HG HB HB1 HGB HOA ho4
      generalize putA w4 oa ⟨1, x.f3, x.f3, x.f3, x, x, []⟩ (.slice (some ⟨gb, 0, none⟩) (bs.length + 1) (bs.length + 1)) = w5 at *
      refine Txt.mix_nil ?_
      obtain ⟨x0, x1, x2, x3, xl⟩ := itO_facts HX5.out
      obtain ⟨z0, z1, z2, z3, z4, z5, z6, z7, z8, z9, z10, z11, z12, zl⟩ := acO_facts HO5.out
      go_wp2_with fail
      refine Txt.wp_region_mix (by kernel_rfl) (by kernel_rfl) (fun HB => ?_)
      repeat (first
        | (refine Txt.mix_p (by rfl) rfl rfl (fun K hK => ?_); go_big_quiet_op; refine hK _ ?_; clear hK K)
        | (refine Txt.mix_re (by rfl) (by decide +kernel) (by rfl) (by rfl) (by go_simp) HB (fun K hK => ?_); go_big_quiet_op; refine hK _ ?_; clear hK K)
        | (refine Txt.mix_rl (by rfl) (by decide +kernel) (by rfl) (by rfl) (by go_simp) HB (fun K hK => ?_); go_big_quiet_op; refine hK _ ?_; clear hK K)
        | (refine Txt.mix_pass (by rfl) (by rfl) ?_; simp only [List.set_cons_succ, List.set_cons_zero]))
      refine Txt.mix_c (by rfl) (by decide +kernel) HB ?_
      intro w6 hw6 K hK
      replace HB := HB.trans hw6
      clear hw6
      go_wp2_with fail
      refine (rbucket_any bs x.f3 A c _ (Kd.C_below (Kd.C_below HR.out HB5.out) HB.undrew) HC.out hl).mono ?_
      rintro e w7 ⟨rfl, hb⟩
      refine hK _ _ ⟨hb, ?_⟩
      replace HB := HB.trans hb
      clear hK K hb
      have hbk := bucket_le bs x.f3
      generalize hbe : bucket bs x.f3 = bk at *
      repeat (first
        | (refine Txt.mix_p (by rfl) rfl rfl (fun K hK => ?_); go_big_quiet_op; refine hK _ ?_; clear hK K)
        | (refine Txt.mix_re (by rfl) (by decide +kernel) (by rfl) (by rfl) (by go_simp) HB (fun K hK => ?_); go_big_quiet_op; refine hK _ ?_; clear hK K)
        | (refine Txt.mix_rl (by rfl) (by decide +kernel) (by rfl) (by rfl) (by go_simp) HB (fun K hK => ?_); go_big_quiet_op; refine hK _ ?_; clear hK K)
        | (refine Txt.mix_pass (by rfl) (by rfl) ?_; simp only [List.set_cons_succ, List.set_cons_zero]))
      refine Txt.mix_a (by rfl) (by decide +kernel) (fun K hK => ?_)
      have hg7 := blk_below HG5.out HB.undrew
      have hf := fun j => blk_free hg7 j
      have hgl := blk_lt hg7
      have hcl : w7.cell? ⟨gb, bk, none⟩ = some (.int .i64 0) := (blk_cell hg7 bk).trans (by rw [Array.getElem?_replicate, if_pos (by omega)])
      have HGW := Lib.hid hg7
      clear hg7
      go_wp2_with fail
      refine Txt.mix_nil ?_
      have hnn := HNE.out
      have hc8 := (Chg.refl (fun k => k = gb) w7).setCell (p := ⟨gb, bk, none⟩) (.inl rfl) (.int .i64 1)
      have ho8 := hc8.obj (blk_below HO5.out HB.undrew) (fun e => hnn.1 e.symm)
      have hz8 := hc8.obj (blk_below HZ5.out HB.undrew) hnn.2.2.1
      have hown : Own (w7.setCell ⟨gb, bk, none⟩ (.int .i64 1)) w.heap.size (.slice (some ⟨gb, 0, none⟩) (bs.length + 1) (bs.length + 1)) ((List.replicate (bs.length + 1) 0).set bk 1) := by
        have h0 := made_own (bs.length + 1) (by omega) w7 gb HGW.out w.heap.size hnn.2.2.2
        unfold Own at h0 ⊢
        rw [List.length_replicate] at h0
        have h1 := (World.ownsRow.stored h0 bk (.int .i64 1)).1
        rw [List.length_set, List.length_replicate, List.map_set]
        exact h1
      have hb8 := Chg.base (HB5.out.trans (HB.undrew.mono HB5.out.size)) hc8 (Nat.le_trans HB5.out.size HB.undrew.size) (fun i hi => by omega)
      have HOWN := Lib.hid hown
      have HB8 := Lib.hid hb8
      have HZ8 := Lib.hid hz8
      have hlz := blk_lt hz8
      clear hown hb8 hc8 HX5 HZ5 HG5 HB5 HO5 HB HGW hf hgl hcl x0 x1 x2 x3 xl
      clear z0 z1 z2 z3 z4 z5 z6 z7 z8 z9 z10 z11 z12 zl
      generalize w7.setCell ⟨gb, bk, none⟩ (.int .i64 1) = w8 at *
      obtain ⟨o0, o1, o2, o3, o4, o5, o6, o7, o8, o9, o10, o11, o12, ol⟩ := acO_facts ho8
      obtain ⟨z0, z1, z2, z3, z4, z5, z6, z7, z8, z9, z10, z11, z12, zl⟩ := acO_facts hz8
      have hf := fun j => blk_free hz8 j
      clear ho8 hz8
      go_wp2_with fail
      show bodyPost _ _ _ _ _ (putA w8 (w.heap.size + 1) ⟨1, x.f3, x.f3, x.f3, x, x, []⟩ (.slice (some ⟨gb, 0, none⟩) (bs.length + 1) (bs.length + 1)))
      have hz2 := putA_blk (a := ⟨1, x.f3, x.f3, x.f3, x, x, []⟩) (v := .slice (some ⟨gb, 0, none⟩) (bs.length + 1) (bs.length + 1)) HZ8.out
      have hch := putA_chg w8 (w.heap.size + 1) ⟨1, x.f3, x.f3, x.f3, x, x, []⟩ (.slice (some ⟨gb, 0, none⟩) (bs.length + 1) (bs.length + 1))
      refine bodyPost_ret (results_acc rfl _ _ (w.heap.size + 1) ⟨1, x.f3, x.f3, x.f3, x, x, []⟩ (.slice (some ⟨gb, 0, none⟩) (bs.length + 1) (bs.length + 1)) rfl hz2) rfl ?_
      refine ⟨.slice (some ⟨gb, 0, none⟩) (bs.length + 1) (bs.length + 1), ?_, ?_, ?_⟩
      · rw [HRES.out]; rfl
      · rw [HRES.out]
        have := HOWN.out.keep hch (fun k hk e => by
          have e1 : gb = k := by simpa [Value.ownBlock] using hk
          omega)
        rw [← hbe] at this
        exact this
      · have := HB8.out.size
        exact Chg.base HB8.out hch this (fun i hi => by omega)
    · have h2' : bmay bs = false := by
        cases h' : bmay bs
        · rfl
        · exact absurd h' h2
      have hres : oneRes x bs = (z28, 100) := by unfold oneRes; rw [h1, h2']; rfl
      have HRES := Lib.hid hres
      clear hres h1 h2
      rw [h2']
      obtain ⟨z0, z1, z2, z3, z4, z5, z6, z7, z8, z9, z10, z11, z12, zl⟩ := acO_facts HZ.out
      have hf := fun j => blk_free HZ.out j
      go_wp2_with fail
      show bodyPost _ _ _ _ _ (putA w2 (w.heap.size + 1) z28 (.slice none 0 0))
      have hz2 := putA_blk (a := z28) (v := .slice none 0 0) HZ.out
      have hc2 := HB1.out.size
      have hch := putA_chg w2 (w.heap.size + 1) z28 (.slice none 0 0)
      refine bodyPost_ret (results_acc rfl _ _ (w.heap.size + 1) z28 (.slice none 0 0) rfl hz2) rfl ?_
      refine ⟨.slice none 0 0, ?_, ?_, ?_⟩
      · rw [HRES.out]; rfl
      · rw [HRES.out]; exact Own.nil _ _
      · exact Chg.base HB1.out hch (by omega) (fun i hi => by omega)
  · have h1' : imay x = false := by
      cases h' : imay x
      · rfl
      · exact absurd h' h1
    have hres : oneRes x bs = (z28, 100) := by unfold oneRes; rw [h1']; rfl
    have HRES := Lib.hid hres
    clear hres h1
    rw [h1']
    obtain ⟨z0, z1, z2, z3, z4, z5, z6, z7, z8, z9, z10, z11, z12, zl⟩ := acO_facts HZ.out
    have hf := fun j => blk_free HZ.out j
    go_wp2_with fail
    show bodyPost _ _ _ _ _ (putA w1 (w.heap.size + 1) z28 (.slice none 0 0))
    have hz2 := putA_blk (a := z28) (v := .slice none 0 0) HZ.out
    have hc2 := HB1.out.size
    have hch := putA_chg w1 (w.heap.size + 1) z28 (.slice none 0 0)
    refine bodyPost_ret (results_acc rfl _ _ (w.heap.size + 1) z28 (.slice none 0 0) rfl hz2) rfl ?_
    refine ⟨.slice none 0 0, ?_, ?_, ?_⟩
    · rw [HRES.out]; rfl
    · rw [HRES.out]; exact Own.nil _ _
    · exact Chg.base HB1.out hch (by omega) (fun i hi => by omega)
end Go.Proofs.Ytggaefklcpbfnaa.My
