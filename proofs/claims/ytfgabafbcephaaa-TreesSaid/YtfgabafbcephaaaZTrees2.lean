/- Lemmas, contracts of functions and plain laws, part 2: what the row's proof uses. No statement of the seed is proved here. -/
import Derived.Test.YtfgabafbcephaaaZTrees1
import Derived.Test.YtfgabafbcephaaaYPaRLeaf
import Derived.Test.YtfgabafbcephaaaYPaBourneref1copyAcc
import Derived.Test.YtfgabafbcephaaaYWMore
import Derived.Lib.SliceRun
import Derived.Test.YtfgabafbcephaaaYPaItem17
import Derived.Test.YtfgabafbcephaaaYPaInts
namespace Go.Proofs.Ytfgabafbcephaaa.My
open Go.RowKit Pa Go.Proofs.YtfgabafbcephaaaW.PrintWords
attribute [local go_sem high] eqA34

theorem rwm_f (x : Int) : bourneref1_within.f x 1099511627776 = some (wm x) := by
  unfold bourneref1_within.f wm
  have e : wrap64 (-1099511627776) = -1099511627776 := by unfold wrap64; rfl
  simp only [e]
  by_cases h3 : x ≥ -1099511627776 <;> by_cases h4 : x ≤ 1099511627776 <;> simp [h3, h4] <;> omega
theorem rimay_f (x : S34) : bourneref1_ItemMay.f x.f0 x.f1 x.f2 x.f3 = some (imay x) := by
  unfold bourneref1_ItemMay.f bourneref1_within.f imay
  have e : wrap64 (-1099511627776) = -1099511627776 := by unfold wrap64; rfl
  simp only [e]
  by_cases h1 : x.f0 ≥ 0 <;> by_cases h2 : x.f0 ≤ 1048575 <;> by_cases h3 : x.f1 ≥ -1099511627776 <;> by_cases h4 : x.f1 ≤ 1099511627776 <;> by_cases h5 : x.f2 ≥ 1 <;> by_cases h6 : x.f2 ≤ 1073741823 <;> by_cases h7 : x.f3 ≥ -1099511627776 <;> by_cases h8 : x.f3 ≤ 1099511627776 <;> simp [h1, h2, h3, h4, h5, h6, h7, h8] <;> omega
theorem rbm_loop (l : List Int) (hl : l.length ≤ 9223372036854775807) : ∀ n i k, i + n = l.length → n < k → bourneref1_BoundsMay.l0 k l i = some (ball l n i && decide (l.length ≤ 8))
  | 0, i, 0, _, hk => absurd hk (by omega)
  | 0, i, k + 1, h, _ => by
    unfold bourneref1_BoundsMay.l0 ball
    rw [if_neg (by omega)]
    by_cases h8 : l.length ≤ 8
    · rw [decide_eq_true h8, decide_eq_true (by omega)]
      rfl
    · rw [decide_eq_false h8, decide_eq_false (by omega)]
      rfl
  | n + 1, i, 0, _, hk => absurd hk (by omega)
  | n + 1, i, k + 1, h, hk => by
    have ih := rbm_loop l hl n (i + 1) k (by omega) (by omega)
    unfold bourneref1_BoundsMay.l0 ball
    rw [if_pos (by omega), if_pos (by omega)]
    have e1 : rd l (i : Int) = l.getD i 0 := by simp [rd]
    rw [e1, rwm_f]
    simp only [Option.bind_some]
    rw [show wrap64 ((i : Int) + 1) = ((i + 1 : Nat) : Int) by unfold wrap64; omega, ih]
    unfold bok
    by_cases h1 : wm (l.getD i 0) = true
    · rw [if_pos h1, h1]
      by_cases h0 : i = 0
      · subst h0
        simp
      · rw [if_pos (by omega)]
        have e2 : wrap64 ((i : Int) - 1) = ((i - 1 : Nat) : Int) := by unfold wrap64; omega
        rw [e2, if_pos (by omega), if_pos (by omega)]
        have e3 : rd l ((i - 1 : Nat) : Int) = l.getD (i - 1) 0 := by simp [rd]
        rw [e3]
        by_cases h2 : l.getD (i - 1) 0 ≥ l.getD i 0
        · rw [if_pos h2, show decide (l.getD (i - 1) 0 < l.getD i 0) = false from decide_eq_false (by omega), decide_eq_false h0]
          simp
        · rw [if_neg h2, show decide (l.getD (i - 1) 0 < l.getD i 0) = true from decide_eq_true (by omega), decide_eq_false h0]
          simp
    · have h1' : wm (l.getD i 0) = false := by
        cases h' : wm (l.getD i 0)
        · rfl
        · exact absurd h' h1
      rw [if_neg h1, h1']
      rfl
theorem rbmay_f (l : List Int) (hl : l.length ≤ 9223372036854775807) : bourneref1_BoundsMay.f (l.length + 1) l = some (bmay l) := by
  unfold bourneref1_BoundsMay.f bmay
  have := rbm_loop l hl l.length 0 (l.length + 1) (by omega) (by omega)
  rw [Int.natCast_zero] at this
  rw [this, Bool.and_comm]
theorem rbk_loop (l : List Int) (v : Int) (hl : l.length ≤ 8) : ∀ n i k, i + n = l.length → n < k → bourneref1_bucket.l0 k v l i = some ((bkt l v n i : Nat) : Int)
  | 0, i, 0, _, hk => absurd hk (by omega)
  | 0, i, k + 1, h, _ => by
    unfold bourneref1_bucket.l0 bkt
    rw [if_neg (by omega)]
  | n + 1, i, 0, _, hk => absurd hk (by omega)
  | n + 1, i, k + 1, h, hk => by
    have ih := rbk_loop l v hl n (i + 1) k (by omega) (by omega)
    unfold bourneref1_bucket.l0 bkt
    rw [if_pos (by omega), if_pos (by omega), wrap_up (by omega), ih]
    have e1 : rd l (i : Int) = l.getD i 0 := by simp [rd]
    rw [e1]
    by_cases h1 : v ≤ l.getD i 0
    · rw [if_neg (by omega), if_pos h1]
    · rw [if_pos (by omega), if_neg h1]
theorem rbucket_f (l : List Int) (v : Int) (hl : l.length ≤ 8) : bourneref1_bucket.f 9 v l = some ((bucket l v : Nat) : Int) := rbk_loop l v hl l.length 0 9 (by omega) (by omega)
theorem rbm_any (bs : List Int) (A : Option Addr) (c : Nat) (w : World) (hr : Kd.C (Kd.int .i64) w A bs.length bs) (hc : bs.length ≤ c) (hl : bs.length ≤ 9223372036854775807) :
    Calls Try.prog 47 #[.slice A bs.length c] w fun e w' => e = .returned (.bool (bmay bs)) ∧ Below w.heap.size w w' :=
  (bourneref1_BoundsMay.calls (bs.length + 1) A c bs _ w hr hc (rbmay_f bs hl)).mono fun _ _ h => ⟨h.1, by first | exact h.2 | exact h.2.below⟩
theorem rim_any (x : S34) (w : World) :
    Calls Try.prog 67 #[.agg #[.int .i64 x.f0, .int .i64 x.f1, .int .i64 x.f2, .int .i64 x.f3]] w fun e w' => e = .returned (.bool (imay x)) ∧ Below w.heap.size w w' :=
  bourneref1_ItemMay.calls _ _ _ _ _ w (rimay_f x)
theorem rbucket_any (bs : List Int) (v : Int) (A : Option Addr) (c : Nat) (w : World) (hr : Kd.C (Kd.int .i64) w A bs.length bs) (hc : bs.length ≤ c) (hl : bs.length ≤ 8) :
    Calls Try.prog 80 #[.int .i64 v, .slice A bs.length c] w fun e w' => e = .returned (.int .i64 (bucket bs v : Nat)) ∧ Below w.heap.size w w' :=
  (bourneref1_bucket.calls 9 v A c bs _ w hr hc (rbucket_f bs v hl)).mono fun _ _ h => ⟨h.1, by first | exact h.2 | exact h.2.below⟩

set_option maxHeartbeats 2000000 in
set_option maxRecDepth 100000 in
theorem rone_any (x : S34) (bs : List Int) (A : Option Addr) (c : Nat) (w : World) (hr : RdI w A bs) (hc : bs.length ≤ c) :
    Calls Try.prog 53 #[.agg #[.int .i64 x.f0, .int .i64 x.f1, .int .i64 x.f2, .int .i64 x.f3], .slice A bs.length c] w fun e w' => ∃ v, e = .returned (.tuple #[acV (oneRes x bs).1 v, .int .i64 (oneRes x bs).2]) ∧ Own w' w.heap.size v (oneRes x bs).1.f6 ∧ Below w.heap.size w w' := by
  have HR := Lib.hid hr
  have HC := Lib.hid hc
  clear hr hc
  go_enter Try.func53, Try.ntmps53
  go_wp2_with fail
  have hx : ((w.alloc (itO x)).alloc (acO z36 (.slice none 0 0))).heap[w.heap.size]? = some (itO x) := blk_below (heap_alloc_new w (itO x)) ((Below.refl _ _).alloc (Nat.le_refl _) _)
  have hz : ((w.alloc (itO x)).alloc (acO z36 (.slice none 0 0))).heap[w.heap.size + 1]? = some (acO z36 (.slice none 0 0)) := by
    have := heap_alloc_new (w.alloc (itO x)) (acO z36 (.slice none 0 0))
    simpa using this
  have hB : Below w.heap.size w ((w.alloc (itO x)).alloc (acO z36 (.slice none 0 0))) := ((Below.refl w.heap.size w).alloc (Nat.le_refl _) _).alloc (by simp) _
  refine (rim_any x _).mono ?_
  rintro e w1 ⟨rfl, hb⟩
  have HX := Lib.hid (blk_below hx hb)
  have HZ := Lib.hid (blk_below hz hb)
  have HB1 := Lib.hid (hB.trans (hb.mono hB.size))
  clear hx hz hB hb
  by_cases h1 : imay x = true
  · rw [h1]
    go_wp2_with fail
    refine (rbm_any bs A c _ (Kd.C_below HR.out HB1.out) HC.out (by have := HR.out.2.1; unfold maxLen at this; exact this)).mono ?_
    rintro e w2 ⟨rfl, hb⟩
    replace HX := Lib.hid (blk_below HX.out hb)
    replace HZ := Lib.hid (blk_below HZ.out hb)
    replace HB1 := Lib.hid (HB1.out.trans (hb.mono HB1.out.size))
    clear hb
    by_cases h2 : bmay bs = true
    · have hl := bmay_len h2
      have hres : oneRes x bs = (one x bs, 0) := by unfold oneRes; rw [h1, h2]; rfl
      have HRES := Lib.hid hres
      rw [h2]
      clear hres h1 h2
      obtain ⟨x0, x1, x2, x3, xl⟩ := itO_facts HX.out
      go_wp2_with fail
      refine Txt.wp_region_mix (by kernel_rfl) (by kernel_rfl) (fun HB => ?_)
      repeat (first
        | (refine Txt.mix_p (by rfl) rfl rfl (fun K hK => ?_); go_big_quiet_op; refine hK _ ?_; clear hK K)
        | (refine Txt.mix_re (by rfl) (by decide +kernel) (by rfl) (by rfl) (by go_simp) HB (fun K hK => ?_); go_big_quiet_op; refine hK _ ?_; clear hK K)
        | (refine Txt.mix_rl (by rfl) (by decide +kernel) (by rfl) (by rfl) (by go_simp) HB (fun K hK => ?_); go_big_quiet_op; refine hK _ ?_; clear hK K)
        | (refine Txt.mix_pass (by rfl) (by rfl) ?_; simp only [List.set_cons_succ, List.set_cons_zero]))
      refine Txt.mix_m (fun g => .slice (some ⟨g, 0, none⟩) (bs.length + 1) (bs.length + 1)) (.cells (Array.replicate (bs.length + 1) (.int .i64 0)) 3) (by rfl) (by decide +kernel) (fun w1 => by
        go_simp
        rw [show ((bs.length : Int) + 1) = ((bs.length + 1 : Nat) : Int) by omega, make_ints _ (by omega)]
        rfl) HB ?_
      intro gb w3 hb2 hg2 ho2
      replace HB := HB.trans hb2
      have HG := Lib.hid ho2
      have HGB := Lib.hid hg2
      clear hb2 ho2 hg2
      simp only [Act.put, List.setIfInBounds_toArray, List.set_cons_succ, List.set_cons_zero]
      repeat (first
        | (refine Txt.mix_p (by rfl) rfl rfl (fun K hK => ?_); go_big_quiet_op; refine hK _ ?_; clear hK K)
        | (refine Txt.mix_re (by rfl) (by decide +kernel) (by rfl) (by rfl) (by go_simp) HB (fun K hK => ?_); go_big_quiet_op; refine hK _ ?_; clear hK K)
        | (refine Txt.mix_rl (by rfl) (by decide +kernel) (by rfl) (by rfl) (by go_simp) HB (fun K hK => ?_); go_big_quiet_op; refine hK _ ?_; clear hK K)
        | (refine Txt.mix_pass (by rfl) (by rfl) ?_; simp only [List.set_cons_succ, List.set_cons_zero]))
      refine Txt.mix_m (fun g => .pointer (some ⟨g, 0, none⟩)) (acO z36 (.slice none 0 0)) (by rfl) (by decide +kernel) (fun w1 => by unfold acO; go_simp; rfl) HB ?_
      intro oa w4 hb4 hg4 ho4
      replace HG := Lib.hid (blk_below HG.out hb4)
      replace HB := HB.trans hb4
      have HOA := Lib.hid hg4
      clear hb4 hg4
      simp only [Act.put, List.setIfInBounds_toArray, List.set_cons_succ, List.set_cons_zero]
      repeat (first
        | (refine Txt.mix_p (by rfl) rfl rfl (fun K hK => ?_); go_big_quiet_op; refine hK _ ?_; clear hK K)
        | (refine Txt.mix_re (by rfl) (by decide +kernel) (by rfl) (by rfl) (by go_simp) HB (fun K hK => ?_); go_big_quiet_op; refine hK _ ?_; clear hK K)
        | (refine Txt.mix_rl (by rfl) (by decide +kernel) (by rfl) (by rfl) (by go_simp) HB (fun K hK => ?_); go_big_quiet_op; refine hK _ ?_; clear hK K)
        | (refine Txt.mix_pass (by rfl) (by rfl) ?_; simp only [List.set_cons_succ, List.set_cons_zero]))
      refine Txt.mix_a (by rfl) (by decide +kernel) (fun K hK => ?_)
      obtain ⟨z0, z1, z2, z3, z4, z5, z6, z7, z8, z9, z10, z11, z12, zl⟩ := acO_facts ho4
      have hf := fun j => blk_free ho4 j
      go_wp2_with fail
      clear z0 z1 z2 z3 z4 z5 z6 z7 z8 z9 z10 z11 z12 zl hf x0 x1 x2 x3 xl
      show Txt.wpMix _ _ _ _ _ _ _ (putA w4 oa ⟨1, x.f3, x.f3, x.f3, x, x, []⟩ (.slice (some ⟨gb, 0, none⟩) (bs.length + 1) (bs.length + 1)))
      have ho5 := putA_blk (a := ⟨1, x.f3, x.f3, x.f3, x, x, []⟩) (v := .slice (some ⟨gb, 0, none⟩) (bs.length + 1) (bs.length + 1)) ho4
      have hc5 := putA_chg w4 oa ⟨1, x.f3, x.f3, x.f3, x, x, []⟩ (.slice (some ⟨gb, 0, none⟩) (bs.length + 1) (bs.length + 1))
      have hne : gb ≠ oa := fun e => by
        have h5 := HG.out
        rw [e, ho4] at h5
        unfold acO at h5
        injection h5 with h5
        injection h5 with _ h5
        exact absurd h5 (by decide)
      have hl2 := blk_lt HX.out
      have hl3 := blk_lt HZ.out
      have hoa : w2.heap.size ≤ oa := HOA.out
      have hgb : w2.heap.size ≤ gb := HGB.out
      have HX5 := Lib.hid (hc5.obj (blk_below HX.out HB.undrew) (by omega))
      have HZ5 := Lib.hid (hc5.obj (blk_below HZ.out HB.undrew) (by omega))
      have HG5 := Lib.hid (hc5.obj HG.out hne)
      have HB5 := Lib.hid (Chg.base (HB1.out.trans (HB.undrew.mono HB1.out.size)) hc5 (Nat.le_trans HB1.out.size HB.undrew.size) (fun i hi => by have := HB1.out.size; omega))
      have HO5 := Lib.hid ho5
      have HNE := Lib.hid (And.intro hne (And.intro (show w.heap.size + 1 ≠ oa by omega) (And.intro (show w.heap.size + 1 ≠ gb by omega) (show w.heap.size ≤ gb by omega))))
      clear ho5 hc5 hne hl2 hl3 hoa hgb HX HZ HG HB HB1 HGB HOA ho4
      generalize putA w4 oa ⟨1, x.f3, x.f3, x.f3, x, x, []⟩ (.slice (some ⟨gb, 0, none⟩) (bs.length + 1) (bs.length + 1)) = w5 at *
      refine Txt.mix_nil ?_
      obtain ⟨x0, x1, x2, x3, xl⟩ := itO_facts HX5.out
      obtain ⟨z0, z1, z2, z3, z4, z5, z6, z7, z8, z9, z10, z11, z12, zl⟩ := acO_facts HO5.out
      go_wp2_with fail
      refine Txt.wp_region_mix (by kernel_rfl) (by kernel_rfl) (fun HB => ?_)
      repeat (first
        | (refine Txt.mix_p (by rfl) rfl rfl (fun K hK => ?_); go_big_quiet_op; refine hK _ ?_; clear hK K)
        | (refine Txt.mix_re (by rfl) (by decide +kernel) (by rfl) (by rfl) (by go_simp) HB (fun K hK => ?_); go_big_quiet_op; refine hK _ ?_; clear hK K)
        | (refine Txt.mix_rl (by rfl) (by decide +kernel) (by rfl) (by rfl) (by go_simp) HB (fun K hK => ?_); go_big_quiet_op; refine hK _ ?_; clear hK K)
        | (refine Txt.mix_pass (by rfl) (by rfl) ?_; simp only [List.set_cons_succ, List.set_cons_zero]))
      refine Txt.mix_c (by rfl) (by decide +kernel) HB ?_
      intro w6 hw6 K hK
      replace HB := HB.trans hw6
      clear hw6
      go_wp2_with fail
      refine (rbucket_any bs x.f3 A c _ (Kd.C_below (Kd.C_below HR.out HB5.out) HB.undrew) HC.out hl).mono ?_
      rintro e w7 ⟨rfl, hb⟩
      refine hK _ _ ⟨hb, ?_⟩
      replace HB := HB.trans hb
      clear hK K hb
      have hbk := bucket_le bs x.f3
      generalize hbe : bucket bs x.f3 = bk at *
      repeat (first
        | (refine Txt.mix_p (by rfl) rfl rfl (fun K hK => ?_); go_big_quiet_op; refine hK _ ?_; clear hK K)
        | (refine Txt.mix_re (by rfl) (by decide +kernel) (by rfl) (by rfl) (by go_simp) HB (fun K hK => ?_); go_big_quiet_op; refine hK _ ?_; clear hK K)
        | (refine Txt.mix_rl (by rfl) (by decide +kernel) (by rfl) (by rfl) (by go_simp) HB (fun K hK => ?_); go_big_quiet_op; refine hK _ ?_; clear hK K)
        | (refine Txt.mix_pass (by rfl) (by rfl) ?_; simp only [List.set_cons_succ, List.set_cons_zero]))
      refine Txt.mix_a (by rfl) (by decide +kernel) (fun K hK => ?_)
      have hg7 := blk_below HG5.out HB.undrew
      have hf := fun j => blk_free hg7 j
      have hgl := blk_lt hg7
      have hcl : w7.cell? ⟨gb, bk, none⟩ = some (.int .i64 0) := (blk_cell hg7 bk).trans (by rw [Array.getElem?_replicate, if_pos (by omega)])
      have HGW := Lib.hid hg7
      clear hg7
      go_wp2_with fail
      refine Txt.mix_nil ?_
      have hnn := HNE.out
      have hc8 := (Chg.refl (fun k => k = gb) w7).setCell (p := ⟨gb, bk, none⟩) (.inl rfl) (.int .i64 1)
      have ho8 := hc8.obj (blk_below HO5.out HB.undrew) (fun e => hnn.1 e.symm)
      have hz8 := hc8.obj (blk_below HZ5.out HB.undrew) hnn.2.2.1
      have hown : Own (w7.setCell ⟨gb, bk, none⟩ (.int .i64 1)) w.heap.size (.slice (some ⟨gb, 0, none⟩) (bs.length + 1) (bs.length + 1)) ((List.replicate (bs.length + 1) 0).set bk 1) := by
        have h0 := made_own (bs.length + 1) (by omega) w7 gb HGW.out w.heap.size hnn.2.2.2
        unfold Own at h0 ⊢
        rw [List.length_replicate] at h0
        have h1 := (World.ownsRow.stored h0 bk (.int .i64 1)).1
        rw [List.length_set, List.length_replicate, List.map_set]
        exact h1
      have hb8 := Chg.base (HB5.out.trans (HB.undrew.mono HB5.out.size)) hc8 (Nat.le_trans HB5.out.size HB.undrew.size) (fun i hi => by omega)
      have HOWN := Lib.hid hown
      have HB8 := Lib.hid hb8
      have HZ8 := Lib.hid hz8
      have hlz := blk_lt hz8
      clear hown hb8 hc8 HX5 HZ5 HG5 HB5 HO5 HB HGW hf hgl hcl x0 x1 x2 x3 xl
      clear z0 z1 z2 z3 z4 z5 z6 z7 z8 z9 z10 z11 z12 zl
      generalize w7.setCell ⟨gb, bk, none⟩ (.int .i64 1) = w8 at *
      obtain ⟨o0, o1, o2, o3, o4, o5, o6, o7, o8, o9, o10, o11, o12, ol⟩ := acO_facts ho8
      obtain ⟨z0, z1, z2, z3, z4, z5, z6, z7, z8, z9, z10, z11, z12, zl⟩ := acO_facts hz8
      have hf := fun j => blk_free hz8 j
      clear ho8 hz8
      go_wp2_with fail
      show bodyPost _ _ _ _ _ (putA w8 (w.heap.size + 1) ⟨1, x.f3, x.f3, x.f3, x, x, []⟩ (.slice (some ⟨gb, 0, none⟩) (bs.length + 1) (bs.length + 1)))
      have hz2 := putA_blk (a := ⟨1, x.f3, x.f3, x.f3, x, x, []⟩) (v := .slice (some ⟨gb, 0, none⟩) (bs.length + 1) (bs.length + 1)) HZ8.out
      have hch := putA_chg w8 (w.heap.size + 1) ⟨1, x.f3, x.f3, x.f3, x, x, []⟩ (.slice (some ⟨gb, 0, none⟩) (bs.length + 1) (bs.length + 1))
      refine bodyPost_ret (results_acc rfl _ _ (w.heap.size + 1) ⟨1, x.f3, x.f3, x.f3, x, x, []⟩ (.slice (some ⟨gb, 0, none⟩) (bs.length + 1) (bs.length + 1)) rfl hz2) rfl ?_
      refine ⟨.slice (some ⟨gb, 0, none⟩) (bs.length + 1) (bs.length + 1), ?_, ?_, ?_⟩
      · rw [HRES.out]; rfl
      · rw [HRES.out]
        have := HOWN.out.keep hch (fun k hk e => by
          have e1 : gb = k := by simpa [Value.ownBlock] using hk
          omega)
        rw [← hbe] at this
        exact this
      · have := HB8.out.size
        exact Chg.base HB8.out hch this (fun i hi => by omega)
    · have h2' : bmay bs = false := by
        cases h' : bmay bs
        · rfl
        · exact absurd h' h2
      have hres : oneRes x bs = (z36, 100) := by unfold oneRes; rw [h1, h2']; rfl
      have HRES := Lib.hid hres
      clear hres h1 h2
      rw [h2']
      obtain ⟨z0, z1, z2, z3, z4, z5, z6, z7, z8, z9, z10, z11, z12, zl⟩ := acO_facts HZ.out
      have hf := fun j => blk_free HZ.out j
      go_wp2_with fail
      show bodyPost _ _ _ _ _ (putA w2 (w.heap.size + 1) z36 (.slice none 0 0))
      have hz2 := putA_blk (a := z36) (v := .slice none 0 0) HZ.out
      have hc2 := HB1.out.size
      have hch := putA_chg w2 (w.heap.size + 1) z36 (.slice none 0 0)
      refine bodyPost_ret (results_acc rfl _ _ (w.heap.size + 1) z36 (.slice none 0 0) rfl hz2) rfl ?_
      refine ⟨.slice none 0 0, ?_, ?_, ?_⟩
      · rw [HRES.out]; rfl
      · rw [HRES.out]; exact Own.nil _ _
      · exact Chg.base HB1.out hch (by omega) (fun i hi => by omega)
  · have h1' : imay x = false := by
      cases h' : imay x
      · rfl
      · exact absurd h' h1
    have hres : oneRes x bs = (z36, 100) := by unfold oneRes; rw [h1']; rfl
    have HRES := Lib.hid hres
    clear hres h1
    rw [h1']
    obtain ⟨z0, z1, z2, z3, z4, z5, z6, z7, z8, z9, z10, z11, z12, zl⟩ := acO_facts HZ.out
    have hf := fun j => blk_free HZ.out j
    go_wp2_with fail
    show bodyPost _ _ _ _ _ (putA w1 (w.heap.size + 1) z36 (.slice none 0 0))
    have hz2 := putA_blk (a := z36) (v := .slice none 0 0) HZ.out
    have hc2 := HB1.out.size
    have hch := putA_chg w1 (w.heap.size + 1) z36 (.slice none 0 0)
    refine bodyPost_ret (results_acc rfl _ _ (w.heap.size + 1) z36 (.slice none 0 0) rfl hz2) rfl ?_
    refine ⟨.slice none 0 0, ?_, ?_, ?_⟩
    · rw [HRES.out]; rfl
    · rw [HRES.out]; exact Own.nil _ _
    · exact Chg.base HB1.out hch (by omega) (fun i hi => by omega)
end Go.Proofs.Ytfgabafbcephaaa.My

namespace Go.Proofs.Ytfgabafbcephaaa.My
open Go.RowKit Pa Go.Proofs.YtfgabafbcephaaaW.PrintWords
attribute [local go_sem high] eqA34

end Go.Proofs.Ytfgabafbcephaaa.My

namespace Go.Proofs.Ytfgabafbcephaaa.My
open Go.RowKit Pa Go.Proofs.YtfgabafbcephaaaW.PrintWords
attribute [local go_sem high] eqA34
set_option linter.unusedSimpArgs false

theorem own_of_r {w : World} {base : Nat} {ok : Nat → Prop} {v : Value} {h : List Int} (hr : Kd.R (Kd.int .i64) 3 w base ok v h) : Own w base v h := by
  have := Kd.own_of_R hr
  rwa [show encs (Value.int .i64) h = h.map (Value.int .i64) from rfl] at this
structure CurA (w0 w : World) (g : Nat) (c : S36) (A : Option Addr) (cap : Nat) : Prop where
  blk : w.heap[g]? = some (acO c (.slice A c.f6.length cap))
  own : Own w w0.heap.size (.slice A c.f6.length cap) c.f6
  bel : Below w0.heap.size w0 w
  new : w0.heap.size ≤ g
theorem CurA.rd {w0 w : World} {g : Nat} {c : S36} {A : Option Addr} {cap : Nat} (h : CurA w0 w g c A cap) : c.f6.length ≤ cap ∧ RdI w A c.f6 := by
  obtain ⟨A', c', e, hl, hr⟩ := h.own.reads
  injection e with e1 e2 e3
  subst e1 e3
  exact ⟨hl, hr⟩
theorem CurA.below {w0 w w1 : World} {g : Nat} {c : S36} {A : Option Addr} {cap : Nat} (h : CurA w0 w g c A cap) (hb : Below w.heap.size w w1) : CurA w0 w1 g c A cap :=
  ⟨blk_below h.blk hb, h.own.below hb, h.bel.trans (hb.mono h.bel.size), h.new⟩
theorem CurA.put {w0 w w1 : World} {g : Nat} {c d : S36} {A B : Option Addr} {cap cb : Nat} (h : CurA w0 w g c A cap) (hb : Below w.heap.size w w1) (ho : Own w1 w.heap.size (.slice B d.f6.length cb) d.f6) : CurA w0 (putA w1 g d (.slice B d.f6.length cb)) g d B cb := by
  have hg := blk_below h.blk hb
  have hch := putA_chg w1 g d (.slice B d.f6.length cb)
  refine ⟨putA_blk hg, own_weaken (ho.keep hch (fun k hk e => own_no ho hg (by rw [hk, e]))) h.bel.size, ?_, h.new⟩
  exact Chg.base (h.bel.trans (hb.mono h.bel.size)) hch (Nat.le_trans h.bel.size hb.size) (fun i hi => by rw [hi]; exact h.new)

end Go.Proofs.Ytfgabafbcephaaa.My

namespace Go.Proofs.Ytfgabafbcephaaa.My
open Go.RowKit Pa Go.Proofs.YtfgabafbcephaaaW.PrintWords Go.Proofs.YtfgabafbcephaaaW.PrintMore

set_option maxHeartbeats 8000000 in
set_option maxRecDepth 100000 in
theorem clone_any (A : Option Addr) (c : Nat) (l : List Int) (w : World) (hr : RdI w A l) (hc : l.length ≤ c) (hl : l.length ≤ 1000) :
    Calls Try.prog 56 #[.slice A l.length c] w fun e w' => ∃ v, e = .returned v ∧ Kd.R (Kd.int .i64) 3 w' w.heap.size (fun _ => True) v l ∧ Below w.heap.size w w' := by
  have HR := Lib.hid hr
  have HC := Lib.hid hc
  clear hr hc
  have hk := fun (w : World) (n : Nat) => Lib.run_eql_slice_nil (P := Try.prog) w 22 3 A n c 0 0 Try.underlying22
  by_cases hA : A = none
  · subst hA
    have hl0 : l = [] := by
      by_cases h0 : 0 < l.length
      · obtain ⟨ad, e, _⟩ := HR.out.2.2 h0
        cases e
      · exact List.eq_nil_of_length_eq_zero (by omega)
    subst hl0
    go_enter Try.func56, Try.ntmps56
    go_wp2_with fail
    go_ret
    exact ⟨_, rfl, Kd.R_nil _ _ _ _ _, Below.refl _ _⟩
  · obtain ⟨ad, rfl⟩ : ∃ ad, A = some ad := by
      cases A with
      | none => exact absurd rfl hA
      | some ad => exact ⟨ad, rfl⟩
    clear hA
    go_enter Try.func56, Try.ntmps56
    go_wp2_with (first | ((with_reducible refine gate_dst (N := 5) rfl ?_); refine Kd.R_lit (Kd.int .i64) _ 3 ?hg (N := 5) ?hd (xs := ([] : List Int)) (inner := []) (ok := fun _ => True) (okp := fun _ => True) ?hr ?hp (fun _ hk => hk) trivial (Below.refl _ _) (Nat.le_refl _) (by simp) ?_; (case hd => rfl); (case hg => rfl); (case hr => first | (go_simp; done) | (go_simp; rfl)); (case hp => exact (Reps.none _ _)); intro v3 w3 ho4 hb hg_ hnew_; clear hg_ hnew_; have HO := Lib.hid ho4; have HB := Lib.hid hb; clear ho4 hb) | ((with_reducible refine gate_builtin (b := .append) (xs := #[.tmp 5, .tmp 6]) rfl ?_); at_builtin; refine Kd.R_append_rows (Kd.int .i64) (w0 := w) w.heap.size rfl (.tmp 5) (.tmp 6) 22 3 (.int .i64 0) 8 rfl Try.underlying22 info3 rfl (by decide) (by omega) v3 [] l _ _ _ (fun _ => True) (fun _ => False) rfl rfl ?aO ?aR (fun _ _ h => h) (fun _ h => h.elim) ?aF ?aB ?aS ?aL ?_; (case aR => exact Kd.C_below HR.out HB.out); (case aB => exact HB.out); (case aF => exact (fun _ _ => trivial)); (case aO => exact HO.out); (case aS => exact HB.out.size); (case aL => simp; omega); intro v376 w5 ho hb2 hg hat; have HO2 := Lib.hid ho; have HB2 := Lib.hid hb2; clear ho hb2 hg hat))
    go_ret
    exact ⟨_, rfl, HO2.out, HB2.out⟩
theorem results_ac1 {fn : Func} {p : Tmp} (h : fn.results = #[.cell p 36]) (tmps : Array Value) (w : World) (g : Nat) (a : S36) (v : Value) (hp : tmps.getD p undef = .pointer (some ⟨g, 0, none⟩)) (hg : w.heap[g]? = some (acO a v)) :
    (results fn tmps).run Try.prog w = .ok (acV a v) w :=
  results_cell_row h tmps w g 36 _ (0, 0) _ hp hg Try.underlying36 rfl (by kernel_rfl)
set_option maxHeartbeats 4000000 in
set_option maxRecDepth 100000 in
/-- One that shares nothing. -/
theorem acopy_any (a : S36) (A : Option Addr) (c : Nat) (w : World) (hr : RdI w A a.f6) (hc : a.f6.length ≤ c) (hl : a.f6.length ≤ 1000) :
    Calls Try.prog 50 #[acV a (.slice A a.f6.length c)] w fun e w' => ∃ v, e = .returned (acV a v) ∧ Own w' w.heap.size v a.f6 ∧ Below w.heap.size w w' := by
  have h1 : ((w.alloc (acO a (.slice A a.f6.length c))).alloc (acO z36 (.slice none 0 0))).heap[w.heap.size]? = some (acO a (.slice A a.f6.length c)) := blk_below (heap_alloc_new w (acO a (.slice A a.f6.length c))) ((Below.refl _ _).alloc (Nat.le_refl _) _)
  have h2 : ((w.alloc (acO a (.slice A a.f6.length c))).alloc (acO z36 (.slice none 0 0))).heap[w.heap.size + 1]? = some (acO z36 (.slice none 0 0)) := by
    have := heap_alloc_new (w.alloc (acO a (.slice A a.f6.length c))) (acO z36 (.slice none 0 0))
    simpa using this
  have hB : Below w.heap.size w ((w.alloc (acO a (.slice A a.f6.length c))).alloc (acO z36 (.slice none 0 0))) := ((Below.refl w.heap.size w).alloc (Nat.le_refl _) _).alloc (by simp) _
  have HR := Lib.hid hr
  have HC := Lib.hid hc
  have H1 := Lib.hid h1
  have H2 := Lib.hid h2
  have HB := Lib.hid hB
  have hfacts := acO_facts h1
  clear hr hc h1 h2 hB
  unfold acO at hfacts
  unfold acV
  obtain ⟨-, -, -, -, -, -, -, -, -, -, -, -, a12, al⟩ := hfacts
  go_enter Try.func50, Try.ntmps50
  go_wp2_with fail
  show Calls _ _ _ ((w.alloc (acO a (.slice A a.f6.length c))).alloc (acO z36 (.slice none 0 0))) _
  clear a12 al
  generalize (w.alloc (acO a (.slice A a.f6.length c))).alloc (acO z36 (.slice none 0 0)) = w1 at *
  refine (clone_any A c a.f6 w1 (RdI.below HR.out HB.out) HC.out hl).mono ?_
  rintro e w2 ⟨v, rfl, ho, hb⟩
  have ho2 : Own w2 w.heap.size v a.f6 := own_weaken (own_of_r ho) HB.out.size
  obtain ⟨A2, c2, rfl, hl2, hr2⟩ := ho2.reads
  have hh1 := blk_below H1.out hb
  have hh2 := blk_below H2.out hb
  obtain ⟨a0, a1, a2, a3, a4, a5, a6, a7, a8, a9, a10, a11, a12, al⟩ := acO_facts hh1
  obtain ⟨z0, z1, z2, z3, z4, z5, z6, z7, z8, z9, z10, z11, z12, zl⟩ := acO_facts hh2
  have hf1 := fun j => blk_free hh1 j
  have hf2 := fun j => blk_free hh2 j
  have HH1 := Lib.hid hh1
  have HH2 := Lib.hid hh2
  have HO := Lib.hid ho2
  have HB2 := Lib.hid (HB.out.trans (hb.mono HB.out.size))
  clear hh1 hh2 ho ho2 hb hl2 hr2 H1 H2 HB
  go_wp2_with fail
  show bodyPost _ _ _ _ _ (putA (w2.setCell ⟨w.heap.size, 12, none⟩ (.slice A2 a.f6.length c2)) (w.heap.size + 1) a (.slice A2 a.f6.length c2))
  have hc1 := (Chg.refl (fun k => k = w.heap.size ∨ k = w.heap.size + 1) w2).setCell (p := ⟨w.heap.size, 12, none⟩) (.inl (.inl rfl)) (.slice A2 a.f6.length c2)
  have hch := hc1.then_ ((putA_chg (w2.setCell ⟨w.heap.size, 12, none⟩ (.slice A2 a.f6.length c2)) (w.heap.size + 1) a (.slice A2 a.f6.length c2)).mono (fun i _ h => .inr h))
  have hb2 := putA_blk (a := a) (v := .slice A2 a.f6.length c2) (blk_far HH2.out (p := ⟨w.heap.size, 12, none⟩) (by simp) (.slice A2 a.f6.length c2))
  refine bodyPost_ret (results_ac1 rfl _ _ (w.heap.size + 1) a (.slice A2 a.f6.length c2) rfl hb2) rfl ⟨.slice A2 a.f6.length c2, rfl, ?_, ?_⟩
  · refine HO.out.keep hch (fun k hk e => ?_)
    rcases e with e | e
    · exact own_no HO.out HH1.out (by rw [hk, e])
    · exact own_no HO.out HH2.out (by rw [hk, e])
  · exact Chg.base HB2.out hch HB2.out.size (fun i hi => by rcases hi with h | h <;> omega)
end Go.Proofs.Ytfgabafbcephaaa.My

namespace Go.Txt2
open Go.RowKit Go.Txt

inductive Ck where
  | p
  | re
  | rl
  | m
  | c
  | e
  | a
  deriving DecidableEq

structure Kx (S : Nat → Prop) (wb w w' : World) : Prop where
  os : w'.os = w.os
  tape : w'.tape = w.tape
  output : w'.output = w.output
  size : w.heap.size ≤ w'.heap.size
  block : ∀ i, i < w.heap.size → ¬ (S i ∧ i < wb.heap.size) → w'.heap[i]? = w.heap[i]?
section
variable {S : Nat → Prop} {wb w w1 w2 : World}
theorem Kx.refl (S : Nat → Prop) (wb w : World) : Kx S wb w w := ⟨rfl, rfl, rfl, Nat.le_refl _, fun _ _ _ => rfl⟩
theorem Kx.of (h : Bw w w1) : Kx S wb w w1 := ⟨h.os, h.tape, h.output, h.size, fun i hi _ => h.block i hi⟩
theorem Kx.trans (h : Kx S wb w w1) (k : Kx S wb w1 w2) : Kx S wb w w2 :=
  ⟨k.os.trans h.os, k.tape.trans h.tape, k.output.trans h.output, Nat.le_trans h.size k.size, fun i hi hn => (k.block i (Nat.lt_of_lt_of_le hi h.size) hn).trans (h.block i hi hn)⟩
theorem Kx.then_ (h : Kx S wb w w1) (k : Bw w1 w2) : Kx S wb w w2 := h.trans (Kx.of k)
theorem Kx.obj {o : Obj} {g : Nat} (h : Kx S wb w w1) (hg : w.heap[g]? = some o) (hn : wb.heap.size ≤ g) : w1.heap[g]? = some o := (h.block g (Array.getElem?_eq_some_iff.1 hg).1 (fun hh => by omega)).trans hg
end

def stepF (S : Nat → Prop) (P : Program) (wb : World) (k : Ck) (s : Sem Next) (w : World) (F : Tr → World → Prop) : Prop :=
  match k with
  | .p => ∃ v, (∀ w1, s.run P w1 = .ok (.value v) w1) ∧ F (.put v) w
  | .re => Kx S wb wb w ∧ ∃ v, (∀ w1, Kx S wb wb w1 → s.run P w1 = .ok (.value v) w1) ∧ F (.put v) w
  | .rl => Kx S wb wb w ∧ ∃ v, (∀ w1, Bw w w1 → s.run P w1 = .ok (.value v) w1) ∧ F (.put v) w
  | .m => Kx S wb wb w ∧ ∃ (mk : Nat → Value) (obj : Obj), (∀ w1, s.run P w1 = .ok (.value (mk w1.heap.size)) (w1.alloc obj)) ∧ ∀ g w', Bw w w' → wb.heap.size ≤ g → w'.heap[g]? = some obj → F (.put (mk g)) w'
  | .c => Kx S wb wb w ∧ ∀ w1, Bw w w1 → outc P (s.run P w1) fun t w' => Bw w1 w' ∧ F t w'
  | .e => Kx S wb wb w ∧ ∀ w1, Bw w w1 → outc P (s.run P w1) fun t w' => Kx S wb w1 w' ∧ F t w'
  | .a => outc P (s.run P w) F

section
variable {S : Nat → Prop} {P : Program} {wb w : World} {k kj ki : Ck} {s sj si : Sem Next} {F G : Tr → World → Prop}

theorem stepF_mono (h : ∀ t w', (k = .c ∨ k = .a ∨ k = .e ∨ ∃ v, t = .put v) → F t w' → G t w') (hs : stepF S P wb k s w F) : stepF S P wb k s w G := by
  cases k with
  | p =>
    obtain ⟨v, h1, h2⟩ := hs
    exact ⟨v, h1, h _ _ (.inr (.inr (.inr ⟨v, rfl⟩))) h2⟩
  | re =>
    obtain ⟨h0, v, h1, h2⟩ := hs
    exact ⟨h0, v, h1, h _ _ (.inr (.inr (.inr ⟨v, rfl⟩))) h2⟩
  | rl =>
    obtain ⟨h0, v, h1, h2⟩ := hs
    exact ⟨h0, v, h1, h _ _ (.inr (.inr (.inr ⟨v, rfl⟩))) h2⟩
  | m =>
    obtain ⟨h0, mk, obj, h1, h2⟩ := hs
    exact ⟨h0, mk, obj, h1, fun g w' a1 a2 a3 => h _ _ (.inr (.inr (.inr ⟨_, rfl⟩))) (h2 g w' a1 a2 a3)⟩
  | c =>
    obtain ⟨h0, h1⟩ := hs
    exact ⟨h0, fun w1 hw => outc_mono (fun t w' hk => ⟨hk.1, h _ _ (.inl rfl) hk.2⟩) (h1 w1 hw)⟩
  | e =>
    obtain ⟨h0, h1⟩ := hs
    exact ⟨h0, fun w1 hw => outc_mono (fun t w' hk => ⟨hk.1, h _ _ (.inr (.inr (.inl rfl))) hk.2⟩) (h1 w1 hw)⟩
  | a => exact outc_mono (fun t w' hk => h _ _ (.inr (.inl rfl)) hk) hs

theorem stepF_some {φ : Prop} (hs : stepF S P wb k s w fun _ _ => φ) : φ := by
  cases k with
  | p => obtain ⟨v, h1, h2⟩ := hs; exact h2
  | re => obtain ⟨h0, v, h1, h2⟩ := hs; exact h2
  | rl => obtain ⟨h0, v, h1, h2⟩ := hs; exact h2
  | m =>
    obtain ⟨h0, mk, obj, h1, h2⟩ := hs
    exact h2 w.heap.size (w.alloc obj) (Bw.alloc w obj) h0.size (heap_alloc_new w obj)
  | c =>
    obtain ⟨h0, h1⟩ := hs
    exact outc_some (outc_mono (fun _ _ hk => hk.2) (h1 w (Bw.refl w)))
  | e =>
    obtain ⟨h0, h1⟩ := hs
    exact outc_some (outc_mono (fun _ _ hk => hk.2) (h1 w (Bw.refl w)))
  | a => exact outc_some hs

def swapK (kj ki : Ck) : Bool :=
  match kj, ki with
  | .p, _ => true
  | _, .p => true
  | .re, .re => true
  | .re, .rl => true
  | .rl, .re => true
  | .rl, .rl => true
  | .re, .m => true
  | .rl, .m => true
  | .re, .c => true
  | .rl, .c => true
  | .m, .re => true
  | .c, .re => true
  | .m, .m => true
  | .e, .re => true
  | .e, .m => true
  | .re, .e => true
  | .c, .m => true
  | _, _ => false

theorem swap_p {H : Tr → Tr → World → Prop} (h : stepF S P wb .p sj w fun tj w1 => stepF S P wb ki si w1 fun ti w2 => H tj ti w2) : stepF S P wb ki si w fun ti w1 => stepF S P wb .p sj w1 fun tj w2 => H tj ti w2 := by
  obtain ⟨v, h1, h2⟩ := h
  exact stepF_mono (fun t w' _ hk => ⟨v, h1, hk⟩) h2

theorem swap_ip {H : Tr → Tr → World → Prop} (h : stepF S P wb kj sj w fun tj w1 => stepF S P wb .p si w1 fun ti w2 => H tj ti w2) : stepF S P wb .p si w fun ti w1 => stepF S P wb kj sj w1 fun tj w2 => H tj ti w2 := by
  obtain ⟨v, hv⟩ : ∃ v, ∀ w1, si.run P w1 = .ok (.value v) w1 := stepF_some (stepF_mono (fun t w' _ hk => by obtain ⟨v, h1, _⟩ := hk; exact ⟨v, h1⟩) h)
  refine ⟨v, hv, stepF_mono (fun t w' _ hk => ?_) h⟩
  obtain ⟨u, hu, hk⟩ := hk
  have := (value_inj ((hv w').symm.trans (hu w'))).1
  rw [this]
  exact hk

theorem swap_ire {H : Tr → Tr → World → Prop} (hw : Kx S wb wb w) (h : stepF S P wb kj sj w fun tj w1 => stepF S P wb .re si w1 fun ti w2 => H tj ti w2) : stepF S P wb .re si w fun ti w1 => stepF S P wb kj sj w1 fun tj w2 => H tj ti w2 := by
  obtain ⟨v, hv⟩ : ∃ v, ∀ w1, Kx S wb wb w1 → si.run P w1 = .ok (.value v) w1 := stepF_some (stepF_mono (fun t w' _ hk => by obtain ⟨_, v, h1, _⟩ := hk; exact ⟨v, h1⟩) h)
  refine ⟨hw, v, hv, stepF_mono (fun t w' _ hk => ?_) h⟩
  obtain ⟨h0, u, hu, hk⟩ := hk
  have := (value_inj ((hv wb (Kx.refl S wb wb)).symm.trans (hu wb (Kx.refl S wb wb)))).1
  rw [this]
  exact hk

theorem stepF_swap (hk : swapK kj ki = true) {H : Tr → Tr → World → Prop} (h : stepF S P wb kj sj w fun tj w1 => stepF S P wb ki si w1 fun ti w2 => H tj ti w2) : stepF S P wb ki si w fun ti w1 => stepF S P wb kj sj w1 fun tj w2 => H tj ti w2 := by
  cases ki with
  | p => exact swap_ip h
  | re =>
    cases kj with
    | p => exact swap_p h
    | re => exact swap_ire h.1 h
    | rl => exact swap_ire h.1 h
    | m => exact swap_ire h.1 h
    | c => exact swap_ire h.1 h
    | e => exact swap_ire h.1 h
    | a => exact absurd hk (by decide)
  | rl =>
    cases kj with
    | p => exact swap_p h
    | re =>
      obtain ⟨h0, v, h1, _, u, h2, h3⟩ := h
      exact ⟨h0, u, h2, h0, v, h1, h3⟩
    | rl =>
      obtain ⟨h0, v, h1, _, u, h2, h3⟩ := h
      exact ⟨h0, u, h2, h0, v, h1, h3⟩
    | m => exact absurd hk (by decide)
    | c => exact absurd hk (by decide)
    | e => exact absurd hk (by decide)
    | a => exact absurd hk (by decide)
  | m =>
    cases kj with
    | p => exact swap_p h
    | re =>
      obtain ⟨h0, v, h1, _, mk, obj, h2, h3⟩ := h
      exact ⟨h0, mk, obj, h2, fun g w' a1 a2 a3 => ⟨h0.then_ a1, v, h1, h3 g w' a1 a2 a3⟩⟩
    | rl =>
      obtain ⟨h0, v, h1, _, mk, obj, h2, h3⟩ := h
      exact ⟨h0, mk, obj, h2, fun g w' a1 a2 a3 => ⟨h0.then_ a1, v, fun w1 hb => h1 w1 (a1.trans hb), h3 g w' a1 a2 a3⟩⟩
    | m =>
      obtain ⟨h0, mkj, oj, h1, h2⟩ := h
      have hi := h2 w.heap.size (w.alloc oj) (Bw.alloc w oj) h0.size (heap_alloc_new w oj)
      obtain ⟨_, mki, oi, h3, _⟩ := hi
      refine ⟨h0, mki, oi, h3, fun gi wi a1 a2 a3 => ⟨h0.then_ a1, mkj, oj, h1, fun gj wj b1 b2 b3 => ?_⟩⟩
      obtain ⟨_, mki', oi', h3', h4⟩ := h2 gj wj (a1.trans b1) b2 b3
      have e := (h3 wb).symm.trans (h3' wb)
      obtain ⟨e1, e2⟩ := value_inj e
      have eo : oi = oi' := by
        have := congrArg (fun w : World => w.heap[wb.heap.size]?) e2
        simp only [heap_alloc_new] at this
        exact Option.some.inj this
      subst eo
      have em : ∀ n, n = wb.heap.size → mki n = mki' n := fun n hn => by rw [hn]; exact e1
      clear em
      have all : mki gi = mki' gi := by
        have hgi := (h3 ⟨Array.replicate gi (Obj.chan 0 #[] false 0 0 false), wb.tape, wb.drawn, wb.os, wb.output⟩).symm.trans (h3' ⟨Array.replicate gi (Obj.chan 0 #[] false 0 0 false), wb.tape, wb.drawn, wb.os, wb.output⟩)
        have := (value_inj hgi).1
        simpa using this
      rw [all]
      exact h4 gi wj (Bw.refl _) a2 (b1.obj a3)
    | c =>
      obtain ⟨h0, h1⟩ := h
      obtain ⟨mki, oi, h3⟩ : ∃ (mk : Nat → Value) (obj : Obj), ∀ w1, si.run P w1 = .ok (.value (mk w1.heap.size)) (w1.alloc obj) :=
        outc_some (outc_mono (fun _ _ hk => by obtain ⟨_, _, mk, obj, h3, _⟩ := hk; exact ⟨mk, obj, h3⟩) (h1 w (Bw.refl w)))
      refine ⟨h0, mki, oi, h3, fun gi wi a1 a2 a3 => ⟨h0.then_ a1, fun w1 b1 => outc_mono (fun t w' hk => ⟨hk.1, ?_⟩) (h1 w1 (a1.trans b1))⟩⟩
      obtain ⟨hk1, _, mki', oi', h3', h4⟩ := hk
      have all : ∀ n, mki n = mki' n := fun n => by
        have hgi := (h3 ⟨Array.replicate n (Obj.chan 0 #[] false 0 0 false), wb.tape, wb.drawn, wb.os, wb.output⟩).symm.trans (h3' ⟨Array.replicate n (Obj.chan 0 #[] false 0 0 false), wb.tape, wb.drawn, wb.os, wb.output⟩)
        have := (value_inj hgi).1
        simpa using this
      have eo : oi = oi' := by
        have := congrArg (fun w : World => w.heap[wb.heap.size]?) (value_inj ((h3 wb).symm.trans (h3' wb))).2
        simp only [heap_alloc_new] at this
        exact Option.some.inj this
      subst eo
      rw [all]
      exact h4 gi w' (Bw.refl _) a2 ((b1.trans hk1).obj a3)
    | e =>
      obtain ⟨h0, h1⟩ := h
      obtain ⟨mki, oi, h3⟩ : ∃ (mk : Nat → Value) (obj : Obj), ∀ w1, si.run P w1 = .ok (.value (mk w1.heap.size)) (w1.alloc obj) :=
        outc_some (outc_mono (fun _ _ hk => by obtain ⟨_, _, mk, obj, h3, _⟩ := hk; exact ⟨mk, obj, h3⟩) (h1 w (Bw.refl w)))
      refine ⟨h0, mki, oi, h3, fun gi wi a1 a2 a3 => ⟨h0.then_ a1, fun w1 b1 => outc_mono (fun t w' hk => ⟨hk.1, ?_⟩) (h1 w1 (a1.trans b1))⟩⟩
      obtain ⟨hk1, _, mki', oi', h3', h4⟩ := hk
      have all : ∀ n, mki n = mki' n := fun n => by
        have hgi := (h3 ⟨Array.replicate n (Obj.chan 0 #[] false 0 0 false), wb.tape, wb.drawn, wb.os, wb.output⟩).symm.trans (h3' ⟨Array.replicate n (Obj.chan 0 #[] false 0 0 false), wb.tape, wb.drawn, wb.os, wb.output⟩)
        have := (value_inj hgi).1
        simpa using this
      have eo : oi = oi' := by
        have := congrArg (fun w : World => w.heap[wb.heap.size]?) (value_inj ((h3 wb).symm.trans (h3' wb))).2
        simp only [heap_alloc_new] at this
        exact Option.some.inj this
      subst eo
      rw [all]
      exact h4 gi w' (Bw.refl _) a2 (hk1.obj (b1.obj a3) a2)
    | a => exact absurd hk (by decide)
  | c =>
    cases kj with
    | p => exact swap_p h
    | re =>
      obtain ⟨h0, v, h1, _, h2⟩ := h
      exact ⟨h0, fun w1 hw => outc_mono (fun t w' hk => ⟨hk.1, (h0.then_ hw).then_ hk.1, v, h1, hk.2⟩) (h2 w1 hw)⟩
    | rl =>
      obtain ⟨h0, v, h1, _, h2⟩ := h
      exact ⟨h0, fun w1 hw => outc_mono (fun t w' hk => ⟨hk.1, (h0.then_ hw).then_ hk.1, v, fun w2 hb => h1 w2 ((hw.trans hk.1).trans hb), hk.2⟩) (h2 w1 hw)⟩
    | m => exact absurd hk (by decide)
    | c => exact absurd hk (by decide)
    | e => exact absurd hk (by decide)
    | a => exact absurd hk (by decide)
  | e =>
    cases kj with
    | p => exact swap_p h
    | re =>
      obtain ⟨h0, v, h1, _, h2⟩ := h
      exact ⟨h0, fun w1 hw => outc_mono (fun t w' hk => ⟨hk.1, (h0.then_ hw).trans hk.1, v, h1, hk.2⟩) (h2 w1 hw)⟩
    | rl => exact absurd hk (by decide)
    | m => exact absurd hk (by decide)
    | c => exact absurd hk (by decide)
    | e => exact absurd hk (by decide)
    | a => exact absurd hk (by decide)
  | a =>
    cases kj with
    | p => exact swap_p h
    | re => exact absurd hk (by decide)
    | rl => exact absurd hk (by decide)
    | m => exact absurd hk (by decide)
    | c => exact absurd hk (by decide)
    | e => exact absurd hk (by decide)
    | a => exact absurd hk (by decide)

theorem outc_of_stepF (hs : stepF S P wb k s w F) : outc P (s.run P w) F := by
  cases k with
  | p => obtain ⟨v, h1, h2⟩ := hs; rw [h1]; exact h2
  | re => obtain ⟨h0, v, h1, h2⟩ := hs; rw [h1 w h0]; exact h2
  | rl => obtain ⟨h0, v, h1, h2⟩ := hs; rw [h1 w (Bw.refl w)]; exact h2
  | m =>
    obtain ⟨h0, mk, obj, h1, h2⟩ := hs
    rw [h1]
    exact h2 _ _ (Bw.alloc w obj) h0.size (heap_alloc_new w obj)
  | c =>
    obtain ⟨h0, h1⟩ := hs
    exact outc_mono (fun _ _ hk => hk.2) (h1 w (Bw.refl w))
  | e =>
    obtain ⟨h0, h1⟩ := hs
    exact outc_mono (fun _ _ hk => hk.2) (h1 w (Bw.refl w))
  | a => exact hs
end

section
variable {S : Nat → Prop} {P : Program} {ops : Array Oper} {wb : World}

def stepM (S : Nat → Prop) (P : Program) (ops : Array Oper) (wb : World) (k : Ck) (o : Oper) (K : Act → World → Prop) (a : Act) (w : World) : Prop :=
  if Region.wanted o (yielded ops a.tmps) then stepF S P wb k (execOp a.eval o) w fun t w' => K (t.on o.dst a) w' else K ((Tr.put undef).on o.dst a) w

theorem stepM_mono {k : Ck} {o : Oper} {K K' : Act → World → Prop} {a : Act} {w : World} (h : ∀ a w, K a w → K' a w) (hs : stepM S P ops wb k o K a w) : stepM S P ops wb k o K' a w := by
  unfold stepM at *
  split
  · rename_i hw
    rw [if_pos hw] at hs
    exact stepF_mono (fun _ _ _ he => h _ _ he) hs
  · rename_i hw
    rw [if_neg hw] at hs
    exact h _ _ hs

theorem swapK_put {kj ki : Ck} (h : swapK kj ki = true) : (kj ≠ .c ∧ kj ≠ .a ∧ kj ≠ .e) ∨ (ki ≠ .c ∧ ki ≠ .a ∧ ki ≠ .e) := by
  cases kj <;> cases ki <;> first | exact absurd h (by decide) | (left; refine ⟨?_, ?_, ?_⟩ <;> (intro hh; cases hh); done) | (right; refine ⟨?_, ?_, ?_⟩ <;> (intro hh; cases hh); done)

theorem stepM_swap {kj ki : Ck} {oi oj : Oper} (hap : oj.apart ops oi = true) (hsi : ∀ cs b, oi.op ≠ .select cs b) (hsj : ∀ cs b, oj.op ≠ .select cs b) (hk : swapK kj ki = true) {K : Act → World → Prop} {a : Act} {w : World}
    (h : stepM S P ops wb kj oj (stepM S P ops wb ki oi K) a w) : stepM S P ops wb ki oi (stepM S P ops wb kj oj K) a w := by
  obtain ⟨h1, h2, h3⟩ := Oper.apart_spec hap
  have ej : ∀ (t : Tr), execOp (t.on oi.dst a).eval oj = execOp a.eval oj := fun t => exec_on t _ _ oj hsj h3
  have wj : ∀ (t : Tr), Region.wanted oj (yielded ops (t.on oi.dst a).tmps) = Region.wanted oj (yielded ops a.tmps) := fun t => wanted_on t _ _ oj h3
  have ei : ∀ (t : Tr), execOp (t.on oj.dst a).eval oi = execOp a.eval oi := fun t => exec_on t _ _ oi hsi h1
  have wi : ∀ (t : Tr), Region.wanted oi (yielded ops (t.on oj.dst a).tmps) = Region.wanted oi (yielded ops a.tmps) := fun t => wanted_on t _ _ oi h1
  have cm : ∀ (ti tj : Tr), ((∃ v, ti = .put v) ∨ ∃ v, tj = .put v) → ti.on oi.dst (tj.on oj.dst a) = tj.on oj.dst (ti.on oi.dst a) := fun ti tj hh => on_comm hh _ _ a (fun d e1 e2 => h2 d e2 e1)
  unfold stepM at h ⊢
  by_cases wa : Region.wanted oj (yielded ops a.tmps) = true
  · by_cases wb' : Region.wanted oi (yielded ops a.tmps) = true
    · rw [if_pos wa] at h
      rw [if_pos wb']
      simp only [wi, if_pos wb', ei] at h
      simp only [wj, if_pos wa, ej]
      have hs := stepF_swap hk (H := fun tj ti w2 => K (ti.on oi.dst (tj.on oj.dst a)) w2) h
      refine stepF_mono (fun ti w1 hti hk1 => stepF_mono (fun tj w2 htj hk2 => ?_) hk1) hs
      rw [← cm ti tj ?_]
      · exact hk2
      · rcases swapK_put hk with ⟨n1, n2, n3⟩ | ⟨n1, n2, n3⟩
        · exact .inr (((htj.resolve_left n1).resolve_left n2).resolve_left n3)
        · exact .inl (((hti.resolve_left n1).resolve_left n2).resolve_left n3)
    · rw [if_pos wa] at h
      rw [if_neg wb']
      simp only [wi, if_neg wb'] at h
      simp only [wj, if_pos wa, ej]
      refine stepF_mono (fun tj w2 htj hk2 => ?_) h
      rw [← cm (.put undef) tj (.inl ⟨_, rfl⟩)]
      exact hk2
  · rw [if_neg wa] at h
    simp only [wi, ei] at h
    simp only [wj, if_neg wa]
    by_cases wb' : Region.wanted oi (yielded ops a.tmps) = true
    · rw [if_pos wb'] at h ⊢
      refine stepF_mono (fun ti w2 hti hk2 => ?_) h
      rw [← cm ti (.put undef) (.inr ⟨_, rfl⟩)]
      exact hk2
    · rw [if_neg wb'] at h ⊢
      rw [← cm (.put undef) (.put undef) (.inr ⟨_, rfl⟩)]
      exact h

theorem wpOp_of_stepM {i : Nat} {k : Ck} {o : Oper} (hi : ops[i]? = some o) {K : Act → World → Prop} {Q : Exit → Act → World → Prop} {a : Act} {w : World} (hs : stepM S P ops wb k o K a w) : wpOp P ops Q i K a w := by
  unfold stepM at hs
  unfold wpOp
  simp only [hi]
  split
  · rename_i hw
    rw [if_pos hw] at hs
    exact .inl (wp_of_outc (outc_of_stepF hs))
  · rename_i hw
    rw [if_neg hw] at hs
    exact hs

def kop : Op → Ck
  | .move _ => .p
  | .assign _ => .p
  | .pick .. => .p
  | .nilCheck _ => .p
  | .binOp .. => .p
  | .unOp .. => .p
  | .convert .. => .p
  | .fieldAddr .. => .p
  | .field .. => .p
  | .indexAddr .. => .p
  | .index .. => .p
  | .extract .. => .p
  | .slice .. => .p
  | .build .. => .p
  | .makeFunc .. => .p
  | .load .. => .re
  | .alloc _ => .m
  | .box .. => .m
  | .buildSlice .. => .m
  | .makeSlice .. => .m
  | .call c => match c.callee with
    | .builtin .len => .p
    | .builtin .append => .e
    | .builtin .cap => .p
    | .builtin .max => .p
    | .builtin .min => .p
    | .value _ => .c
    | _ => .a
  | _ => .a

def dat (ops : Array Oper) : Nat → Nat → Bool
  | 0, _ => true
  | n + 1, i => match ops[i]? with
    | some o => o.after.toList.any fun e => decide (e.ground = .data) && ((match ops[e.on]? with | some oj => decide (kop oj.op = .m) || decide (kop oj.op = .c) || decide (kop oj.op = .e) | none => false) || dat ops n e.on)
    | none => false

def kat (ops : Array Oper) (B : Array Nat) (i : Nat) (o : Oper) : Ck :=
  match kop o.op with
  | .p => .p
  | .a => .a
  | k => if (List.range i).any (fun j => match ops[j]? with | some oj => decide (kop oj.op = .a) | none => false) then .a
    else match k with
      | .re => if (List.range i).any (fun j => (B.getD i 0).testBit j && match ops[j]? with | some oj => decide (kop oj.op = .m) || decide (kop oj.op = .c) || decide (kop oj.op = .e) | none => false) && dat ops (i + 1) i then .rl else .re
      | k => k
theorem kat_p {ops : Array Oper} {B : Array Nat} {i : Nat} {o : Oper} (h : kop o.op = .p) : kat ops B i o = .p := by unfold kat; rw [h]

def runM (S : Nat → Prop) (P : Program) (ops : Array Oper) (wb : World) (B : Array Nat) (Q : Act → World → Prop) : List Nat → Act → World → Prop
  | [], a, w => Q a w
  | i :: r, a, w => match ops[i]? with
    | some o => stepM S P ops wb (kat ops B i o) o (runM S P ops wb B Q r) a w
    | none => runM S P ops wb B Q r a w

def orderedOrSwapsM (ops : Array Oper) (B : Array Nat) (j i : Nat) : Bool :=
  (B.getD i 0).testBit j || match ops[j]?, ops[i]? with
    | some oj, some oi => oj.apart ops oi && swapK (kat ops B j oj) (kat ops B i oi)
    | _, _ => false

def mixB (ops : Array Oper) (B : Array Nat) : Bool :=
  Region.noSelect ops && (List.range ops.size).all fun i =>
    (match ops[i]? with
      | some o => o.after.toList.all (fun e => !Region.binds .any e || decide (e.on < i)) && ((B.getD i 0 ||| upOf B o) == upOf B o)
      | none => true) && (List.range i).all fun j => orderedOrSwapsM ops B j i

theorem mixB_row {B : Array Nat} (h : mixB ops B = true) {i : Nat} {o : Oper} (hi : ops[i]? = some o) :
    (∀ e ∈ o.after, Region.binds .any e = true → e.on < i) ∧ (∀ j, (B.getD i 0).testBit j = true → ∃ e ∈ o.after, Region.binds .any e = true ∧ (e.on = j ∨ (B.getD e.on 0).testBit j = true)) ∧ ∀ j, j < i → orderedOrSwapsM ops B j i = true := by
  have hlt : i < ops.size := (Array.getElem?_eq_some_iff.1 hi).1
  simp only [mixB, Bool.and_eq_true, List.all_eq_true, List.mem_range] at h
  have h1 := h.2 i hlt
  rw [hi] at h1
  simp only [Bool.and_eq_true, List.all_eq_true, Bool.or_eq_true, Bool.not_eq_true', decide_eq_true_eq, beq_iff_eq] at h1
  obtain ⟨⟨h2, h3⟩, h4⟩ := h1
  refine ⟨fun e he hb => ?_, fun j hj => ?_, h4⟩
  · rcases h2 e (by simpa using he) with h | h
    · rw [hb] at h; cases h
    · exact h
  · refine upOf_bit ?_
    rw [← h3, Nat.testBit_or, hj, Bool.true_or]

theorem bits_listedM {B : Array Nat} (hB : mixB ops B = true) {listed : Array Bool} (hs : Txt.Shut ops listed) : ∀ (m i : Nat), i ≤ m → ∀ o, ops[i]? = some o → (∀ e ∈ o.after, Region.binds .any e = true → listed.getD e.on false = true) →
    ∀ j, (B.getD i 0).testBit j = true → listed.getD j false = true := by
  intro m
  induction m with
  | zero =>
    intro i hi o ho hd j hj
    obtain ⟨h1, h2, _⟩ := mixB_row hB ho
    obtain ⟨e, he, hb, _⟩ := h2 j hj
    have := h1 e he hb
    omega
  | succ m ih =>
    intro i hi o ho hd j hj
    obtain ⟨h1, h2, _⟩ := mixB_row hB ho
    obtain ⟨e, he, hb, hj⟩ := h2 j hj
    have hlt := h1 e he hb
    have hl := hd e he hb
    rcases hj with rfl | hj
    · exact hl
    · have hsz : i < ops.size := (Array.getElem?_eq_some_iff.1 ho).1
      have hoe : ops[e.on]? = some ops[e.on] := Array.getElem?_eq_getElem (by omega)
      exact ih e.on (by omega) _ hoe (fun e' he' hb' => hs _ _ hoe hl e' he' hb') j hj

theorem runM_front {B : Array Nat} {Q : Act → World → Prop} {i : Nat} {oi : Oper} (hi : ops[i]? = some oi) (hsel : ∀ (j : Nat) (o : Oper) cs b, ops[j]? = some o → o.op ≠ .select cs b) :
    ∀ (l1 l2 : List Nat) (a : Act) (w : World),
      (∀ j ∈ l1, ∃ oj, ops[j]? = some oj ∧ oj.apart ops oi = true ∧ swapK (kat ops B j oj) (kat ops B i oi) = true) →
      runM S P ops wb B Q (l1 ++ i :: l2) a w → stepM S P ops wb (kat ops B i oi) oi (runM S P ops wb B Q (l1 ++ l2)) a w := by
  intro l1
  induction l1 with
  | nil =>
    intro l2 a w _ h
    simp only [List.nil_append, runM, hi] at h
    exact h
  | cons j r ih =>
    intro l2 a w hl h
    obtain ⟨oj, hj, hap, hc⟩ := hl j List.mem_cons_self
    simp only [List.cons_append, runM, hj] at h
    have h' : stepM S P ops wb (kat ops B j oj) oj (stepM S P ops wb (kat ops B i oi) oi (runM S P ops wb B Q (r ++ l2))) a w := stepM_mono (fun b w' hb => ih l2 b w' (fun k hk => hl k (List.mem_cons_of_mem _ hk)) hb) h
    have h'' := stepM_swap hap (fun cs b => hsel i oi cs b hi) (fun cs b => hsel j oj cs b hj) hc h'
    refine stepM_mono (fun b w' hb => ?_) h''
    simp only [List.cons_append, runM, hj]
    exact hb

theorem wpAny_of_runM {B : Array Nat} (hB : mixB ops B = true) {Q : Exit → Act → World → Prop} : ∀ (fuel : Nat) (listed : Array Bool) (a : Act) (w : World), listed.size = ops.size → Txt.Shut ops listed → (rest ops.size listed).length = fuel →
    runM S P ops wb B (fun a w => Q .normal a w) (rest ops.size listed) a w → wpAny P .any ops Q fuel listed a w := by
  have hsel := Region.noSelect_spec (by simp only [mixB, Bool.and_eq_true] at hB; exact hB.1)
  intro fuel
  induction fuel with
  | zero =>
    intro listed a w hn hs hl h
    have hnil := List.eq_nil_of_length_eq_zero hl
    rw [hnil] at h
    refine ⟨?_, h⟩
    refine List.eq_nil_iff_forall_not_mem.2 fun i hi => ?_
    obtain ⟨h0, o, ho, _⟩ := mem_ready.1 hi
    have hlt : i < ops.size := (Array.getElem?_eq_some_iff.1 ho).1
    have : i ∈ rest ops.size listed := by
      unfold rest
      rw [List.mem_filter, List.mem_range]
      exact ⟨hlt, by rw [h0]; rfl⟩
    rw [hnil] at this
    cases this
  | succ fuel ih =>
    intro listed a w hn hs hl h
    refine ⟨fun hr => ?_, fun i hi => ?_⟩
    · exfalso
      cases hrest : rest ops.size listed with
      | nil => rw [hrest] at hl; simp at hl
      | cons x r =>
        have hx : x ∈ rest ops.size listed := by rw [hrest]; exact List.mem_cons_self
        have hex : ∀ k, (∃ i, i ≤ k ∧ i ∈ rest ops.size listed) → ∃ i, i ∈ rest ops.size listed ∧ ∀ j, j < i → j ∉ rest ops.size listed := by
          intro k
          induction k with
          | zero =>
            rintro ⟨i, h1, h2⟩
            exact ⟨i, h2, fun j hj => by omega⟩
          | succ k ihk =>
            rintro ⟨i, h1, h2⟩
            by_cases hlow : ∃ j, j ≤ k ∧ j ∈ rest ops.size listed
            · exact ihk hlow
            · exact ⟨i, h2, fun j hj hm => hlow ⟨j, by omega, hm⟩⟩
        obtain ⟨i, him, hmin⟩ := hex x ⟨x, Nat.le_refl _, hx⟩
        have him' := him
        unfold rest at him'
        rw [List.mem_filter, List.mem_range] at him'
        have ho : ops[i]? = some ops[i] := Array.getElem?_eq_getElem him'.1
        have : i ∈ Region.ready .any ops listed := by
          refine mem_ready.2 ⟨by simpa using him'.2, _, ho, fun e he hb => ?_⟩
          have hlt := (mixB_row hB ho).1 e he hb
          have hno := hmin e.on hlt
          unfold rest at hno
          rw [List.mem_filter, List.mem_range] at hno
          have hsz : e.on < listed.size := by omega
          have e1 : listed.getD e.on true = listed.getD e.on false := by simp [hsz]
          cases hb2 : listed.getD e.on false with
          | true => rfl
          | false =>
            rw [hb2] at e1
            exact absurd ⟨by omega, by rw [e1]; rfl⟩ hno
        rw [hr] at this
        cases this
    · obtain ⟨h0, oi, ho, hd⟩ := mem_ready.1 hi
      have hlt : i < ops.size := (Array.getElem?_eq_some_iff.1 ho).1
      obtain ⟨l1, l2, e1, e2, hl1⟩ := rest_split hn hlt h0
      rw [e1] at h
      have hfront := runM_front ho hsel l1 l2 a w (fun j hj => by
        obtain ⟨hji, hju⟩ := hl1 j hj
        have hsw := (mixB_row hB ho).2.2 j hji
        have hoj : ops[j]? = some ops[j] := Array.getElem?_eq_getElem (by omega)
        unfold orderedOrSwapsM at hsw
        rw [Bool.or_eq_true] at hsw
        rcases hsw with hsw | hsw
        · have := bits_listedM hB hs i i (Nat.le_refl _) oi ho hd j hsw
          have hsz : j < listed.size := by omega
          have e3 : listed.getD j true = listed.getD j false := by simp [hsz]
          rw [hju, this] at e3
          cases e3
        · rw [hoj, ho] at hsw
          simp only [Bool.and_eq_true] at hsw
          exact ⟨_, hoj, hsw.1, hsw.2⟩) h
      refine wpOp_of_stepM ho (stepM_mono (fun b w' hb => ih _ b w' (by simpa using hn) ?_ ?_ (by rw [e2]; exact hb)) hfront)
      · intro k o hk hkl e he hb
        rw [getD_set _ _ _ _ (by omega)] at hkl
        by_cases hik : i = k
        · subst hik
          rw [ho] at hk
          injection hk with hk
          subst hk
          exact getD_set_true (hd e he hb)
        · rw [if_neg hik] at hkl
          exact getD_set_true (hs k o hk hkl e he hb)
      · rw [e2]
        rw [e1] at hl
        simp only [List.length_append, List.length_cons] at hl ⊢
        omega

def mixD (S : Nat → Prop) (P : Program) (ops : Array Oper) (wb : World) (B : Array Nat) (Q : Act → World → Prop) : Nat → List Oper → Act → World → Prop
  | _, [], a, w => Q a w
  | i, o :: r, a, w => stepM S P ops wb (kat ops B i o) o (mixD S P ops wb B Q (i + 1) r) a w

theorem runM_of_mix {B : Array Nat} {Q : Act → World → Prop} (l : List Oper) : ∀ k, (∀ j, l[j]? = ops[k + j]?) → ∀ a w, mixD S P ops wb B Q k l a w → runM S P ops wb B Q (List.range' k l.length) a w := by
  induction l with
  | nil => intro k _ a w h; exact h
  | cons o l ih =>
    intro k h a w hw
    have h0 : ops[k]? = some o := by simpa using (h 0).symm
    simp only [List.length_cons, List.range'_succ, runM, h0]
    exact stepM_mono (fun b w' hb => ih (k + 1) (fun j => by have := h (j + 1); simpa [Nat.add_assoc, Nat.add_comm 1 j] using this) b w' hb) hw

structure wpMix (S : Nat → Prop) (P : Program) (ops : Array Oper) (wb : World) (Q : Act → World → Prop) (i : Nat) (l : List Oper) (a : Act) (w : World) : Prop where
  mk :: (out : mixD S P ops wb (Region.before ops) Q i l a w)

theorem wp_region_mix {id : Nat} {Q : Exit → Act → World → Prop} {a : Act} {w : World} {l : List Oper} (hm : P.follows .mixedOrders = true) (hB : mixB l.toArray (Region.before l.toArray) = true)
    (h : Kx S w.drew w.drew w.drew → wpMix S P l.toArray w.drew (fun a w => Q .normal a w) 0 l a w.drew) : (Code.region id l.toArray true).wp P Q a w := by
  refine wp_region_any hm ?_
  have h1 := runM_of_mix (ops := l.toArray) l 0 (by simp) a _ (h (Kx.refl _ _ _)).out
  refine wpAny_of_runM (S := S) (wb := w.drew) hB _ _ _ _ (by simp) ?_ ?_ ?_
  · intro k o hk hl
    by_cases hlt : k < l.length
    · simp [hlt] at hl
    · simp [hlt] at hl
  · rw [rest_none]; simp
  · rw [rest_none]
    rw [List.range_eq_range']
    simpa using h1

variable {Q : Act → World → Prop} {r : List Oper} {o : Oper} {a : Act} {w : World} {i : Nat}

theorem mix_nil (h : Q a w) : wpMix S P ops wb Q i [] a w := ⟨h⟩

theorem mix_pass {ts : List Value} {ds : List Deferred} {d : Nat} (hd : o.dst = some d) (hw : Region.wanted o (yielded ops ts.toArray) = false) (h : wpMix S P ops wb Q (i + 1) r ⟨(ts.set d undef).toArray, ds⟩ w) : wpMix S P ops wb Q i (o :: r) ⟨ts.toArray, ds⟩ w := by
  refine ⟨?_⟩
  show stepM S P ops wb (kat ops _ i o) o (mixD S P ops wb _ Q (i + 1) r) _ w
  unfold stepM
  rw [hw, hd]
  have := h.out
  simpa [Act.put, Tr.on] using this

theorem mix_p (hw : Region.wanted o (yielded ops a.tmps) = true) (hc : cl o.op = .p) (hk : kop o.op = .p) (h : ∀ K : Act → Prop, (∀ a', wpMix S P ops wb Q (i + 1) r a' w → K a') → o.quiet P a (fun _ => True) K) : wpMix S P ops wb Q i (o :: r) a w := by
  obtain ⟨v, h1, h2⟩ := h (fun a' => wpMix S P ops wb Q (i + 1) r a' w) (fun _ h => h)
  refine ⟨?_⟩
  show stepM S P ops wb (kat ops _ i o) o (mixD S P ops wb _ Q (i + 1) r) a w
  unfold stepM
  rw [if_pos hw, kat_p hk]
  refine ⟨v, fun w' => ?_, h2.out⟩
  have h3 := h1 w' trivial
  unfold Oper.quietAt at h3
  cases hr : (execOp a.eval o).run P w' with
  | halt x w1 => rw [hr] at h3; exact h3.elim
  | ok n w1 =>
    obtain ⟨u, rfl⟩ := value_of_cl (by rw [hc]; decide) hr
    rw [hr] at h3
    obtain ⟨e1, e2⟩ := h3
    rw [e1, e2]

theorem load_keeps {wr w1 : World} {t : TypeId} {x : Operand} {ad : Addr} {v : Value} (ho : o.op = .load t x) (hx : a.eval x = .pointer (some ad)) (hc : (wr.cell? ad).isSome = true) (hr : (execOp a.eval o).run P wr = .ok (.value v) wr) (hb : ad.block < wr.heap.size → w1.heap[ad.block]? = wr.heap[ad.block]?) : (execOp a.eval o).run P w1 = .ok (.value v) w1 := by
  obtain ⟨u, hu⟩ := Option.isSome_iff_exists.1 hc
  have hlt := World.block_lt_of_cell? wr ad hu
  have hcells : ∃ cs t fr, wr.heap[ad.block]? = some (.cells cs t fr) := by
    unfold World.cell? at hu
    split at hu
    · rename_i c e f hh
      exact ⟨_, _, _, hh⟩
    · cases hu
  have hs : execOp a.eval o = (do let y ← Go.loadVar t ad; pure (Next.value y) : Sem Next) := by
    obtain ⟨dst, op, type, pos, after, guard⟩ := o
    simp only at ho
    subst ho
    simp only [execOp, hx]
    rfl
  rw [hs] at hr ⊢
  exact near_bind (near_var t ad).1 (near_var t ad).2 (fun y => near_pure _) P wr w1 wr _ (hb hlt) hcells hr
theorem mix_re {t : TypeId} {x : Operand} {ad : Addr} (hw : Region.wanted o (yielded ops a.tmps) = true) (hk : kat ops (Region.before ops) i o = .re ∨ kat ops (Region.before ops) i o = .rl) (ho : o.op = .load t x) (hx : a.eval x = .pointer (some ad)) (hc : (wb.cell? ad).isSome = true) (hn : ¬ S ad.block) (hB : Kx S wb wb w)
    (h : ∀ K : Act → Prop, (∀ a', wpMix S P ops wb Q (i + 1) r a' w → K a') → o.quiet P a (fun w' => w' = wb) K) : wpMix S P ops wb Q i (o :: r) a w := by
  obtain ⟨v, h1, h2⟩ := quiet_run (C := fun w' => w' = wb) (wr := wb) (by rw [ho]; exact fun hh => by cases hh) rfl (h (fun a' => wpMix S P ops wb Q (i + 1) r a' w) (fun _ h => h))
  refine ⟨?_⟩
  show stepM S P ops wb (kat ops _ i o) o (mixD S P ops wb _ Q (i + 1) r) a w
  unfold stepM
  rw [if_pos hw]
  rcases hk with hk | hk
  · rw [hk]
    exact ⟨hB, v, fun w1 hb => load_keeps ho hx hc h1 (fun hl => hb.block _ hl (fun hh => hn hh.1)), h2.out⟩
  · rw [hk]
    exact ⟨hB, v, fun w1 hb => load_keeps ho hx hc h1 (fun hl => (hB.then_ hb).block _ hl (fun hh => hn hh.1)), h2.out⟩

theorem mix_rl {t : TypeId} {x : Operand} {ad : Addr} (hw : Region.wanted o (yielded ops a.tmps) = true) (hk : kat ops (Region.before ops) i o = .rl) (ho : o.op = .load t x) (hx : a.eval x = .pointer (some ad)) (hc : (w.cell? ad).isSome = true) (hB : Kx S wb wb w)
    (h : ∀ K : Act → Prop, (∀ a', wpMix S P ops wb Q (i + 1) r a' w → K a') → o.quiet P a (fun w' => w' = w) K) : wpMix S P ops wb Q i (o :: r) a w := by
  obtain ⟨v, h1, h2⟩ := quiet_run (C := fun w' => w' = w) (wr := w) (by rw [ho]; exact fun hh => by cases hh) rfl (h (fun a' => wpMix S P ops wb Q (i + 1) r a' w) (fun _ h => h))
  refine ⟨?_⟩
  show stepM S P ops wb (kat ops _ i o) o (mixD S P ops wb _ Q (i + 1) r) a w
  unfold stepM
  rw [if_pos hw, hk]
  exact ⟨hB, v, fun w1 hb => load_sure ho hx hc h1 hb, h2.out⟩

theorem mix_m (mk : Nat → Value) (obj : Obj) (hw : Region.wanted o (yielded ops a.tmps) = true) (hk : kat ops (Region.before ops) i o = .m) (hr : ∀ w1, (execOp a.eval o).run P w1 = .ok (.value (mk w1.heap.size)) (w1.alloc obj)) (hB : Kx S wb wb w)
    (h : ∀ g w', Bw w w' → wb.heap.size ≤ g → w'.heap[g]? = some obj → wpMix S P ops wb Q (i + 1) r (a.put o.dst (mk g)) w') : wpMix S P ops wb Q i (o :: r) a w := by
  refine ⟨?_⟩
  show stepM S P ops wb (kat ops _ i o) o (mixD S P ops wb _ Q (i + 1) r) a w
  unfold stepM
  rw [if_pos hw, hk]
  exact ⟨hB, mk, obj, hr, fun g w' h1 h2 h3 => (h g w' h1 h2 h3).out⟩

theorem mix_c (hw : Region.wanted o (yielded ops a.tmps) = true) (hk : kat ops (Region.before ops) i o = .c) (hB : Kx S wb wb w)
    (h : ∀ w1, Bw w w1 → ∀ K : Act → World → Prop, (∀ a' w', Bw w1 w' ∧ wpMix S P ops wb Q (i + 1) r a' w' → K a' w') → o.wp P a w1 K NoQ) : wpMix S P ops wb Q i (o :: r) a w := by
  refine ⟨?_⟩
  show stepM S P ops wb (kat ops _ i o) o (mixD S P ops wb _ Q (i + 1) r) a w
  unfold stepM
  rw [if_pos hw, hk]
  refine ⟨hB, fun w1 hw1 => ?_⟩
  exact outc_mono (fun t w' hk => ⟨hk.1, hk.2.out⟩) (outc_of_wp (h w1 hw1 (fun a' w' => Bw w1 w' ∧ wpMix S P ops wb Q (i + 1) r a' w') (fun _ _ h => h)))

theorem mix_a (hw : Region.wanted o (yielded ops a.tmps) = true) (hk : kat ops (Region.before ops) i o = .a) (h : ∀ K : Act → World → Prop, (∀ a' w', wpMix S P ops wb Q (i + 1) r a' w' → K a' w') → o.wp P a w K NoQ) : wpMix S P ops wb Q i (o :: r) a w := by
  refine ⟨?_⟩
  show stepM S P ops wb (kat ops _ i o) o (mixD S P ops wb _ Q (i + 1) r) a w
  unfold stepM
  rw [if_pos hw, hk]
  exact outc_mono (fun t w' hk => hk.out) (outc_of_wp (h _ fun _ _ h => h))
theorem mix_e (hw : Region.wanted o (yielded ops a.tmps) = true) (hk : kat ops (Region.before ops) i o = .e) (hB : Kx S wb wb w)
    (h : ∀ w1, Bw w w1 → ∀ K : Act → World → Prop, (∀ a' w', Kx S wb w1 w' ∧ wpMix S P ops wb Q (i + 1) r a' w' → K a' w') → o.wp P a w1 K NoQ) : wpMix S P ops wb Q i (o :: r) a w := by
  refine ⟨?_⟩
  show stepM S P ops wb (kat ops _ i o) o (mixD S P ops wb _ Q (i + 1) r) a w
  unfold stepM
  rw [if_pos hw, hk]
  refine ⟨hB, fun w1 hw1 => ?_⟩
  exact outc_mono (fun t w' hk => ⟨hk.1, hk.2.out⟩) (outc_of_wp (h w1 hw1 (fun a' w' => Kx S wb w1 w' ∧ wpMix S P ops wb Q (i + 1) r a' w') (fun _ _ h => h)))
end
end Go.Txt2

namespace Go.Proofs.Ytfgabafbcephaaa.My
open Go.RowKit Pa Go.Proofs.YtfgabafbcephaaaW.PrintWords
set_option linter.unusedSimpArgs false

def qO (bv fv kv : Value) (a : S36) (av : Value) : Obj := .cells #[bv, fv, kv, .int .i64 a.f0, .int .i64 a.f1, .int .i64 a.f2, .int .i64 a.f3, .int .i64 a.f4.f0, .int .i64 a.f4.f1, .int .i64 a.f4.f2, .int .i64 a.f4.f3, .int .i64 a.f5.f0, .int .i64 a.f5.f1, .int .i64 a.f5.f2, .int .i64 a.f5.f3, av] 87
abbrev AV := S36 × Value
def flatA (ps : List AV) : List Value := ps.flatMap (fun p => accC p.1 p.2)
def flatE (es : List (AV × AV)) : List Value := es.flatMap (fun e => accC e.1.1 e.1.2 ++ accC e.2.1 e.2.2)
def hbs (bv : Value) (fr : List (AV × AV)) (bk : List AV) (av : Value) : List Nat := bv.ownBlock.toList ++ (fr.flatMap (fun e => e.1.2.ownBlock.toList ++ e.2.2.ownBlock.toList) ++ (bk.flatMap (fun p => p.2.ownBlock.toList) ++ av.ownBlock.toList))
structure QAt (w : World) (F : Nat → Prop) (g : Nat) (bs : List Int) (fr : List (AV × AV)) (bk : List AV) (al : S36) (bv fv kv av : Value) : Prop where
  blk : w.heap[g]? = some (qO bv fv kv al av)
  bo : Own w 0 bv bs
  fo : w.ownsRow 0 90 26 fv fr.length (flatE fr)
  ko : w.ownsRow 0 36 13 kv bk.length (flatA bk)
  fe : ∀ e ∈ fr, Own w 0 e.1.2 e.1.1.f6 ∧ Own w 0 e.2.2 e.2.1.f6
  ke : ∀ p ∈ bk, Own w 0 p.2 p.1.f6
  ao : Own w 0 av al.f6
  fg : F g
  ff : ∀ k, fv.ownBlock = some k → F k
  fk : ∀ k, kv.ownBlock = some k → F k
  fh : ∀ k ∈ hbs bv fr bk av, F k
  nd : (hbs bv fr bk av).Nodup
section
variable {w w1 : World} {F G S : Nat → Prop} {g : Nat} {bs : List Int} {fr : List (AV × AV)} {bk : List AV} {al : S36} {bv fv kv av : Value}
theorem mem_bv {k : Nat} (h : bv.ownBlock = some k) : k ∈ hbs bv fr bk av := by simp [hbs, h]
theorem mem_av {k : Nat} (h : av.ownBlock = some k) : k ∈ hbs bv fr bk av := by simp [hbs, h]
theorem mem_fr1 {e : AV × AV} {k : Nat} (he : e ∈ fr) (h : e.1.2.ownBlock = some k) : k ∈ hbs bv fr bk av := by
  unfold hbs
  refine List.mem_append_right _ (List.mem_append_left _ (List.mem_flatMap.2 ⟨e, he, ?_⟩))
  simp [h]
theorem mem_fr2 {e : AV × AV} {k : Nat} (he : e ∈ fr) (h : e.2.2.ownBlock = some k) : k ∈ hbs bv fr bk av := by
  unfold hbs
  refine List.mem_append_right _ (List.mem_append_left _ (List.mem_flatMap.2 ⟨e, he, ?_⟩))
  simp [h]
theorem mem_bk {p : AV} {k : Nat} (he : p ∈ bk) (h : p.2.ownBlock = some k) : k ∈ hbs bv fr bk av := by
  unfold hbs
  refine List.mem_append_right _ (List.mem_append_right _ (List.mem_append_left _ (List.mem_flatMap.2 ⟨p, he, ?_⟩)))
  simp [h]
theorem QAt.keep (h : QAt w F g bs fr bk al bv fv kv av) (hc : Chg S w w1) (hn : ∀ i, F i → ¬ S i) : QAt w1 F g bs fr bk al bv fv kv av :=
  ⟨hc.obj h.blk (hn _ h.fg), h.bo.keep hc (fun k hk => hn _ (h.fh k (mem_bv hk))), row_keep h.fo hc (fun k hk => hn _ (h.ff k hk)), row_keep h.ko hc (fun k hk => hn _ (h.fk k hk)),
    fun e he => ⟨(h.fe e he).1.keep hc (fun k hk => hn _ (h.fh k (mem_fr1 he hk))), (h.fe e he).2.keep hc (fun k hk => hn _ (h.fh k (mem_fr2 he hk)))⟩,
    fun p hp => (h.ke p hp).keep hc (fun k hk => hn _ (h.fh k (mem_bk hp hk))), h.ao.keep hc (fun k hk => hn _ (h.fh k (mem_av hk))), h.fg, h.ff, h.fk, h.fh, h.nd⟩
theorem QAt.below (h : QAt w F g bs fr bk al bv fv kv av) (hb : Below w.heap.size w w1) : QAt w1 F g bs fr bk al bv fv kv av := h.keep (S := fun _ => False) (Chg.of_below hb) (fun _ _ h => h)
theorem QAt.mono (h : QAt w F g bs fr bk al bv fv kv av) (hf : ∀ i, i < w.heap.size → F i → G i) : QAt w G g bs fr bk al bv fv kv av := by
  have hl : ∀ k ∈ hbs bv fr bk av, k < w.heap.size := fun k hk => by
    unfold hbs at hk
    rcases List.mem_append.1 hk with hk | hk
    · exact own_lt h.bo k (by simpa using hk)
    · rcases List.mem_append.1 hk with hk | hk
      · obtain ⟨e, he, hk⟩ := List.mem_flatMap.1 hk
        rcases List.mem_append.1 hk with hk | hk
        · exact own_lt (h.fe e he).1 k (by simpa using hk)
        · exact own_lt (h.fe e he).2 k (by simpa using hk)
      · rcases List.mem_append.1 hk with hk | hk
        · obtain ⟨p, hp, hk⟩ := List.mem_flatMap.1 hk
          exact own_lt (h.ke p hp) k (by simpa using hk)
        · exact own_lt h.ao k (by simpa using hk)
  exact ⟨h.blk, h.bo, h.fo, h.ko, h.fe, h.ke, h.ao, hf _ (blk_lt h.blk) h.fg, fun k hk => hf _ (own_lt h.fo k hk) (h.ff k hk), fun k hk => hf _ (own_lt h.ko k hk) (h.fk k hk), fun k hk => hf _ (hl k hk) (h.fh k hk), h.nd⟩
end
end Go.Proofs.Ytfgabafbcephaaa.My

namespace Go.Proofs.Ytfgabafbcephaaa.My
open Go.RowKit Pa Go.Proofs.YtfgabafbcephaaaW.PrintWords
set_option linter.unusedSimpArgs false

theorem row_form {w : World} {base n size : Nat} {e : TypeId} {v : Value} {cs : List Value} (h : w.ownsRow base e size v n cs) : ∃ A c, v = .slice A n c ∧ n ≤ c := by
  rcases h.2 with ⟨e1, h0⟩ | ⟨b, cap, cur, e1, hb, hcur, hn, _⟩
  · exact ⟨none, 0, by rw [e1, h0], by omega⟩
  · exact ⟨_, cap, e1, hn⟩
section
variable {w : World} {F : Nat → Prop} {g : Nat} {bs : List Int} {fr : List (AV × AV)} {bk : List AV} {al : S36} {bv fv kv av : Value}
theorem cell_below {w w1 : World} {p : Addr} {v : Value} (h : w.cell? p = some v) (hb : Below w.heap.size w w1) : w1.cell? p = some v := by
  have := hb.block p.block (block_lt_of_cell h)
  rw [← h]
  simp [World.cell?, this]
end
end Go.Proofs.Ytfgabafbcephaaa.My

namespace Go.Proofs.Ytfgabafbcephaaa.My
open Go.RowKit Pa Go.Proofs.YtfgabafbcephaaaW.PrintWords
set_option linter.unusedSimpArgs false

theorem rdA_three {w : World} {b : Nat} {x y z : S36} {A B C : Option Addr} {c d e : Nat} {fr : Nat × Nat} (h : w.heap[b]? = some (.cells #[.int .i64 x.f0, .int .i64 x.f1, .int .i64 x.f2, .int .i64 x.f3, .int .i64 x.f4.f0, .int .i64 x.f4.f1, .int .i64 x.f4.f2, .int .i64 x.f4.f3, .int .i64 x.f5.f0, .int .i64 x.f5.f1, .int .i64 x.f5.f2, .int .i64 x.f5.f3, .slice A x.f6.length c, .int .i64 y.f0, .int .i64 y.f1, .int .i64 y.f2, .int .i64 y.f3, .int .i64 y.f4.f0, .int .i64 y.f4.f1, .int .i64 y.f4.f2, .int .i64 y.f4.f3, .int .i64 y.f5.f0, .int .i64 y.f5.f1, .int .i64 y.f5.f2, .int .i64 y.f5.f3, .slice B y.f6.length d, .int .i64 z.f0, .int .i64 z.f1, .int .i64 z.f2, .int .i64 z.f3, .int .i64 z.f4.f0, .int .i64 z.f4.f1, .int .i64 z.f4.f2, .int .i64 z.f4.f3, .int .i64 z.f5.f0, .int .i64 z.f5.f1, .int .i64 z.f5.f2, .int .i64 z.f5.f3, .slice C z.f6.length e] 36 fr)) (hl : x.f6.length ≤ c) (hr : RdI w A x.f6) (hl2 : y.f6.length ≤ d) (hr2 : RdI w B y.f6) (hl3 : z.f6.length ≤ e) (hr3 : RdI w C z.f6) : RdA w (some ⟨b, 0, none⟩) [x, y, z] := fun _ => by
  refine ⟨b, 0, rfl, blk_lt h, fun i hi => ?_⟩
  rcases (by simp at hi; omega : i = 0 ∨ i = 1 ∨ i = 2) with rfl | rfl | rfl
  · exact ⟨A, c, (blk_cell h 0).trans rfl, (blk_cell h 1).trans rfl, (blk_cell h 2).trans rfl, (blk_cell h 3).trans rfl, (blk_cell h 4).trans rfl, (blk_cell h 5).trans rfl, (blk_cell h 6).trans rfl, (blk_cell h 7).trans rfl, (blk_cell h 8).trans rfl, (blk_cell h 9).trans rfl, (blk_cell h 10).trans rfl, (blk_cell h 11).trans rfl, (blk_cell h 12).trans rfl, hl, hr⟩
  · exact ⟨B, d, (blk_cell h 13).trans rfl, (blk_cell h 14).trans rfl, (blk_cell h 15).trans rfl, (blk_cell h 16).trans rfl, (blk_cell h 17).trans rfl, (blk_cell h 18).trans rfl, (blk_cell h 19).trans rfl, (blk_cell h 20).trans rfl, (blk_cell h 21).trans rfl, (blk_cell h 22).trans rfl, (blk_cell h 23).trans rfl, (blk_cell h 24).trans rfl, (blk_cell h 25).trans rfl, hl2, hr2⟩
  · exact ⟨C, e, (blk_cell h 26).trans rfl, (blk_cell h 27).trans rfl, (blk_cell h 28).trans rfl, (blk_cell h 29).trans rfl, (blk_cell h 30).trans rfl, (blk_cell h 31).trans rfl, (blk_cell h 32).trans rfl, (blk_cell h 33).trans rfl, (blk_cell h 34).trans rfl, (blk_cell h 35).trans rfl, (blk_cell h 36).trans rfl, (blk_cell h 37).trans rfl, (blk_cell h 38).trans rfl, hl3, hr3⟩
theorem row_noq {w : World} {base size n g : Nat} {e : TypeId} {v : Value} {cs : List Value} {q : Array Value} {T : TypeId} (ho : w.ownsRow base e size v n cs) (hg : w.heap[g]? = some (.cells q T (0, 0))) (hne : e ≠ T) : ¬ some g = v.ownBlock := fun h => by
  obtain ⟨cells, hc⟩ := own_typed ho g h.symm
  rw [hc] at hg
  injection hg with hg
  injection hg with _ hg
  exact hne hg
section
variable {w : World} {F : Nat → Prop} {g : Nat} {bs : List Int} {fr : List (AV × AV)} {bk : List AV} {al : S36} {bv fv kv av : Value}
structure QSt (w : World) (g : Nat) (bs : List Int) (fr : List (AV × AV)) (bk : List AV) (al : S36) (bv fv kv av : Value) : Prop where
  blk : w.heap[g]? = some (qO bv fv kv al av)
  bo : Own w 0 bv bs
  fo : w.ownsRow 0 90 26 fv fr.length (flatE fr)
  fe : ∀ e ∈ fr, Own w 0 e.1.2 e.1.1.f6 ∧ Own w 0 e.2.2 e.2.1.f6
  ke : ∀ p ∈ bk, Own w 0 p.2 p.1.f6
  ao : Own w 0 av al.f6
theorem QAt.st (h : QAt w F g bs fr bk al bv fv kv av) : QSt w g bs fr bk al bv fv kv av := ⟨h.blk, h.bo, h.fo, h.fe, h.ke, h.ao⟩
theorem QSt.below {w1 : World} (h : QSt w g bs fr bk al bv fv kv av) (hb : Below w.heap.size w w1) : QSt w1 g bs fr bk al bv fv kv av :=
  ⟨blk_below h.blk hb, h.bo.below hb, row_keep (S := fun _ => False) h.fo (Chg.of_below hb) (fun _ _ h => h), fun e he => ⟨(h.fe e he).1.below hb, (h.fe e he).2.below hb⟩, fun p hp => (h.ke p hp).below hb, h.ao.below hb⟩
theorem QSt.grown {w1 : World} {v : Value} {n : Nat} {cs : List Value} (h : QSt w g bs fr bk al bv fv kv av) (hr : w.ownsRow 0 36 13 v n cs) (hg : w.grownBy w1 v.ownBlock) : QSt w1 g bs fr bk al bv fv kv av := by
  have hc : Chg (fun k => some k = v.ownBlock) w w1 := (Chg.refl _ w).grown hg (fun k hk => .inl hk.symm)
  refine ⟨hc.obj h.blk (row_noq hr h.blk (by decide)), h.bo.grown hr hg, ?_, fun e he => ⟨(h.fe e he).1.grown hr hg, (h.fe e he).2.grown hr hg⟩, fun p hp => (h.ke p hp).grown hr hg, h.ao.grown hr hg⟩
  refine row_keep h.fo hc (fun k hk e => ?_)
  rcases own_type_ne h.fo hr (by decide) with hn | hn
  · rw [hn] at hk; cases hk
  · exact hn (hk.trans e)
theorem QAt.lt (h : QAt w F g bs fr bk al bv fv kv av) : ∀ k ∈ hbs bv fr bk av, k < w.heap.size := fun k hk => by
  unfold hbs at hk
  rcases List.mem_append.1 hk with hk | hk
  · exact own_lt h.bo k (by simpa using hk)
  · rcases List.mem_append.1 hk with hk | hk
    · obtain ⟨e, he, hk⟩ := List.mem_flatMap.1 hk
      rcases List.mem_append.1 hk with hk | hk
      · exact own_lt (h.fe e he).1 k (by simpa using hk)
      · exact own_lt (h.fe e he).2 k (by simpa using hk)
    · rcases List.mem_append.1 hk with hk | hk
      · obtain ⟨p, hp, hk⟩ := List.mem_flatMap.1 hk
        exact own_lt (h.ke p hp) k (by simpa using hk)
      · exact own_lt h.ao k (by simpa using hk)
end
end Go.Proofs.Ytfgabafbcephaaa.My

namespace Go.Proofs.Ytfgabafbcephaaa.My
open Go.RowKit Pa Go.Proofs.YtfgabafbcephaaaW.PrintWords
set_option linter.unusedSimpArgs false

def shE (fr : List (AV × AV)) : List (S36 × S36) := fr.map (fun e => (e.1.1, e.2.1))
def shA (bk : List AV) : List S36 := bk.map (·.1)
def headS (bs : List Int) (fs : List (S36 × S36)) : S36 := match fs.getLast? with | none => (joinRes bs []).1 | some e => e.2
section
variable {w : World} {F : Nat → Prop} {g : Nat} {bs : List Int} {fr : List (AV × AV)} {bk : List AV} {al : S36} {bv fv kv av : Value}
end
end Go.Proofs.Ytfgabafbcephaaa.My

namespace Go.Proofs.Ytfgabafbcephaaa.My
open Go.RowKit Pa Go.Proofs.YtfgabafbcephaaaW.PrintWords
set_option linter.unusedSimpArgs false
section
variable {w : World} {F : Nat → Prop} {g : Nat} {bs : List Int} {fr : List (AV × AV)} {bk : List AV} {al : S36} {bv fv kv av : Value}
end
end Go.Proofs.Ytfgabafbcephaaa.My

namespace Go.Proofs.Ytfgabafbcephaaa.My
open Go.RowKit Pa Go.Proofs.YtfgabafbcephaaaW.PrintWords
set_option linter.unusedSimpArgs false
section
variable {w : World} {F : Nat → Prop} {g : Nat} {bs : List Int} {fr : List (AV × AV)} {bk : List AV} {al : S36} {bv fv kv av : Value}
end
end Go.Proofs.Ytfgabafbcephaaa.My

namespace Go.Proofs.Ytfgabafbcephaaa.My
open Go.RowKit Pa Go.Proofs.YtfgabafbcephaaaW.PrintWords
set_option linter.unusedSimpArgs false
end Go.Proofs.Ytfgabafbcephaaa.My

namespace Go.Proofs.Ytfgabafbcephaaa.My
open Go.RowKit Pa Go.Proofs.YtfgabafbcephaaaW.PrintWords
set_option linter.unusedSimpArgs false
def rO (bv kv : Value) : Obj := .cells #[bv, kv] 49
structure RQ (w : World) (F : Nat → Prop) (g : Nat) (bs : List Int) (ps : List AV) (bv kv : Value) : Prop where
  blk : w.heap[g]? = some (rO bv kv)
  bo : Own w 0 bv bs
  ko : w.ownsRow 0 36 13 kv ps.length (flatA ps)
  ke : ∀ p ∈ ps, Own w 0 p.2 p.1.f6
  fg : F g
  fb : ∀ k, bv.ownBlock = some k → F k
  fk : ∀ k, kv.ownBlock = some k → F k
  fe : ∀ p ∈ ps, ∀ k, p.2.ownBlock = some k → F k
section
variable {w w1 : World} {F G S : Nat → Prop} {g : Nat} {bs : List Int} {ps : List AV} {bv kv : Value}
theorem RQ.keep (h : RQ w F g bs ps bv kv) (hc : Chg S w w1) (hn : ∀ i, F i → ¬ S i) : RQ w1 F g bs ps bv kv :=
  ⟨hc.obj h.blk (hn _ h.fg), h.bo.keep hc (fun k hk => hn _ (h.fb k hk)), row_keep h.ko hc (fun k hk => hn _ (h.fk k hk)), fun p hp => (h.ke p hp).keep hc (fun k hk => hn _ (h.fe p hp k hk)), h.fg, h.fb, h.fk, h.fe⟩
theorem RQ.below (h : RQ w F g bs ps bv kv) (hb : Below w.heap.size w w1) : RQ w1 F g bs ps bv kv := h.keep (S := fun _ => False) (Chg.of_below hb) (fun _ _ h => h)
theorem RQ.mono (h : RQ w F g bs ps bv kv) (hf : ∀ i, i < w.heap.size → F i → G i) : RQ w G g bs ps bv kv :=
  ⟨h.blk, h.bo, h.ko, h.ke, hf _ (blk_lt h.blk) h.fg, fun k hk => hf k (own_lt h.bo k hk) (h.fb k hk), fun k hk => hf k (own_lt h.ko k hk) (h.fk k hk), fun p hp k hk => hf k (own_lt (h.ke p hp) k hk) (h.fe p hp k hk)⟩
theorem shA_len (ps : List AV) : (shA ps).length = ps.length := by simp [shA]
end
end Go.Proofs.Ytfgabafbcephaaa.My

namespace Go.Proofs.Ytfgabafbcephaaa.My
open Go.RowKit Pa Go.Proofs.YtfgabafbcephaaaW.PrintWords
set_option linter.unusedSimpArgs false
end Go.Proofs.Ytfgabafbcephaaa.My

namespace Go.Proofs.Ytfgabafbcephaaa.My
open Go.RowKit Pa Go.Proofs.YtfgabafbcephaaaW.PrintWords
set_option linter.unusedSimpArgs false
end Go.Proofs.Ytfgabafbcephaaa.My

namespace Go.Proofs.Ytfgabafbcephaaa.My
open Go.RowKit Pa Go.Proofs.YtfgabafbcephaaaW.PrintWords
set_option linter.unusedSimpArgs false

theorem joinA_append (bs : List Int) (xs : List S36) (y : S36) : joinA bs (xs ++ [y]) = stepA (joinA bs xs) y := by
  unfold joinA
  rw [List.foldl_append]
  rfl

def bb : List Int := [-50, 0, 20, 300]
def bv (n : Int) : Int := bits .and .i64 n 1023 - 500
def bk (i v : Int) : S36 := one ⟨0, i, i + 1, v⟩ bb
end Go.Proofs.Ytfgabafbcephaaa.My

namespace Go.Proofs.Ytfgabafbcephaaa.My
open Go.RowKit Pa Go.Proofs.YtfgabafbcephaaaW.PrintWords
set_option linter.unusedSimpArgs false

theorem allm_rz {bs : List Int} (hb : bmay bs = true) {s : Int} : ∀ {xs : List S36} {f : Int}, (∀ x ∈ xs, x = join0 bs ∨ (May1 bs x ∧ x.f4.f0 = s)) → (f = -1 ∨ f = s) → allm bs f xs = true
  | [], _, _, _ => hb
  | x :: r, f, h, hf => by
    have hr := fun y (hy : y ∈ r) => h y (List.mem_cons_of_mem _ hy)
    rcases h x (List.mem_cons_self ..) with rfl | hx
    · rw [allm_zero hb]
      exact allm_rz hb hr hf
    · unfold allm
      rw [if_pos hx.1.amay, if_pos (show 0 < x.f0 from by have := hx.1.c; omega)]
      rw [if_neg (by rcases hf with rfl | rfl
                     · simp
                     · rw [hx.2]; simp)]
      exact allm_rz hb hr (.inr hx.2)
theorem cnt_map (bs : List Int) (L : List S34) : cnt (L.map (fun x => one x bs)) = L.length := by
  unfold cnt
  induction L with
  | nil => rfl
  | cons x r ih =>
    simp only [List.map_cons, List.sum_cons, List.length_cons]
    rw [ih]
    show (1 : Int) + _ = _
    omega
end Go.Proofs.Ytfgabafbcephaaa.My

namespace Go.Proofs.Ytfgabafbcephaaa.My
open Go.RowKit Pa Go.Proofs.YtfgabafbcephaaaW.PrintWords
set_option linter.unusedSimpArgs false

theorem hadd_assoc : ∀ (a b c : List Int), hadd (hadd a b) c = hadd a (hadd b c)
  | [], _, _ => rfl
  | x :: a, [], c => by simp [hadd]
  | x :: a, y :: b, [] => by simp [hadd]
  | x :: a, y :: b, z :: c => by
    have ih := hadd_assoc a b c
    unfold hadd at *
    simp only [List.zipWith_cons_cons, ih, Int.add_assoc]
theorem ord_lt_trans {a b c : S34} (h1 : ord c b < 0) (h2 : ord b a < 0) : ord c a < 0 := by
  unfold ord at *
  (repeat' split at h1) <;> (repeat' split at h2) <;> (repeat' split) <;> omega
theorem ord_ge_trans {a b c : S34} (h1 : 0 ≤ ord c b) (h2 : 0 ≤ ord b a) : 0 ≤ ord c a := by
  unfold ord at *
  (repeat' split at h1) <;> (repeat' split at h2) <;> (repeat' split) <;> omega
theorem add_assoc3 {a b c : S36} (ha : a.f0 ≠ 0) (hb : b.f0 ≠ 0) (hab : a.f0 + b.f0 ≠ 0) : addA (addA a b) c = addA a (addA b c) := by
  obtain ⟨p0, p1, p2, p3, p4, p5, p6⟩ := add_parts a b ha
  obtain ⟨q0, q1, q2, q3, q4, q5, q6⟩ := add_parts b c hb
  obtain ⟨r0, r1, r2, r3, r4, r5, r6⟩ := add_parts (addA a b) c (by rw [p0]; exact hab)
  obtain ⟨s0, s1, s2, s3, s4, s5, s6⟩ := add_parts a (addA b c) ha
  refine s28_ext (by rw [r0, s0, p0, q0]; omega) (by rw [r1, s1, p1, q1]; omega) ?_ ?_ ?_ ?_ (by rw [r6, s6, p6, q6, hadd_assoc])
  · rw [r2, s2, p2, q2]
    (repeat' split) <;> omega
  · rw [r3, s3, p3, q3]
    (repeat' split) <;> omega
  · rw [r4, s4, p4, q4]
    by_cases h1 : ord b.f4 a.f4 < 0
    · rw [if_pos h1]
      by_cases h2 : ord c.f4 b.f4 < 0
      · rw [if_pos h2, if_pos (ord_lt_trans h2 h1)]
      · rw [if_neg h2, if_pos h1]
    · rw [if_neg h1]
      by_cases h2 : ord c.f4 b.f4 < 0
      · rw [if_pos h2]
      · rw [if_neg h2, if_neg h1, if_neg]
        have e1 : 0 ≤ ord c.f4 b.f4 := by omega
        have e2 : 0 ≤ ord b.f4 a.f4 := by omega
        have := ord_ge_trans e1 e2
        omega
  · rw [r5, s5, p5, q5]
    by_cases h1 : 0 ≤ ord b.f5 a.f5
    · rw [if_pos h1]
      by_cases h2 : 0 ≤ ord c.f5 b.f5
      · rw [if_pos h2, if_pos (ord_ge_trans h2 h1)]
      · rw [if_neg h2, if_pos h1]
    · rw [if_neg h1]
      by_cases h2 : 0 ≤ ord c.f5 b.f5
      · rw [if_pos h2]
      · rw [if_neg h2, if_neg h1, if_neg]
        have := ord_lt_trans (a := a.f5) (b := b.f5) (c := c.f5) (by omega) (by omega)
        omega
theorem step_pos {o a : S36} (h : 0 < a.f0) : stepA o a = addA o a := if_pos h
theorem amay_zs {bs : List Int} {x : S36} {s : Int} (hx : amay x bs = true) (hs : x.f0 ≠ 0 → x.f4.f0 = s) : Zs bs s x := by
  by_cases hz : x.f0 = 0
  · left
    have hf := amay_fit hx
    have hx2 := hx
    unfold amay at hx2
    rw [if_pos hz] at hx2
    simp only [Bool.and_eq_true, decide_eq_true_eq] at hx2
    obtain ⟨_, _, hh, _, _, hb⟩ := hx2
    unfold bareB at hb
    simp only [Bool.and_eq_true, beq_iff_eq] at hb
    obtain ⟨b1, b2, b3, b4, b5⟩ := hb
    have hl := hf.len
    refine s28_ext hz b1 b2 b3 (isz_yes b4) (isz_yes b5) (List.ext_getElem (by rw [hl]; simp [join0]) (fun i h1 h2 => ?_))
    have := hf.h i h1
    rw [List.getD_eq_getElem?_getD, List.getElem?_eq_getElem h1, Option.getD_some, hz] at this
    have e : (join0 bs).f6[i] = 0 := List.getElem_replicate ..
    rw [e]
    omega
  · exact .inr ⟨May1.of hx hz, hs hz⟩
theorem zs_bm {bs : List Int} (hb : bmay bs = true) {s : Int} {x : S36} (h : Zs bs s x) : amay x bs = true ∧ (x.f0 ≠ 0 → x.f4.f0 = s) := by
  rcases h with rfl | ⟨m, e⟩
  · exact ⟨amay_zero hb, fun h => absurd rfl h⟩
  · exact ⟨m.amay, fun _ => e⟩
theorem zs_c {bs : List Int} {s : Int} {x : S36} (h : Zs bs s x) : 0 ≤ x.f0 ∧ x.f0 ≤ 8192 := by
  rcases h with rfl | ⟨m, e⟩
  · exact ⟨Int.le_refl _, by show (0 : Int) ≤ 8192; omega⟩
  · have := m.c
    omega
theorem zs_f0 {bs : List Int} {s : Int} {x y : S36} (hy : Zs bs s y) : (stepA x y).f0 = x.f0 + y.f0 := by
  rcases hy with rfl | ⟨m, _⟩
  · rw [step_zero]
    show _ = x.f0 + 0
    omega
  · rw [step_pos (by have := m.c; omega)]
    exact (addA_f0 x y).1
theorem zs_step {bs : List Int} {s : Int} {x y : S36} (hb : bmay bs = true) (hx : Zs bs s x) (hy : Zs bs s y) (hc : x.f0 + y.f0 ≤ 8192) : Zs bs s (stepA x y) := by
  obtain ⟨h1, h2⟩ := zs_bm hb hy
  exact (rstep_eq h1 hx h2).2 hc
theorem step_assoc {bs : List Int} {s : Int} {x y z : S36} (hx : Zs bs s x) (hy : Zs bs s y) (hz : Zs bs s z) : stepA (stepA x y) z = stepA x (stepA y z) := by
  rcases hz with rfl | ⟨mz, _⟩
  · rw [step_zero, step_zero]
  rcases hy with rfl | ⟨my, _⟩
  · rw [step_zero, zero_step mz]
  have cy := my.c
  have cz := mz.c
  rcases hx with rfl | ⟨mx, _⟩
  · have e : stepA (join0 bs) (stepA y z) = stepA y z := by
      rw [step_pos (o := y) (by omega)]
      have h0 : (addA y z).f0 = y.f0 + z.f0 := (addA_f0 y z).1
      have h6 : (addA y z).f6 = hadd y.f6 z.f6 := (addA_f0 y z).2.2
      rw [step_pos (by omega)]
      have p := add_parts y z (by omega)
      generalize addA y z = u at *
      have hl : u.f6.length = bs.length + 1 := by rw [h6, hadd_len (by rw [mz.len, my.len]), my.len]
      have hh := hadd_zeros u.f6
      rw [hl] at hh
      obtain ⟨a0, a1, a2, a3, a4, a5, a6⟩ := u
      unfold addA fst_ add3 add4 add5 add6 join0
      simp only [ord_self] at *
      simp [hh]
    rw [zero_step my, e]
  · have cx := mx.c
    have h1 : stepA x y = addA x y := step_pos (by omega)
    have h2 : stepA y z = addA y z := step_pos (by omega)
    have h3 : (addA y z).f0 = y.f0 + z.f0 := (addA_f0 y z).1
    rw [h1, h2, step_pos (by omega), step_pos (by omega)]
    exact add_assoc3 (by omega) (by omega) (by omega)
theorem fold_zs {bs : List Int} (hb : bmay bs = true) {s : Int} : ∀ {L : List S36} {o : S36}, Zs bs s o → (∀ x ∈ L, Zs bs s x) → o.f0 + cnt L ≤ 8192 → Zs bs s (L.foldl stepA o) ∧ (L.foldl stepA o).f0 = o.f0 + cnt L ∧ L.foldl stepA o = stepA o (joinA bs L)
  | [], o, ho, _, _ => ⟨ho, by simp [cnt], (step_zero o bs).symm⟩
  | x :: r, o, ho, hL, hc => by
    have hx := hL x (List.mem_cons_self ..)
    have hr := fun y (hy : y ∈ r) => hL y (List.mem_cons_of_mem _ hy)
    have hcx : cnt (x :: r) = x.f0 + cnt r := by simp [cnt]
    have c1 := zs_c hx
    have c2 := zs_c ho
    have c3 : 0 ≤ cnt r := by
      clear hcx hc
      induction r with
      | nil => simp [cnt]
      | cons y t ih =>
        have := zs_c (hr y (List.mem_cons_self ..))
        have := ih (fun z hz => hL z (by rcases List.mem_cons.1 hz with rfl | hz <;> simp [*])) (fun z hz => hr z (List.mem_cons_of_mem _ hz))
        have : cnt (y :: t) = y.f0 + cnt t := by simp [cnt]
        omega
    rw [hcx] at hc
    have h0 := zs_f0 (x := o) hx
    have hz0 : Zs bs s (join0 bs) := .inl rfl
    have e0 : (join0 bs).f0 = 0 := rfl
    have h1 := fold_zs hb (L := r) (zs_step hb ho hx (by omega)) hr (by omega)
    have h2 := fold_zs hb (L := r) (zs_step hb hz0 hx (by omega)) hr (by rw [zs_f0 hx, e0]; omega)
    have h3 := fold_zs hb (L := r) hz0 hr (by rw [e0]; omega)
    have hj : joinA bs (x :: r) = stepA (stepA (join0 bs) x) (joinA bs r) := h2.2.2
    refine ⟨h1.1, by rw [hcx]; have := h1.2.1; simp only [List.foldl_cons] at *; omega, ?_⟩
    have hjr : Zs bs s (joinA bs r) := h3.1
    rw [hj, List.foldl_cons, h1.2.2, step_assoc ho hx hjr, step_assoc hz0 hx hjr]
    have h4 : Zs bs s (stepA x (joinA bs r)) := zs_step hb hx hjr (by
      have := h3.2.1
      have e : (joinA bs r).f0 = (r.foldl stepA (join0 bs)).f0 := rfl
      omega)
    rcases h4 with e | ⟨m, _⟩
    · rw [e, step_zero, step_zero, step_zero]
    · rw [zero_step m]
theorem join_app {bs : List Int} (hb : bmay bs = true) {s : Int} {L M : List S36} (hL : ∀ x ∈ L, Zs bs s x) (hM : ∀ x ∈ M, Zs bs s x) (hc : cnt L + cnt M ≤ 8192) (h0 : 0 ≤ cnt M) : joinA bs (L ++ M) = stepA (joinA bs L) (joinA bs M) := by
  have e0 : (join0 bs).f0 = 0 := rfl
  have h1 := fold_zs hb (L := L) (.inl rfl) hL (by rw [e0]; omega)
  have h2 := fold_zs hb (L := M) h1.1 hM (by rw [h1.2.1, e0]; omega)
  show (L ++ M).foldl stepA (join0 bs) = _
  rw [List.foldl_append, h2.2.2]
  rfl
theorem cnt_app (L M : List S36) : cnt (L ++ M) = cnt L + cnt M := by simp [cnt]
theorem cnt_nn {bs : List Int} {s : Int} {L : List S36} (hL : ∀ x ∈ L, Zs bs s x) : 0 ≤ cnt L := by
  induction L with
  | nil => simp [cnt]
  | cons y t ih =>
    have := zs_c (hL y (List.mem_cons_self ..))
    have := ih (fun z hz => hL z (List.mem_cons_of_mem _ hz))
    have : cnt (y :: t) = y.f0 + cnt t := by simp [cnt]
    omega
structure Gd (bs : List Int) (s : Int) (L : List S36) : Prop where
  b : bmay bs = true
  z : ∀ x ∈ L, Zs bs s x
  c : cnt L ≤ 8192
section
variable {bs : List Int} {s : Int} {L M : List S36}
theorem Gd.nil (hb : bmay bs = true) : Gd bs s [] := ⟨hb, by simp, by simp [cnt]⟩
theorem Gd.join (h : Gd bs s L) : joinRes bs L = (joinA bs L, 0) := by
  unfold joinRes
  rw [if_pos (allm_rz h.b h.z (.inl rfl)), if_neg (by have := h.c; omega)]
theorem Gd.of (h : (joinRes bs L).2 = 0) : ∃ s, Gd bs s L := by
  unfold joinRes at h
  by_cases ha : allm bs (-1) L = true
  · rw [if_pos ha] at h
    by_cases hc : 8192 < cnt L
    · rw [if_pos hc] at h
      cases h
    · obtain ⟨s, hs⟩ := allm_ser ha
      exact ⟨s, allm_bm ha, fun x hx => amay_zs (allm_all ha x hx) (hs x hx), by omega⟩
  · rw [if_neg ha] at h
    cases h
theorem Gd.zj (h : Gd bs s L) : Zs bs s (joinA bs L) ∧ (joinA bs L).f0 = cnt L := by
  have e0 : (join0 bs).f0 = 0 := rfl
  have h1 := fold_zs h.b (L := L) (.inl rfl) h.z (by have := h.c; rw [e0]; omega)
  exact ⟨h1.1, by show (L.foldl stepA (join0 bs)).f0 = _; rw [h1.2.1, e0]; omega⟩
theorem Gd.left (h : Gd bs s (L ++ M)) : Gd bs s L := by
  have hM : ∀ x ∈ M, Zs bs s x := fun x hx => h.z x (List.mem_append_right _ hx)
  have := cnt_nn hM
  have hc := h.c
  rw [cnt_app] at hc
  exact ⟨h.b, fun x hx => h.z x (List.mem_append_left _ hx), by omega⟩
theorem Gd.right (h : Gd bs s (L ++ M)) : Gd bs s M := by
  have hL : ∀ x ∈ L, Zs bs s x := fun x hx => h.z x (List.mem_append_left _ hx)
  have := cnt_nn hL
  have hc := h.c
  rw [cnt_app] at hc
  exact ⟨h.b, fun x hx => h.z x (List.mem_append_right _ hx), by omega⟩
theorem Gd.app (h : Gd bs s (L ++ M)) : joinA bs (L ++ M) = stepA (joinA bs L) (joinA bs M) := by
  have hc := h.c
  rw [cnt_app] at hc
  exact join_app h.b h.left.z h.right.z hc (cnt_nn h.right.z)
theorem Gd.two (h : Gd bs s (L ++ M)) : joinRes bs [joinA bs L, joinA bs M] = (joinA bs (L ++ M), 0) := by
  have h1 := h.left.zj
  have h2 := h.right.zj
  have hc := h.c
  rw [cnt_app] at hc
  have g : Gd bs s [joinA bs L, joinA bs M] := ⟨h.b, by
    intro x hx
    simp only [List.mem_cons, List.not_mem_nil, or_false] at hx
    rcases hx with rfl | rfl
    · exact h1.1
    · exact h2.1, by simp only [cnt, List.map_cons, List.map_nil, List.sum_cons, List.sum_nil, h1.2, h2.2]; unfold cnt at hc; omega⟩
  rw [g.join, h.app]
  have e : joinA bs [joinA bs L, joinA bs M] = stepA (stepA (join0 bs) (joinA bs L)) (joinA bs M) := rfl
  rw [e]
  rcases h1.1 with e1 | ⟨m, _⟩
  · rw [e1, step_zero]
  · rw [zero_step m]
theorem zero_zs {x : S36} (h : Zs bs s x) : stepA (join0 bs) x = x := by
  rcases h with rfl | ⟨m, _⟩
  · exact step_zero _ _
  · exact zero_step m
theorem Gd.one (hb : bmay bs = true) {a : S36} (h : Zs bs s a) : Gd bs s [a] := ⟨hb, by simpa using h, by have := zs_c h; simp [cnt]; omega⟩
theorem joinA_one (a : S36) : joinA bs [a] = stepA (join0 bs) a := rfl
theorem Gd.more (h : Gd bs s (L ++ M)) (a : S36) : (joinRes bs [joinA bs L, joinA bs M, a]).2 = (joinRes bs [joinA bs (L ++ M), a]).2 := by
  have h1 := h.left.zj
  have h2 := h.right.zj
  have h3 := h.zj
  have happ := h.app
  have hb := h.b
  have hm : allm bs (-1) [joinA bs L, joinA bs M, a] = allm bs (-1) [joinA bs (L ++ M), a] := by
    rw [happ] at h3 ⊢
    rcases h1.1 with e1 | ⟨m1, s1⟩
    · rw [e1, zero_zs h2.1, allm_zero hb]
    · rcases h2.1 with e2 | ⟨m2, s2⟩
      · rw [e2, step_zero, allm_one m1, allm_one m1, allm_zero hb]
      · rcases h3.1 with e3 | ⟨m3, s3⟩
        · have e4 := h3.2
          have e5 := zs_f0 (x := joinA bs L) h2.1
          rw [e3] at e5
          have := m1.c
          have := m2.c
          have e6 : (join0 bs).f0 = 0 := rfl
          omega
        · rw [allm_one m1, allm_one m3, s1, s3, allm, if_pos m2.amay, if_pos (by have := m2.c; omega), if_neg (by rw [s2]; simp), s2]
  have hc : cnt [joinA bs L, joinA bs M, a] = cnt [joinA bs (L ++ M), a] := by
    simp only [cnt, List.map_cons, List.map_nil, List.sum_cons, List.sum_nil, h1.2, h2.2, h3.2, List.map_append, List.sum_append]
    omega
  unfold joinRes
  rw [hm, hc]
  split
  · split <;> rfl
  · rfl
theorem Gd.snoc (h : Gd bs s L) {a : S36} (h0 : (joinRes bs [joinA bs L, a]).2 = 0) : ∃ t, Gd bs t (L ++ [a]) := by
  obtain ⟨t, g⟩ := Gd.of h0
  have hj := h.zj
  have ga := g.z a (by simp)
  have gj := g.z (joinA bs L) (by simp)
  have hcc := g.c
  simp only [cnt, List.map_cons, List.map_nil, List.sum_cons, List.sum_nil] at hcc
  refine ⟨t, h.b, fun x hx => ?_, by rw [cnt_app, ← hj.2]; simp [cnt]; omega⟩
  rcases List.mem_append.1 hx with hx | hx
  · refine amay_zs (zs_bm h.b (h.z x hx)).1 (fun hz => ?_)
    have hzj : (joinA bs L).f0 ≠ 0 := by
      rw [hj.2]
      obtain ⟨l1, l2, rfl⟩ := List.append_of_mem hx
      have e1 := cnt_nn (fun y hy => h.z y (List.mem_append_left _ hy))
      have e2 := cnt_nn (fun y hy => h.z y (List.mem_append_right _ (List.mem_cons_of_mem _ hy)))
      have e3 := zs_c (h.z x hx)
      have e4 : cnt (x :: l2) = x.f0 + cnt l2 := by simp [cnt]
      rw [cnt_app]
      omega
    have e1 := (zs_bm h.b hj.1).2 hzj
    have e2 := (zs_bm h.b gj).2 hzj
    have e3 := (zs_bm h.b (h.z x hx)).2 hz
    omega
  · rw [List.mem_singleton.1 hx]
    exact ga
end
inductive FrOk (bs : List Int) : List (S36 × S36) → Prop where
  | nil : FrOk bs []
  | snoc {fs : List (S36 × S36)} {a j : S36} : FrOk bs fs → j = joinA bs (a :: (fs.map Prod.fst).reverse) → FrOk bs (fs ++ [(a, j)])
structure QI (bs : List Int) (fs : List (S36 × S36)) (bk : List S36) (al : S36) (L : List S36) : Prop where
  fr : FrOk bs fs
  al : al = joinA bs bk
  row : L = (fs.map Prod.fst).reverse ++ bk
  gd : ∃ s, Gd bs s L
theorem FrOk.head {bs : List Int} {fs : List (S36 × S36)} (hb : bmay bs = true) (h : FrOk bs fs) : headS bs fs = joinA bs (fs.map Prod.fst).reverse := by
  cases h with
  | nil => show (joinRes bs []).1 = _; rw [(Gd.nil (s := 0) hb).join]; rfl
  | snoc h1 h2 =>
    unfold headS
    simp [h2]
section
variable {bs : List Int} {fs : List (S36 × S36)} {bk L : List S36} {al : S36}
theorem QI.new (h : (joinRes bs []).2 = 0) : QI bs [] [] (joinRes bs []).1 [] := by
  obtain ⟨s, g⟩ := Gd.of h
  refine ⟨.nil, ?_, rfl, s, g⟩
  rw [g.join]
theorem QI.head (h : QI bs fs bk al L) : headS bs fs = joinA bs (fs.map Prod.fst).reverse := by
  obtain ⟨s, g⟩ := h.gd
  exact h.fr.head g.b
theorem QI.push (h : QI bs fs bk al L) (a : S36) : (joinRes bs [headS bs fs, al, a]).2 = (joinRes bs [(joinRes bs L).1, a]).2 ∧ ((joinRes bs [headS bs fs, al, a]).2 = 0 → QI bs fs (bk ++ [a]) (joinRes bs [al, a]).1 (L ++ [a])) := by
  obtain ⟨s, g⟩ := h.gd
  have hr := h.row
  subst hr
  have e1 := g.more a
  rw [g.join, h.head, h.al]
  refine ⟨e1, fun h0 => ?_⟩
  rw [e1] at h0
  obtain ⟨t, gt⟩ := g.snoc h0
  refine ⟨h.fr, ?_, by rw [List.append_assoc], t, gt⟩
  rw [List.append_assoc] at gt
  have e2 := gt.right.two
  rw [joinA_one, zero_zs (gt.right.z a (by simp))] at e2
  rw [e2]
end
end Go.Proofs.Ytfgabafbcephaaa.My

namespace Go.Proofs.Ytfgabafbcephaaa.My
open Go.RowKit Pa Go.Proofs.YtfgabafbcephaaaW.PrintWords
set_option linter.unusedSimpArgs false
end Go.Proofs.Ytfgabafbcephaaa.My

namespace Go.Proofs.Ytfgabafbcephaaa.My
open Go.RowKit Pa Go.Proofs.YtfgabafbcephaaaW.PrintWords
set_option linter.unusedSimpArgs false
def QL (w : World) (F : Nat → Prop) (g : Nat) (bs : List Int) (L : List S36) : Prop := ∃ fr bk al bv fv kv av, QAt w F g bs fr bk al bv fv kv av ∧ QI bs (shE fr) (shA bk) al L
def RL (w : World) (F : Nat → Prop) (g : Nat) (bs : List Int) (L : List S36) : Prop := ∃ ps bv kv, RQ w F g bs ps bv kv ∧ L = shA ps
section
variable {w w1 : World} {F G S : Nat → Prop} {g : Nat} {bs : List Int} {L : List S36}
theorem QL.keep (h : QL w F g bs L) (hc : Chg S w w1) (hn : ∀ i, F i → ¬ S i) : QL w1 F g bs L := by
  obtain ⟨fr, bk, al, bv, fv, kv, av, h1, h2⟩ := h
  exact ⟨fr, bk, al, bv, fv, kv, av, h1.keep hc hn, h2⟩
theorem QL.below (h : QL w F g bs L) (hb : Below w.heap.size w w1) : QL w1 F g bs L := h.keep (S := fun _ => False) (Chg.of_below hb) (fun _ _ h => h)
theorem QL.mono (h : QL w F g bs L) (hf : ∀ i, i < w.heap.size → F i → G i) : QL w G g bs L := by
  obtain ⟨fr, bk, al, bv, fv, kv, av, h1, h2⟩ := h
  exact ⟨fr, bk, al, bv, fv, kv, av, h1.mono hf, h2⟩
theorem RL.keep (h : RL w F g bs L) (hc : Chg S w w1) (hn : ∀ i, F i → ¬ S i) : RL w1 F g bs L := by
  obtain ⟨ps, bv, kv, h1, h2⟩ := h
  exact ⟨ps, bv, kv, h1.keep hc hn, h2⟩
theorem RL.below (h : RL w F g bs L) (hb : Below w.heap.size w w1) : RL w1 F g bs L := h.keep (S := fun _ => False) (Chg.of_below hb) (fun _ _ h => h)
theorem RL.mono (h : RL w F g bs L) (hf : ∀ i, i < w.heap.size → F i → G i) : RL w G g bs L := by
  obtain ⟨ps, bv, kv, h1, h2⟩ := h
  exact ⟨ps, bv, kv, h1.mono hf, h2⟩
theorem QI.len {fs : List (S36 × S36)} {bk : List S36} {al : S36} (h : QI bs fs bk al L) : L.length = fs.length + bk.length := by
  rw [h.row]
  simp
theorem RL.all (h : RL w F g bs L) : ∃ bv A c, w.heap[g]? = some (rO bv (.slice A L.length c)) := by
  obtain ⟨ps, bv, kv, h1, rfl⟩ := h
  obtain ⟨A, c, rfl, _⟩ := row_form h1.ko
  exact ⟨bv, A, c, by rw [shA_len]; exact h1.blk⟩
end
end Go.Proofs.Ytfgabafbcephaaa.My

namespace Go.Proofs.Ytfgabafbcephaaa.My
open Go.RowKit Pa Go.Proofs.YtfgabafbcephaaaW.PrintWords
set_option linter.unusedSimpArgs false
structure QS (w0 w : World) (F : Nat → Prop) (g : Nat) (bs : List Int) (L : List S36) : Prop where
  q : QL w F g bs L
  new : ∀ i, F i → w0.heap.size ≤ i ∧ i < w.heap.size
  bel : Below w0.heap.size w0 w
section
variable {w0 w w1 : World} {F S : Nat → Prop} {g : Nat} {bs : List Int} {L : List S36}
theorem QS.quiet (h : QS w0 w F g bs L) (hb : Below w.heap.size w w1) : QS w0 w1 F g bs L :=
  ⟨h.q.below hb, fun i hi => ⟨(h.new i hi).1, Nat.lt_of_lt_of_le (h.new i hi).2 hb.size⟩, h.bel.trans (hb.mono h.bel.size)⟩
theorem QS.chg (h : QS w0 w F g bs L) (hc : Chg S w w1) (hS : ∀ k, S k → ¬ F k ∧ w0.heap.size ≤ k) : QS w0 w1 F g bs L :=
  ⟨h.q.keep hc (fun i hi hs => (hS i hs).1 hi), fun i hi => ⟨(h.new i hi).1, Nat.lt_of_lt_of_le (h.new i hi).2 hc.size⟩, Chg.base h.bel hc h.bel.size (fun i hi => (hS i hi).2)⟩
end
end Go.Proofs.Ytfgabafbcephaaa.My

namespace Go.Proofs.Ytfgabafbcephaaa.My
open Go.RowKit Pa Go.Proofs.YtfgabafbcephaaaW.PrintWords
set_option linter.unusedSimpArgs false
theorem q_new : bmay [] = true ∧ bmay [2, 1] = false := by decide +kernel
theorem rdI_none (w : World) : RdI w none [] := ⟨rfl, by simp, fun h => absurd h (by simp)⟩
theorem own_zero {w : World} {base : Nat} {v : Value} {l : List Int} (h : Own w base v l) : Own w 0 v l := own_weaken h (Nat.zero_le _)
end Go.Proofs.Ytfgabafbcephaaa.My

namespace Go.Proofs.Ytfgabafbcephaaa.My
open Go.RowKit Pa Go.Proofs.YtfgabafbcephaaaW.PrintWords
set_option linter.unusedSimpArgs false

theorem copyI_any (l : List Int) (A : Option Addr) (c : Nat) (w : World) (hr : RdI w A l) (hc : l.length ≤ c) (hl : l.length ≤ 17592186044415) :
    Calls Try.prog 54 #[.slice A l.length c] w fun e w' => ∃ v, e = .returned v ∧ Own w' w.heap.size v l ∧ Below w.heap.size w w' :=
  (bournelaw0_CopyInts.calls A c l l w hr hc (by
    unfold bournelaw0_CopyInts.f
    rw [Option.bind_some, if_pos (by simp; omega)]
    rfl)).mono fun e w' ⟨v, he, ho, hb⟩ => ⟨v, he, own_of_r ho, hb⟩
def marks (l : List Int) : List Int := l ++ [-7777, -8888]
theorem marks_len (l : List Int) : (marks l).length = l.length + 2 := by simp [marks]
def Lent (w : World) (base b cap : Nat) (l : List Int) : Prop := Own w base (.slice (some ⟨b, 0, none⟩) (l.length + 2) cap) (marks l)
theorem Own.cap {w : World} {base b n cap : Nat} {l : List Int} (h : Own w base (.slice (some ⟨b, 0, none⟩) n cap) l) : l.length ≤ cap ∧ cap ≤ maxLen := by
  obtain ⟨A, c, e, _, _⟩ := h.reads
  injection e with e1 e2 e3
  subst e2
  exact row_cap h
theorem Lent.rd {w : World} {base b cap : Nat} {l : List Int} (h : Lent w base b cap l) : RdI w (some ⟨b, 0, none⟩) l ∧ l.length + 2 ≤ cap := by
  obtain ⟨A, c, e, hl, hr⟩ := Own.reads h
  injection e with e1 e2 e3
  subst e1 e3
  rw [marks_len] at hl
  refine ⟨⟨rfl, by have := hr.2.1; rw [marks_len] at this; omega, fun hp => ?_⟩, hl⟩
  obtain ⟨ad, e, hc⟩ := hr.2.2 (by rw [marks_len]; omega)
  refine ⟨ad, e, fun j p hj => hc j p ?_⟩
  have hjl := (List.getElem?_eq_some_iff.1 hj).1
  unfold marks
  rw [List.getElem?_append_left hjl]
  exact hj
set_option maxHeartbeats 4000000 in
set_option maxRecDepth 100000 in
theorem lendI_any (l : List Int) (A : Option Addr) (c : Nat) (w : World) (hr : RdI w A l) (hc : l.length ≤ c) (hl : l.length ≤ 17592186043904) :
    Calls Try.prog 28 #[.slice A l.length c] w fun e w' => ∃ b cap, e = .returned (.slice (some ⟨b, 0, none⟩) l.length cap) ∧ Lent w' w.heap.size b cap l ∧ Below w.heap.size w w' := by
  have HR := Lib.hid hr
  have HC := Lib.hid hc
  clear hr hc
  go_enter Try.func28, Try.ntmps28
  go_wp2_with fail
  refine (copyI_any l A c w HR.out HC.out (by omega)).mono ?_
  rintro e w1 ⟨v1, rfl, ho1, hb1⟩
  have HO1 := Lib.hid ho1
  have HB1 := Lib.hid hb1
  clear ho1 hb1
  go_wp2_with (at_builtin; refine at_append _ _ _ rfl ?_)
  unfold AtAppend
  refine wpList_plain rfl fun K hK => ?_
  show Oper.wp _ _ _ (w1.alloc (.cells #[.int .i64 (-7777), .int .i64 (-8888)] 3)) _ _
  have hal : Below w1.heap.size w1 (w1.alloc (.cells #[.int .i64 (-7777), .int .i64 (-8888)] 3)) := (Below.refl _ _).alloc (Nat.le_refl _) _
  have hbk := heap_alloc_new w1 (.cells #[.int .i64 (-7777), .int .i64 (-8888)] 3)
  have ho2 := Own.below HO1.out hal
  refine wp_append (.tmp 5) (.tmp 6) 22 3 (.int .i64 0) 1 8 w.heap.size rfl Try.underlying22 info_int rfl (by decide) v1 l.length 2 (l.map (Value.int .i64)) [.int .i64 (-7777), .int .i64 (-8888)] w1.heap.size 2 rfl rfl ho2 (Nat.le_trans HB1.out.size hal.size) rfl ?_ ?_ (by omega) (by omega) ?_
  · intro j u hu
    rw [blk_cell hbk]
    exact (List.getElem?_toArray).trans hu
  · intro u hu
    simp only [List.mem_cons, List.not_mem_nil, or_false] at hu
    rcases hu with rfl | rfl <;> rfl
  intro v2 w3 hown hgr hat
  refine hK _ _ ?_
  clear hK K
  have hown2 : Own w3 w.heap.size v2 (marks l) := by
    unfold Own
    rw [marks_len]
    unfold marks
    rw [List.map_append]
    exact hown
  have hb3 : Below w.heap.size w w3 := (HB1.out.trans (hal.mono HB1.out.size)).grown hgr (Nat.le_trans HB1.out.size hal.size) (fun b hb' => own_base ho2 b hb')
  obtain ⟨b, cap, rfl, _, _⟩ := hown.form (by omega)
  have hcap := (row_cap hown).1
  have HOWN := Lib.hid hown2
  have HB3 := Lib.hid hb3
  clear hown hown2 hb3 hgr hat ho2 hbk hal HO1 HB1
  simp only [Act.put, List.setIfInBounds_toArray, List.set_cons_succ, List.set_cons_zero]
  go_wp2_with fail
  go_ret
  exact ⟨b, cap, rfl, HOWN.out, HB3.out⟩
theorem ints_same (l : List Int) (A B : Option Addr) (c d : Nat) (w : World) (hA : RdI w A l) (hc : l.length ≤ c) (hB : RdI w B l) (hd : l.length ≤ d) (hl : l.length ≤ 17592186044415) :
    Calls Try.prog 27 #[.slice A l.length c, .slice B l.length d] w fun e w' => e = .returned (.bool true) ∧ Below w.heap.size w w' := ints_yes l A B c d w hA hc hB hd hl
set_option maxHeartbeats 4000000 in
set_option maxRecDepth 100000 in
theorem keptI_any (l : List Int) (base b cap : Nat) (B : Option Addr) (d : Nat) (w : World) (h : Lent w base b cap l) (hB : RdI w B l) (hd : l.length ≤ d) (hl : l.length ≤ 17592186043904) :
    Calls Try.prog 32 #[.slice (some ⟨b, 0, none⟩) l.length cap, .slice B l.length d] w fun e w' => e = .returned (.bool true) ∧ Below w.heap.size w w' := by
  have HL := Lib.hid h
  have HB := Lib.hid hB
  have HD := Lib.hid hd
  have hcp := h.rd.2
  clear h hB hd
  go_enter Try.func32, Try.ntmps32
  go_wp2_with fail
  refine (ints_same l (some ⟨b, 0, none⟩) B cap d w HL.out.rd.1 (by omega) HB.out HD.out (by omega)).mono ?_
  rintro e w1 ⟨rfl, hb⟩
  have hr1 : Own w1 base (.slice (some ⟨b, 0, none⟩) (l.length + 2) cap) (marks l) := Own.below HL.out hb
  obtain ⟨cur, hcur⟩ : ∃ cur, w1.heap[b]? = some (.cells cur 3 (0, 0)) := by
    have := hr1
    unfold Own at this
    rw [marks_len] at this
    exact row_blk this
  have hbl := blk_lt hcur
  obtain ⟨A', c', e', _, hrd⟩ := Own.reads hr1
  injection e' with e1 e2 e3
  subst e1
  have hg : ∀ j, j < l.length + 2 → w1.cell? ⟨b, j, none⟩ = some (.int .i64 ((marks l).getD j 0)) := fun j hj => by
    obtain ⟨ad, e, hc⟩ := RdI.at_ hrd (i := j) (by rw [marks_len]; exact hj)
    cases e
    rwa [add_plain] at hc
  have g0 := hg l.length (by omega)
  have g1 := hg (l.length + 1) (by omega)
  rw [show (marks l).getD l.length 0 = -7777 from by simp [marks, List.getD_eq_getElem?_getD]] at g0
  rw [show (marks l).getD (l.length + 1) 0 = -8888 from by simp [marks, List.getD_eq_getElem?_getD]] at g1
  have HX := Lib.hid hb
  clear hr1 hcur hb hg hrd e2 e3
  go_wp2_with fail
  go_ret
  exact ⟨rfl, HX.out⟩
theorem spoil_len : ∀ (l : List Int) (n k i : Nat), i + n = l.length → n < k → l.length ≤ 17592186044415 → ∃ r, bournelaw0_SpoilInts.l0 k l i = some r
  | l, 0, k, i, hi, hk, hl => by
    obtain ⟨k, rfl⟩ : ∃ m, k = m + 1 := ⟨k - 1, by omega⟩
    unfold bournelaw0_SpoilInts.l0
    rw [if_neg (by omega)]
    exact ⟨_, rfl⟩
  | l, n + 1, k, i, hi, hk, hl => by
    obtain ⟨k, rfl⟩ : ∃ m, k = m + 1 := ⟨k - 1, by omega⟩
    unfold bournelaw0_SpoilInts.l0
    rw [if_pos (by omega), if_pos (by omega), wrap_up (by omega)]
    exact spoil_len _ n k (i + 1) (by rw [List.length_set]; omega) (by omega) (by rw [List.length_set]; exact hl)
theorem spoilI_any (l : List Int) (v : Value) (w0 w : World) (hb : Below w0.heap.size w0 w) (ho : Own w w0.heap.size v l) (hl : l.length ≤ 17592186044415) :
    Calls Try.prog 18 #[v] w fun e w' => e = .returned (.tuple #[]) ∧ Below w0.heap.size w0 w' ∧ Kept w w' (fun k => some k = v.ownBlock) := by
  obtain ⟨r, hr⟩ := spoil_len l l.length (l.length + 1) 0 (by omega) (by omega) hl
  exact (bournelaw0_SpoilInts.calls (l.length + 1) (fun k => some k = v.ownBlock) v l r w0 w hb (Kd.R_of_own ho (fun k hk => hk.symm)) hr).mono fun e w' ⟨he, _, hb, hk⟩ => ⟨he, hb, hk⟩
end Go.Proofs.Ytfgabafbcephaaa.My

namespace Go.Proofs.Ytfgabafbcephaaa.My
open Go.RowKit Pa Go.Proofs.YtfgabafbcephaaaW.PrintWords
set_option linter.unusedSimpArgs false
theorem own_rebase {w : World} {base base' n size : Nat} {e : TypeId} {v : Value} {xs : List Value} (h : w.ownsRow base e size v n xs) (hb : ∀ k, v.ownBlock = some k → base' ≤ k) : w.ownsRow base' e size v n xs := by
  obtain ⟨h1, h2⟩ := h
  refine ⟨h1, ?_⟩
  rcases h2 with h2 | ⟨g, cap, cur, e1, _, hh⟩
  · exact .inl h2
  · exact .inr ⟨g, cap, cur, e1, hb g (by rw [e1]; rfl), hh⟩
theorem own_rd {w : World} {base n c : Nat} {A : Option Addr} {l : List Int} (h : Own w base (.slice A n c) l) : l.length ≤ c ∧ RdI w A l := by
  obtain ⟨A', c', e, h1, h2⟩ := h.reads
  injection e with e1 _ e3
  subst e1 e3
  exact ⟨h1, h2⟩
structure QP (w0 w : World) (F R : Nat → Prop) (g r : Nat) (bs : List Int) (L M : List S36) : Prop where
  q : QS w0 w F g bs L
  r : RL w R r bs M
  newR : ∀ i, R i → w0.heap.size ≤ i ∧ i < w.heap.size
  dis : ∀ i, F i → ¬ R i
section
variable {w0 w w1 : World} {F R S : Nat → Prop} {g r : Nat} {bs : List Int} {L M : List S36}
theorem QP.quiet (h : QP w0 w F R g r bs L M) (hb : Below w.heap.size w w1) : QP w0 w1 F R g r bs L M :=
  ⟨h.q.quiet hb, h.r.below hb, fun i hi => ⟨(h.newR i hi).1, Nat.lt_of_lt_of_le (h.newR i hi).2 hb.size⟩, h.dis⟩
theorem QP.chg (h : QP w0 w F R g r bs L M) (hc : Chg S w w1) (hS : ∀ k, S k → ¬ F k ∧ ¬ R k ∧ w0.heap.size ≤ k) : QP w0 w1 F R g r bs L M :=
  ⟨h.q.chg hc (fun k hk => ⟨(hS k hk).1, (hS k hk).2.2⟩), h.r.keep hc (fun i hi hs => (hS i hs).2.1 hi), fun i hi => ⟨(h.newR i hi).1, Nat.lt_of_lt_of_le (h.newR i hi).2 hc.size⟩, h.dis⟩
theorem chg_of_kept (h : Below w0.heap.size w0 w) (h1 : Below w0.heap.size w0 w1) (hk : Kept w w1 S) : Chg S w w1 :=
  ⟨h1.os.trans h.os.symm, h1.tape.trans h.tape.symm, h1.output.trans h.output.symm, hk.1, fun i hi hn => hk.2 i hi hn⟩
end
end Go.Proofs.Ytfgabafbcephaaa.My

namespace Go.Txt3
open Go.RowKit Go.Txt
open Go.Txt2 (Kx)

inductive Ck where
  | p
  | re
  | rl
  | m
  | c
  | e
  | a
  | r
  deriving DecidableEq

def stepF (S : Nat → Prop) (P : Program) (wb : World) (k : Ck) (s : Sem Next) (w : World) (F : Tr → World → Prop) : Prop :=
  match k with
  | .p => ∃ v, (∀ w1, s.run P w1 = .ok (.value v) w1) ∧ F (.put v) w
  | .re => Kx S wb wb w ∧ ∃ v, (∀ w1, Kx S wb wb w1 → s.run P w1 = .ok (.value v) w1) ∧ F (.put v) w
  | .rl => Kx S wb wb w ∧ ∃ v, (∀ w1, Bw w w1 → s.run P w1 = .ok (.value v) w1) ∧ F (.put v) w
  | .m => Kx S wb wb w ∧ ∃ (mk : Nat → Value) (obj : Obj), (∀ w1, s.run P w1 = .ok (.value (mk w1.heap.size)) (w1.alloc obj)) ∧ ∀ g w', Bw w w' → wb.heap.size ≤ g → w'.heap[g]? = some obj → F (.put (mk g)) w'
  | .c => Kx S wb wb w ∧ ∀ w1, Bw w w1 → outc P (s.run P w1) fun t w' => Bw w1 w' ∧ F t w'
  | .e => Kx S wb wb w ∧ ∀ w1, Bw w w1 → outc P (s.run P w1) fun t w' => Kx S wb w1 w' ∧ F t w'
  | .a => outc P (s.run P w) F
  | .r => ∃ v, s.run P w = .ok (.value v) w ∧ F (.put v) w

section
variable {S : Nat → Prop} {P : Program} {wb w : World} {k kj ki : Ck} {s sj si : Sem Next} {F G : Tr → World → Prop}

theorem stepF_mono (h : ∀ t w', (k = .c ∨ k = .a ∨ k = .e ∨ ∃ v, t = .put v) → F t w' → G t w') (hs : stepF S P wb k s w F) : stepF S P wb k s w G := by
  cases k with
  | p =>
    obtain ⟨v, h1, h2⟩ := hs
    exact ⟨v, h1, h _ _ (.inr (.inr (.inr ⟨v, rfl⟩))) h2⟩
  | re =>
    obtain ⟨h0, v, h1, h2⟩ := hs
    exact ⟨h0, v, h1, h _ _ (.inr (.inr (.inr ⟨v, rfl⟩))) h2⟩
  | rl =>
    obtain ⟨h0, v, h1, h2⟩ := hs
    exact ⟨h0, v, h1, h _ _ (.inr (.inr (.inr ⟨v, rfl⟩))) h2⟩
  | m =>
    obtain ⟨h0, mk, obj, h1, h2⟩ := hs
    exact ⟨h0, mk, obj, h1, fun g w' a1 a2 a3 => h _ _ (.inr (.inr (.inr ⟨_, rfl⟩))) (h2 g w' a1 a2 a3)⟩
  | c =>
    obtain ⟨h0, h1⟩ := hs
    exact ⟨h0, fun w1 hw => outc_mono (fun t w' hk => ⟨hk.1, h _ _ (.inl rfl) hk.2⟩) (h1 w1 hw)⟩
  | e =>
    obtain ⟨h0, h1⟩ := hs
    exact ⟨h0, fun w1 hw => outc_mono (fun t w' hk => ⟨hk.1, h _ _ (.inr (.inr (.inl rfl))) hk.2⟩) (h1 w1 hw)⟩
  | a => exact outc_mono (fun t w' hk => h _ _ (.inr (.inl rfl)) hk) hs
  | r =>
    obtain ⟨v, h1, h2⟩ := hs
    exact ⟨v, h1, h _ _ (.inr (.inr (.inr ⟨v, rfl⟩))) h2⟩

theorem stepF_some {φ : Prop} (hs : stepF S P wb k s w fun _ _ => φ) : φ := by
  cases k with
  | p => obtain ⟨v, h1, h2⟩ := hs; exact h2
  | re => obtain ⟨h0, v, h1, h2⟩ := hs; exact h2
  | rl => obtain ⟨h0, v, h1, h2⟩ := hs; exact h2
  | m =>
    obtain ⟨h0, mk, obj, h1, h2⟩ := hs
    exact h2 w.heap.size (w.alloc obj) (Bw.alloc w obj) h0.size (heap_alloc_new w obj)
  | c =>
    obtain ⟨h0, h1⟩ := hs
    exact outc_some (outc_mono (fun _ _ hk => hk.2) (h1 w (Bw.refl w)))
  | e =>
    obtain ⟨h0, h1⟩ := hs
    exact outc_some (outc_mono (fun _ _ hk => hk.2) (h1 w (Bw.refl w)))
  | a => exact outc_some hs
  | r => obtain ⟨v, h1, h2⟩ := hs; exact h2

def swapK (kj ki : Ck) : Bool :=
  match kj, ki with
  | .p, _ => true
  | _, .p => true
  | .re, .re => true
  | .re, .rl => true
  | .rl, .re => true
  | .rl, .rl => true
  | .re, .m => true
  | .rl, .m => true
  | .re, .c => true
  | .rl, .c => true
  | .m, .re => true
  | .c, .re => true
  | .m, .m => true
  | .e, .re => true
  | .e, .m => true
  | .re, .e => true
  | .c, .m => true
  | .r, .r => true
  | _, _ => false

theorem swap_p {H : Tr → Tr → World → Prop} (h : stepF S P wb .p sj w fun tj w1 => stepF S P wb ki si w1 fun ti w2 => H tj ti w2) : stepF S P wb ki si w fun ti w1 => stepF S P wb .p sj w1 fun tj w2 => H tj ti w2 := by
  obtain ⟨v, h1, h2⟩ := h
  exact stepF_mono (fun t w' _ hk => ⟨v, h1, hk⟩) h2

theorem swap_ip {H : Tr → Tr → World → Prop} (h : stepF S P wb kj sj w fun tj w1 => stepF S P wb .p si w1 fun ti w2 => H tj ti w2) : stepF S P wb .p si w fun ti w1 => stepF S P wb kj sj w1 fun tj w2 => H tj ti w2 := by
  obtain ⟨v, hv⟩ : ∃ v, ∀ w1, si.run P w1 = .ok (.value v) w1 := stepF_some (stepF_mono (fun t w' _ hk => by obtain ⟨v, h1, _⟩ := hk; exact ⟨v, h1⟩) h)
  refine ⟨v, hv, stepF_mono (fun t w' _ hk => ?_) h⟩
  obtain ⟨u, hu, hk⟩ := hk
  have := (value_inj ((hv w').symm.trans (hu w'))).1
  rw [this]
  exact hk

theorem swap_ire {H : Tr → Tr → World → Prop} (hw : Kx S wb wb w) (h : stepF S P wb kj sj w fun tj w1 => stepF S P wb .re si w1 fun ti w2 => H tj ti w2) : stepF S P wb .re si w fun ti w1 => stepF S P wb kj sj w1 fun tj w2 => H tj ti w2 := by
  obtain ⟨v, hv⟩ : ∃ v, ∀ w1, Kx S wb wb w1 → si.run P w1 = .ok (.value v) w1 := stepF_some (stepF_mono (fun t w' _ hk => by obtain ⟨_, v, h1, _⟩ := hk; exact ⟨v, h1⟩) h)
  refine ⟨hw, v, hv, stepF_mono (fun t w' _ hk => ?_) h⟩
  obtain ⟨h0, u, hu, hk⟩ := hk
  have := (value_inj ((hv wb (Kx.refl S wb wb)).symm.trans (hu wb (Kx.refl S wb wb)))).1
  rw [this]
  exact hk

theorem stepF_swap (hk : swapK kj ki = true) {H : Tr → Tr → World → Prop} (h : stepF S P wb kj sj w fun tj w1 => stepF S P wb ki si w1 fun ti w2 => H tj ti w2) : stepF S P wb ki si w fun ti w1 => stepF S P wb kj sj w1 fun tj w2 => H tj ti w2 := by
  cases ki with
  | p => exact swap_ip h
  | re =>
    cases kj with
    | p => exact swap_p h
    | re => exact swap_ire h.1 h
    | rl => exact swap_ire h.1 h
    | m => exact swap_ire h.1 h
    | c => exact swap_ire h.1 h
    | e => exact swap_ire h.1 h
    | a => exact absurd hk (by decide)
    | r => exact absurd hk (by decide)
  | rl =>
    cases kj with
    | p => exact swap_p h
    | re =>
      obtain ⟨h0, v, h1, _, u, h2, h3⟩ := h
      exact ⟨h0, u, h2, h0, v, h1, h3⟩
    | rl =>
      obtain ⟨h0, v, h1, _, u, h2, h3⟩ := h
      exact ⟨h0, u, h2, h0, v, h1, h3⟩
    | m => exact absurd hk (by decide)
    | c => exact absurd hk (by decide)
    | e => exact absurd hk (by decide)
    | a => exact absurd hk (by decide)
    | r => exact absurd hk (by decide)
  | m =>
    cases kj with
    | p => exact swap_p h
    | re =>
      obtain ⟨h0, v, h1, _, mk, obj, h2, h3⟩ := h
      exact ⟨h0, mk, obj, h2, fun g w' a1 a2 a3 => ⟨h0.then_ a1, v, h1, h3 g w' a1 a2 a3⟩⟩
    | rl =>
      obtain ⟨h0, v, h1, _, mk, obj, h2, h3⟩ := h
      exact ⟨h0, mk, obj, h2, fun g w' a1 a2 a3 => ⟨h0.then_ a1, v, fun w1 hb => h1 w1 (a1.trans hb), h3 g w' a1 a2 a3⟩⟩
    | m =>
      obtain ⟨h0, mkj, oj, h1, h2⟩ := h
      have hi := h2 w.heap.size (w.alloc oj) (Bw.alloc w oj) h0.size (heap_alloc_new w oj)
      obtain ⟨_, mki, oi, h3, _⟩ := hi
      refine ⟨h0, mki, oi, h3, fun gi wi a1 a2 a3 => ⟨h0.then_ a1, mkj, oj, h1, fun gj wj b1 b2 b3 => ?_⟩⟩
      obtain ⟨_, mki', oi', h3', h4⟩ := h2 gj wj (a1.trans b1) b2 b3
      have e := (h3 wb).symm.trans (h3' wb)
      obtain ⟨e1, e2⟩ := value_inj e
      have eo : oi = oi' := by
        have := congrArg (fun w : World => w.heap[wb.heap.size]?) e2
        simp only [heap_alloc_new] at this
        exact Option.some.inj this
      subst eo
      have em : ∀ n, n = wb.heap.size → mki n = mki' n := fun n hn => by rw [hn]; exact e1
      clear em
      have all : mki gi = mki' gi := by
        have hgi := (h3 ⟨Array.replicate gi (Obj.chan 0 #[] false 0 0 false), wb.tape, wb.drawn, wb.os, wb.output⟩).symm.trans (h3' ⟨Array.replicate gi (Obj.chan 0 #[] false 0 0 false), wb.tape, wb.drawn, wb.os, wb.output⟩)
        have := (value_inj hgi).1
        simpa using this
      rw [all]
      exact h4 gi wj (Bw.refl _) a2 (b1.obj a3)
    | c =>
      obtain ⟨h0, h1⟩ := h
      obtain ⟨mki, oi, h3⟩ : ∃ (mk : Nat → Value) (obj : Obj), ∀ w1, si.run P w1 = .ok (.value (mk w1.heap.size)) (w1.alloc obj) :=
        outc_some (outc_mono (fun _ _ hk => by obtain ⟨_, _, mk, obj, h3, _⟩ := hk; exact ⟨mk, obj, h3⟩) (h1 w (Bw.refl w)))
      refine ⟨h0, mki, oi, h3, fun gi wi a1 a2 a3 => ⟨h0.then_ a1, fun w1 b1 => outc_mono (fun t w' hk => ⟨hk.1, ?_⟩) (h1 w1 (a1.trans b1))⟩⟩
      obtain ⟨hk1, _, mki', oi', h3', h4⟩ := hk
      have all : ∀ n, mki n = mki' n := fun n => by
        have hgi := (h3 ⟨Array.replicate n (Obj.chan 0 #[] false 0 0 false), wb.tape, wb.drawn, wb.os, wb.output⟩).symm.trans (h3' ⟨Array.replicate n (Obj.chan 0 #[] false 0 0 false), wb.tape, wb.drawn, wb.os, wb.output⟩)
        have := (value_inj hgi).1
        simpa using this
      have eo : oi = oi' := by
        have := congrArg (fun w : World => w.heap[wb.heap.size]?) (value_inj ((h3 wb).symm.trans (h3' wb))).2
        simp only [heap_alloc_new] at this
        exact Option.some.inj this
      subst eo
      rw [all]
      exact h4 gi w' (Bw.refl _) a2 ((b1.trans hk1).obj a3)
    | e =>
      obtain ⟨h0, h1⟩ := h
      obtain ⟨mki, oi, h3⟩ : ∃ (mk : Nat → Value) (obj : Obj), ∀ w1, si.run P w1 = .ok (.value (mk w1.heap.size)) (w1.alloc obj) :=
        outc_some (outc_mono (fun _ _ hk => by obtain ⟨_, _, mk, obj, h3, _⟩ := hk; exact ⟨mk, obj, h3⟩) (h1 w (Bw.refl w)))
      refine ⟨h0, mki, oi, h3, fun gi wi a1 a2 a3 => ⟨h0.then_ a1, fun w1 b1 => outc_mono (fun t w' hk => ⟨hk.1, ?_⟩) (h1 w1 (a1.trans b1))⟩⟩
      obtain ⟨hk1, _, mki', oi', h3', h4⟩ := hk
      have all : ∀ n, mki n = mki' n := fun n => by
        have hgi := (h3 ⟨Array.replicate n (Obj.chan 0 #[] false 0 0 false), wb.tape, wb.drawn, wb.os, wb.output⟩).symm.trans (h3' ⟨Array.replicate n (Obj.chan 0 #[] false 0 0 false), wb.tape, wb.drawn, wb.os, wb.output⟩)
        have := (value_inj hgi).1
        simpa using this
      have eo : oi = oi' := by
        have := congrArg (fun w : World => w.heap[wb.heap.size]?) (value_inj ((h3 wb).symm.trans (h3' wb))).2
        simp only [heap_alloc_new] at this
        exact Option.some.inj this
      subst eo
      rw [all]
      exact h4 gi w' (Bw.refl _) a2 (hk1.obj (b1.obj a3) a2)
    | a => exact absurd hk (by decide)
    | r => exact absurd hk (by decide)
  | c =>
    cases kj with
    | p => exact swap_p h
    | re =>
      obtain ⟨h0, v, h1, _, h2⟩ := h
      exact ⟨h0, fun w1 hw => outc_mono (fun t w' hk => ⟨hk.1, (h0.then_ hw).then_ hk.1, v, h1, hk.2⟩) (h2 w1 hw)⟩
    | rl =>
      obtain ⟨h0, v, h1, _, h2⟩ := h
      exact ⟨h0, fun w1 hw => outc_mono (fun t w' hk => ⟨hk.1, (h0.then_ hw).then_ hk.1, v, fun w2 hb => h1 w2 ((hw.trans hk.1).trans hb), hk.2⟩) (h2 w1 hw)⟩
    | m => exact absurd hk (by decide)
    | c => exact absurd hk (by decide)
    | e => exact absurd hk (by decide)
    | a => exact absurd hk (by decide)
    | r => exact absurd hk (by decide)
  | e =>
    cases kj with
    | p => exact swap_p h
    | re =>
      obtain ⟨h0, v, h1, _, h2⟩ := h
      exact ⟨h0, fun w1 hw => outc_mono (fun t w' hk => ⟨hk.1, (h0.then_ hw).trans hk.1, v, h1, hk.2⟩) (h2 w1 hw)⟩
    | rl => exact absurd hk (by decide)
    | m => exact absurd hk (by decide)
    | c => exact absurd hk (by decide)
    | e => exact absurd hk (by decide)
    | a => exact absurd hk (by decide)
    | r => exact absurd hk (by decide)
  | a =>
    cases kj with
    | p => exact swap_p h
    | re => exact absurd hk (by decide)
    | rl => exact absurd hk (by decide)
    | m => exact absurd hk (by decide)
    | c => exact absurd hk (by decide)
    | e => exact absurd hk (by decide)
    | a => exact absurd hk (by decide)
    | r => exact absurd hk (by decide)
  | r =>
    cases kj with
    | p => exact swap_p h
    | r =>
      obtain ⟨v, h1, u, h2, h3⟩ := h
      exact ⟨u, h2, v, h1, h3⟩
    | re => exact absurd hk (by decide)
    | rl => exact absurd hk (by decide)
    | m => exact absurd hk (by decide)
    | c => exact absurd hk (by decide)
    | e => exact absurd hk (by decide)
    | a => exact absurd hk (by decide)

theorem outc_of_stepF (hs : stepF S P wb k s w F) : outc P (s.run P w) F := by
  cases k with
  | p => obtain ⟨v, h1, h2⟩ := hs; rw [h1]; exact h2
  | re => obtain ⟨h0, v, h1, h2⟩ := hs; rw [h1 w h0]; exact h2
  | rl => obtain ⟨h0, v, h1, h2⟩ := hs; rw [h1 w (Bw.refl w)]; exact h2
  | m =>
    obtain ⟨h0, mk, obj, h1, h2⟩ := hs
    rw [h1]
    exact h2 _ _ (Bw.alloc w obj) h0.size (heap_alloc_new w obj)
  | c =>
    obtain ⟨h0, h1⟩ := hs
    exact outc_mono (fun _ _ hk => hk.2) (h1 w (Bw.refl w))
  | e =>
    obtain ⟨h0, h1⟩ := hs
    exact outc_mono (fun _ _ hk => hk.2) (h1 w (Bw.refl w))
  | a => exact hs
  | r => obtain ⟨v, h1, h2⟩ := hs; rw [h1]; exact h2
end

section
variable {V : List (Nat × Ck)} {S : Nat → Prop} {P : Program} {ops : Array Oper} {wb : World}

def stepM (S : Nat → Prop) (P : Program) (ops : Array Oper) (wb : World) (k : Ck) (o : Oper) (K : Act → World → Prop) (a : Act) (w : World) : Prop :=
  if Region.wanted o (yielded ops a.tmps) then stepF S P wb k (execOp a.eval o) w fun t w' => K (t.on o.dst a) w' else K ((Tr.put undef).on o.dst a) w

theorem stepM_mono {k : Ck} {o : Oper} {K K' : Act → World → Prop} {a : Act} {w : World} (h : ∀ a w, K a w → K' a w) (hs : stepM S P ops wb k o K a w) : stepM S P ops wb k o K' a w := by
  unfold stepM at *
  split
  · rename_i hw
    rw [if_pos hw] at hs
    exact stepF_mono (fun _ _ _ he => h _ _ he) hs
  · rename_i hw
    rw [if_neg hw] at hs
    exact h _ _ hs

theorem swapK_put {kj ki : Ck} (h : swapK kj ki = true) : (kj ≠ .c ∧ kj ≠ .a ∧ kj ≠ .e) ∨ (ki ≠ .c ∧ ki ≠ .a ∧ ki ≠ .e) := by
  cases kj <;> cases ki <;> first | exact absurd h (by decide) | (left; refine ⟨?_, ?_, ?_⟩ <;> (intro hh; cases hh); done) | (right; refine ⟨?_, ?_, ?_⟩ <;> (intro hh; cases hh); done)

theorem stepM_swap {kj ki : Ck} {oi oj : Oper} (hap : oj.apart ops oi = true) (hsi : ∀ cs b, oi.op ≠ .select cs b) (hsj : ∀ cs b, oj.op ≠ .select cs b) (hk : swapK kj ki = true) {K : Act → World → Prop} {a : Act} {w : World}
    (h : stepM S P ops wb kj oj (stepM S P ops wb ki oi K) a w) : stepM S P ops wb ki oi (stepM S P ops wb kj oj K) a w := by
  obtain ⟨h1, h2, h3⟩ := Oper.apart_spec hap
  have ej : ∀ (t : Tr), execOp (t.on oi.dst a).eval oj = execOp a.eval oj := fun t => exec_on t _ _ oj hsj h3
  have wj : ∀ (t : Tr), Region.wanted oj (yielded ops (t.on oi.dst a).tmps) = Region.wanted oj (yielded ops a.tmps) := fun t => wanted_on t _ _ oj h3
  have ei : ∀ (t : Tr), execOp (t.on oj.dst a).eval oi = execOp a.eval oi := fun t => exec_on t _ _ oi hsi h1
  have wi : ∀ (t : Tr), Region.wanted oi (yielded ops (t.on oj.dst a).tmps) = Region.wanted oi (yielded ops a.tmps) := fun t => wanted_on t _ _ oi h1
  have cm : ∀ (ti tj : Tr), ((∃ v, ti = .put v) ∨ ∃ v, tj = .put v) → ti.on oi.dst (tj.on oj.dst a) = tj.on oj.dst (ti.on oi.dst a) := fun ti tj hh => on_comm hh _ _ a (fun d e1 e2 => h2 d e2 e1)
  unfold stepM at h ⊢
  by_cases wa : Region.wanted oj (yielded ops a.tmps) = true
  · by_cases wb' : Region.wanted oi (yielded ops a.tmps) = true
    · rw [if_pos wa] at h
      rw [if_pos wb']
      simp only [wi, if_pos wb', ei] at h
      simp only [wj, if_pos wa, ej]
      have hs := stepF_swap hk (H := fun tj ti w2 => K (ti.on oi.dst (tj.on oj.dst a)) w2) h
      refine stepF_mono (fun ti w1 hti hk1 => stepF_mono (fun tj w2 htj hk2 => ?_) hk1) hs
      rw [← cm ti tj ?_]
      · exact hk2
      · rcases swapK_put hk with ⟨n1, n2, n3⟩ | ⟨n1, n2, n3⟩
        · exact .inr (((htj.resolve_left n1).resolve_left n2).resolve_left n3)
        · exact .inl (((hti.resolve_left n1).resolve_left n2).resolve_left n3)
    · rw [if_pos wa] at h
      rw [if_neg wb']
      simp only [wi, if_neg wb'] at h
      simp only [wj, if_pos wa, ej]
      refine stepF_mono (fun tj w2 htj hk2 => ?_) h
      rw [← cm (.put undef) tj (.inl ⟨_, rfl⟩)]
      exact hk2
  · rw [if_neg wa] at h
    simp only [wi, ei] at h
    simp only [wj, if_neg wa]
    by_cases wb' : Region.wanted oi (yielded ops a.tmps) = true
    · rw [if_pos wb'] at h ⊢
      refine stepF_mono (fun ti w2 hti hk2 => ?_) h
      rw [← cm ti (.put undef) (.inr ⟨_, rfl⟩)]
      exact hk2
    · rw [if_neg wb'] at h ⊢
      rw [← cm (.put undef) (.put undef) (.inr ⟨_, rfl⟩)]
      exact h

theorem wpOp_of_stepM {i : Nat} {k : Ck} {o : Oper} (hi : ops[i]? = some o) {K : Act → World → Prop} {Q : Exit → Act → World → Prop} {a : Act} {w : World} (hs : stepM S P ops wb k o K a w) : wpOp P ops Q i K a w := by
  unfold stepM at hs
  unfold wpOp
  simp only [hi]
  split
  · rename_i hw
    rw [if_pos hw] at hs
    exact .inl (wp_of_outc (outc_of_stepF hs))
  · rename_i hw
    rw [if_neg hw] at hs
    exact hs

def kop : Op → Ck
  | .move _ => .p
  | .assign _ => .p
  | .pick .. => .p
  | .nilCheck _ => .p
  | .binOp .. => .p
  | .unOp .. => .p
  | .convert .. => .p
  | .fieldAddr .. => .p
  | .field .. => .p
  | .indexAddr .. => .p
  | .index .. => .p
  | .extract .. => .p
  | .slice .. => .p
  | .build .. => .p
  | .makeFunc .. => .p
  | .load .. => .re
  | .alloc _ => .m
  | .box .. => .m
  | .buildSlice .. => .m
  | .makeSlice .. => .m
  | .call c => match c.callee with
    | .builtin .len => .p
    | .builtin .append => .e
    | .builtin .cap => .p
    | .builtin .max => .p
    | .builtin .min => .p
    | .value _ => .c
    | _ => .a
  | _ => .a

def dat (ops : Array Oper) : Nat → Nat → Bool
  | 0, _ => true
  | n + 1, i => match ops[i]? with
    | some o => o.after.toList.any fun e => decide (e.ground = .data) && ((match ops[e.on]? with | some oj => decide (kop oj.op = .m) || decide (kop oj.op = .c) || decide (kop oj.op = .e) | none => false) || dat ops n e.on)
    | none => false

def kat (ops : Array Oper) (B : Array Nat) (i : Nat) (o : Oper) : Ck :=
  match kop o.op with
  | .p => .p
  | .a => .a
  | k => if (List.range i).any (fun j => match ops[j]? with | some oj => decide (kop oj.op = .a) | none => false) then .a
    else match k with
      | .re => if (List.range i).any (fun j => (B.getD i 0).testBit j && match ops[j]? with | some oj => decide (kop oj.op = .m) || decide (kop oj.op = .c) || decide (kop oj.op = .e) | none => false) && dat ops (i + 1) i then .rl else .re
      | k => k
def katV (V : List (Nat × Ck)) (ops : Array Oper) (B : Array Nat) (i : Nat) (o : Oper) : Ck :=
  match V.lookup i with
  | some k => k
  | none => kat ops B i o

def runM (V : List (Nat × Ck)) (S : Nat → Prop) (P : Program) (ops : Array Oper) (wb : World) (B : Array Nat) (Q : Act → World → Prop) : List Nat → Act → World → Prop
  | [], a, w => Q a w
  | i :: r, a, w => match ops[i]? with
    | some o => stepM S P ops wb (katV V ops B i o) o (runM V S P ops wb B Q r) a w
    | none => runM V S P ops wb B Q r a w

def orderedOrSwapsM (V : List (Nat × Ck)) (ops : Array Oper) (B : Array Nat) (j i : Nat) : Bool :=
  (B.getD i 0).testBit j || match ops[j]?, ops[i]? with
    | some oj, some oi => oj.apart ops oi && swapK (katV V ops B j oj) (katV V ops B i oi)
    | _, _ => false

def mixB (V : List (Nat × Ck)) (ops : Array Oper) (B : Array Nat) : Bool :=
  Region.noSelect ops && (List.range ops.size).all fun i =>
    (match ops[i]? with
      | some o => o.after.toList.all (fun e => !Region.binds .any e || decide (e.on < i)) && ((B.getD i 0 ||| upOf B o) == upOf B o)
      | none => true) && (List.range i).all fun j => orderedOrSwapsM V ops B j i

theorem mixB_row {B : Array Nat} (h : mixB V ops B = true) {i : Nat} {o : Oper} (hi : ops[i]? = some o) :
    (∀ e ∈ o.after, Region.binds .any e = true → e.on < i) ∧ (∀ j, (B.getD i 0).testBit j = true → ∃ e ∈ o.after, Region.binds .any e = true ∧ (e.on = j ∨ (B.getD e.on 0).testBit j = true)) ∧ ∀ j, j < i → orderedOrSwapsM V ops B j i = true := by
  have hlt : i < ops.size := (Array.getElem?_eq_some_iff.1 hi).1
  simp only [mixB, Bool.and_eq_true, List.all_eq_true, List.mem_range] at h
  have h1 := h.2 i hlt
  rw [hi] at h1
  simp only [Bool.and_eq_true, List.all_eq_true, Bool.or_eq_true, Bool.not_eq_true', decide_eq_true_eq, beq_iff_eq] at h1
  obtain ⟨⟨h2, h3⟩, h4⟩ := h1
  refine ⟨fun e he hb => ?_, fun j hj => ?_, h4⟩
  · rcases h2 e (by simpa using he) with h | h
    · rw [hb] at h; cases h
    · exact h
  · refine upOf_bit ?_
    rw [← h3, Nat.testBit_or, hj, Bool.true_or]

theorem bits_listedM {B : Array Nat} (hB : mixB V ops B = true) {listed : Array Bool} (hs : Txt.Shut ops listed) : ∀ (m i : Nat), i ≤ m → ∀ o, ops[i]? = some o → (∀ e ∈ o.after, Region.binds .any e = true → listed.getD e.on false = true) →
    ∀ j, (B.getD i 0).testBit j = true → listed.getD j false = true := by
  intro m
  induction m with
  | zero =>
    intro i hi o ho hd j hj
    obtain ⟨h1, h2, _⟩ := mixB_row hB ho
    obtain ⟨e, he, hb, _⟩ := h2 j hj
    have := h1 e he hb
    omega
  | succ m ih =>
    intro i hi o ho hd j hj
    obtain ⟨h1, h2, _⟩ := mixB_row hB ho
    obtain ⟨e, he, hb, hj⟩ := h2 j hj
    have hlt := h1 e he hb
    have hl := hd e he hb
    rcases hj with rfl | hj
    · exact hl
    · have hsz : i < ops.size := (Array.getElem?_eq_some_iff.1 ho).1
      have hoe : ops[e.on]? = some ops[e.on] := Array.getElem?_eq_getElem (by omega)
      exact ih e.on (by omega) _ hoe (fun e' he' hb' => hs _ _ hoe hl e' he' hb') j hj

theorem runM_front {B : Array Nat} {Q : Act → World → Prop} {i : Nat} {oi : Oper} (hi : ops[i]? = some oi) (hsel : ∀ (j : Nat) (o : Oper) cs b, ops[j]? = some o → o.op ≠ .select cs b) :
    ∀ (l1 l2 : List Nat) (a : Act) (w : World),
      (∀ j ∈ l1, ∃ oj, ops[j]? = some oj ∧ oj.apart ops oi = true ∧ swapK (katV V ops B j oj) (katV V ops B i oi) = true) →
      runM V S P ops wb B Q (l1 ++ i :: l2) a w → stepM S P ops wb (katV V ops B i oi) oi (runM V S P ops wb B Q (l1 ++ l2)) a w := by
  intro l1
  induction l1 with
  | nil =>
    intro l2 a w _ h
    simp only [List.nil_append, runM, hi] at h
    exact h
  | cons j r ih =>
    intro l2 a w hl h
    obtain ⟨oj, hj, hap, hc⟩ := hl j List.mem_cons_self
    simp only [List.cons_append, runM, hj] at h
    have h' : stepM S P ops wb (katV V ops B j oj) oj (stepM S P ops wb (katV V ops B i oi) oi (runM V S P ops wb B Q (r ++ l2))) a w := stepM_mono (fun b w' hb => ih l2 b w' (fun k hk => hl k (List.mem_cons_of_mem _ hk)) hb) h
    have h'' := stepM_swap hap (fun cs b => hsel i oi cs b hi) (fun cs b => hsel j oj cs b hj) hc h'
    refine stepM_mono (fun b w' hb => ?_) h''
    simp only [List.cons_append, runM, hj]
    exact hb

theorem wpAny_of_runM {B : Array Nat} (hB : mixB V ops B = true) {Q : Exit → Act → World → Prop} : ∀ (fuel : Nat) (listed : Array Bool) (a : Act) (w : World), listed.size = ops.size → Txt.Shut ops listed → (rest ops.size listed).length = fuel →
    runM V S P ops wb B (fun a w => Q .normal a w) (rest ops.size listed) a w → wpAny P .any ops Q fuel listed a w := by
  have hsel := Region.noSelect_spec (by simp only [mixB, Bool.and_eq_true] at hB; exact hB.1)
  intro fuel
  induction fuel with
  | zero =>
    intro listed a w hn hs hl h
    have hnil := List.eq_nil_of_length_eq_zero hl
    rw [hnil] at h
    refine ⟨?_, h⟩
    refine List.eq_nil_iff_forall_not_mem.2 fun i hi => ?_
    obtain ⟨h0, o, ho, _⟩ := mem_ready.1 hi
    have hlt : i < ops.size := (Array.getElem?_eq_some_iff.1 ho).1
    have : i ∈ rest ops.size listed := by
      unfold rest
      rw [List.mem_filter, List.mem_range]
      exact ⟨hlt, by rw [h0]; rfl⟩
    rw [hnil] at this
    cases this
  | succ fuel ih =>
    intro listed a w hn hs hl h
    refine ⟨fun hr => ?_, fun i hi => ?_⟩
    · exfalso
      cases hrest : rest ops.size listed with
      | nil => rw [hrest] at hl; simp at hl
      | cons x r =>
        have hx : x ∈ rest ops.size listed := by rw [hrest]; exact List.mem_cons_self
        have hex : ∀ k, (∃ i, i ≤ k ∧ i ∈ rest ops.size listed) → ∃ i, i ∈ rest ops.size listed ∧ ∀ j, j < i → j ∉ rest ops.size listed := by
          intro k
          induction k with
          | zero =>
            rintro ⟨i, h1, h2⟩
            exact ⟨i, h2, fun j hj => by omega⟩
          | succ k ihk =>
            rintro ⟨i, h1, h2⟩
            by_cases hlow : ∃ j, j ≤ k ∧ j ∈ rest ops.size listed
            · exact ihk hlow
            · exact ⟨i, h2, fun j hj hm => hlow ⟨j, by omega, hm⟩⟩
        obtain ⟨i, him, hmin⟩ := hex x ⟨x, Nat.le_refl _, hx⟩
        have him' := him
        unfold rest at him'
        rw [List.mem_filter, List.mem_range] at him'
        have ho : ops[i]? = some ops[i] := Array.getElem?_eq_getElem him'.1
        have : i ∈ Region.ready .any ops listed := by
          refine mem_ready.2 ⟨by simpa using him'.2, _, ho, fun e he hb => ?_⟩
          have hlt := (mixB_row hB ho).1 e he hb
          have hno := hmin e.on hlt
          unfold rest at hno
          rw [List.mem_filter, List.mem_range] at hno
          have hsz : e.on < listed.size := by omega
          have e1 : listed.getD e.on true = listed.getD e.on false := by simp [hsz]
          cases hb2 : listed.getD e.on false with
          | true => rfl
          | false =>
            rw [hb2] at e1
            exact absurd ⟨by omega, by rw [e1]; rfl⟩ hno
        rw [hr] at this
        cases this
    · obtain ⟨h0, oi, ho, hd⟩ := mem_ready.1 hi
      have hlt : i < ops.size := (Array.getElem?_eq_some_iff.1 ho).1
      obtain ⟨l1, l2, e1, e2, hl1⟩ := rest_split hn hlt h0
      rw [e1] at h
      have hfront := runM_front ho hsel l1 l2 a w (fun j hj => by
        obtain ⟨hji, hju⟩ := hl1 j hj
        have hsw := (mixB_row hB ho).2.2 j hji
        have hoj : ops[j]? = some ops[j] := Array.getElem?_eq_getElem (by omega)
        unfold orderedOrSwapsM at hsw
        rw [Bool.or_eq_true] at hsw
        rcases hsw with hsw | hsw
        · have := bits_listedM hB hs i i (Nat.le_refl _) oi ho hd j hsw
          have hsz : j < listed.size := by omega
          have e3 : listed.getD j true = listed.getD j false := by simp [hsz]
          rw [hju, this] at e3
          cases e3
        · rw [hoj, ho] at hsw
          simp only [Bool.and_eq_true] at hsw
          exact ⟨_, hoj, hsw.1, hsw.2⟩) h
      refine wpOp_of_stepM ho (stepM_mono (fun b w' hb => ih _ b w' (by simpa using hn) ?_ ?_ (by rw [e2]; exact hb)) hfront)
      · intro k o hk hkl e he hb
        rw [getD_set _ _ _ _ (by omega)] at hkl
        by_cases hik : i = k
        · subst hik
          rw [ho] at hk
          injection hk with hk
          subst hk
          exact getD_set_true (hd e he hb)
        · rw [if_neg hik] at hkl
          exact getD_set_true (hs k o hk hkl e he hb)
      · rw [e2]
        rw [e1] at hl
        simp only [List.length_append, List.length_cons] at hl ⊢
        omega

def mixD (V : List (Nat × Ck)) (S : Nat → Prop) (P : Program) (ops : Array Oper) (wb : World) (B : Array Nat) (Q : Act → World → Prop) : Nat → List Oper → Act → World → Prop
  | _, [], a, w => Q a w
  | i, o :: r, a, w => stepM S P ops wb (katV V ops B i o) o (mixD V S P ops wb B Q (i + 1) r) a w

theorem runM_of_mix {B : Array Nat} {Q : Act → World → Prop} (l : List Oper) : ∀ k, (∀ j, l[j]? = ops[k + j]?) → ∀ a w, mixD V S P ops wb B Q k l a w → runM V S P ops wb B Q (List.range' k l.length) a w := by
  induction l with
  | nil => intro k _ a w h; exact h
  | cons o l ih =>
    intro k h a w hw
    have h0 : ops[k]? = some o := by simpa using (h 0).symm
    simp only [List.length_cons, List.range'_succ, runM, h0]
    exact stepM_mono (fun b w' hb => ih (k + 1) (fun j => by have := h (j + 1); simpa [Nat.add_assoc, Nat.add_comm 1 j] using this) b w' hb) hw

structure wpMix (V : List (Nat × Ck)) (S : Nat → Prop) (P : Program) (ops : Array Oper) (wb : World) (Q : Act → World → Prop) (i : Nat) (l : List Oper) (a : Act) (w : World) : Prop where
  mk :: (out : mixD V S P ops wb (Region.before ops) Q i l a w)

theorem wp_region_mix {id : Nat} {Q : Exit → Act → World → Prop} {a : Act} {w : World} {l : List Oper} (hm : P.follows .mixedOrders = true) (hB : mixB V l.toArray (Region.before l.toArray) = true)
    (h : Kx S w.drew w.drew w.drew → wpMix V S P l.toArray w.drew (fun a w => Q .normal a w) 0 l a w.drew) : (Code.region id l.toArray true).wp P Q a w := by
  refine wp_region_any hm ?_
  have h1 := runM_of_mix (ops := l.toArray) l 0 (by simp) a _ (h (Kx.refl _ _ _)).out
  refine wpAny_of_runM (V := V) (S := S) (wb := w.drew) hB _ _ _ _ (by simp) ?_ ?_ ?_
  · intro k o hk hl
    by_cases hlt : k < l.length
    · simp [hlt] at hl
    · simp [hlt] at hl
  · rw [rest_none]; simp
  · rw [rest_none]
    rw [List.range_eq_range']
    simpa using h1

variable {Q : Act → World → Prop} {r : List Oper} {o : Oper} {a : Act} {w : World} {i : Nat}

theorem mix_nil (h : Q a w) : wpMix V S P ops wb Q i [] a w := ⟨h⟩

theorem mix_pass {ts : List Value} {ds : List Deferred} {d : Nat} (hd : o.dst = some d) (hw : Region.wanted o (yielded ops ts.toArray) = false) (h : wpMix V S P ops wb Q (i + 1) r ⟨(ts.set d undef).toArray, ds⟩ w) : wpMix V S P ops wb Q i (o :: r) ⟨ts.toArray, ds⟩ w := by
  refine ⟨?_⟩
  show stepM S P ops wb (katV V ops _ i o) o (mixD V S P ops wb _ Q (i + 1) r) _ w
  unfold stepM
  rw [hw, hd]
  have := h.out
  simpa [Act.put, Tr.on] using this

theorem mix_p (hw : Region.wanted o (yielded ops a.tmps) = true) (hc : cl o.op = .p) (hk : katV V ops (Region.before ops) i o = .p) (h : ∀ K : Act → Prop, (∀ a', wpMix V S P ops wb Q (i + 1) r a' w → K a') → o.quiet P a (fun _ => True) K) : wpMix V S P ops wb Q i (o :: r) a w := by
  obtain ⟨v, h1, h2⟩ := h (fun a' => wpMix V S P ops wb Q (i + 1) r a' w) (fun _ h => h)
  refine ⟨?_⟩
  show stepM S P ops wb (katV V ops _ i o) o (mixD V S P ops wb _ Q (i + 1) r) a w
  unfold stepM
  rw [if_pos hw, hk]
  refine ⟨v, fun w' => ?_, h2.out⟩
  have h3 := h1 w' trivial
  unfold Oper.quietAt at h3
  cases hr : (execOp a.eval o).run P w' with
  | halt x w1 => rw [hr] at h3; exact h3.elim
  | ok n w1 =>
    obtain ⟨u, rfl⟩ := value_of_cl (by rw [hc]; decide) hr
    rw [hr] at h3
    obtain ⟨e1, e2⟩ := h3
    rw [e1, e2]

theorem load_keeps {wr w1 : World} {t : TypeId} {x : Operand} {ad : Addr} {v : Value} (ho : o.op = .load t x) (hx : a.eval x = .pointer (some ad)) (hc : (wr.cell? ad).isSome = true) (hr : (execOp a.eval o).run P wr = .ok (.value v) wr) (hb : ad.block < wr.heap.size → w1.heap[ad.block]? = wr.heap[ad.block]?) : (execOp a.eval o).run P w1 = .ok (.value v) w1 := by
  obtain ⟨u, hu⟩ := Option.isSome_iff_exists.1 hc
  have hlt := World.block_lt_of_cell? wr ad hu
  have hcells : ∃ cs t fr, wr.heap[ad.block]? = some (.cells cs t fr) := by
    unfold World.cell? at hu
    split at hu
    · rename_i c e f hh
      exact ⟨_, _, _, hh⟩
    · cases hu
  have hs : execOp a.eval o = (do let y ← Go.loadVar t ad; pure (Next.value y) : Sem Next) := by
    obtain ⟨dst, op, type, pos, after, guard⟩ := o
    simp only at ho
    subst ho
    simp only [execOp, hx]
    rfl
  rw [hs] at hr ⊢
  exact near_bind (near_var t ad).1 (near_var t ad).2 (fun y => near_pure _) P wr w1 wr _ (hb hlt) hcells hr
theorem mix_re {t : TypeId} {x : Operand} {ad : Addr} (hw : Region.wanted o (yielded ops a.tmps) = true) (hk : katV V ops (Region.before ops) i o = .re ∨ katV V ops (Region.before ops) i o = .rl) (ho : o.op = .load t x) (hx : a.eval x = .pointer (some ad)) (hc : (wb.cell? ad).isSome = true) (hn : ¬ S ad.block) (hB : Kx S wb wb w)
    (h : ∀ K : Act → Prop, (∀ a', wpMix V S P ops wb Q (i + 1) r a' w → K a') → o.quiet P a (fun w' => w' = wb) K) : wpMix V S P ops wb Q i (o :: r) a w := by
  obtain ⟨v, h1, h2⟩ := quiet_run (C := fun w' => w' = wb) (wr := wb) (by rw [ho]; exact fun hh => by cases hh) rfl (h (fun a' => wpMix V S P ops wb Q (i + 1) r a' w) (fun _ h => h))
  refine ⟨?_⟩
  show stepM S P ops wb (katV V ops _ i o) o (mixD V S P ops wb _ Q (i + 1) r) a w
  unfold stepM
  rw [if_pos hw]
  rcases hk with hk | hk
  · rw [hk]
    exact ⟨hB, v, fun w1 hb => load_keeps ho hx hc h1 (fun hl => hb.block _ hl (fun hh => hn hh.1)), h2.out⟩
  · rw [hk]
    exact ⟨hB, v, fun w1 hb => load_keeps ho hx hc h1 (fun hl => (hB.then_ hb).block _ hl (fun hh => hn hh.1)), h2.out⟩

theorem mix_rl {t : TypeId} {x : Operand} {ad : Addr} (hw : Region.wanted o (yielded ops a.tmps) = true) (hk : katV V ops (Region.before ops) i o = .rl) (ho : o.op = .load t x) (hx : a.eval x = .pointer (some ad)) (hc : (w.cell? ad).isSome = true) (hB : Kx S wb wb w)
    (h : ∀ K : Act → Prop, (∀ a', wpMix V S P ops wb Q (i + 1) r a' w → K a') → o.quiet P a (fun w' => w' = w) K) : wpMix V S P ops wb Q i (o :: r) a w := by
  obtain ⟨v, h1, h2⟩ := quiet_run (C := fun w' => w' = w) (wr := w) (by rw [ho]; exact fun hh => by cases hh) rfl (h (fun a' => wpMix V S P ops wb Q (i + 1) r a' w) (fun _ h => h))
  refine ⟨?_⟩
  show stepM S P ops wb (katV V ops _ i o) o (mixD V S P ops wb _ Q (i + 1) r) a w
  unfold stepM
  rw [if_pos hw, hk]
  exact ⟨hB, v, fun w1 hb => load_sure ho hx hc h1 hb, h2.out⟩

theorem mix_r (hw : Region.wanted o (yielded ops a.tmps) = true) (hc : cl o.op ≠ .a) (hk : katV V ops (Region.before ops) i o = .r)
    (h : ∀ K : Act → Prop, (∀ a', wpMix V S P ops wb Q (i + 1) r a' w → K a') → o.quiet P a (fun w' => w' = w) K) : wpMix V S P ops wb Q i (o :: r) a w := by
  obtain ⟨v, h1, h2⟩ := quiet_run (C := fun w' => w' = w) (wr := w) hc rfl (h (fun a' => wpMix V S P ops wb Q (i + 1) r a' w) (fun _ h => h))
  refine ⟨?_⟩
  show stepM S P ops wb (katV V ops _ i o) o (mixD V S P ops wb _ Q (i + 1) r) a w
  unfold stepM
  rw [if_pos hw, hk]
  exact ⟨v, h1, h2.out⟩

theorem mix_m (mk : Nat → Value) (obj : Obj) (hw : Region.wanted o (yielded ops a.tmps) = true) (hk : katV V ops (Region.before ops) i o = .m) (hr : ∀ w1, (execOp a.eval o).run P w1 = .ok (.value (mk w1.heap.size)) (w1.alloc obj)) (hB : Kx S wb wb w)
    (h : ∀ g w', Bw w w' → wb.heap.size ≤ g → w'.heap[g]? = some obj → wpMix V S P ops wb Q (i + 1) r (a.put o.dst (mk g)) w') : wpMix V S P ops wb Q i (o :: r) a w := by
  refine ⟨?_⟩
  show stepM S P ops wb (katV V ops _ i o) o (mixD V S P ops wb _ Q (i + 1) r) a w
  unfold stepM
  rw [if_pos hw, hk]
  exact ⟨hB, mk, obj, hr, fun g w' h1 h2 h3 => (h g w' h1 h2 h3).out⟩

theorem mix_c (hw : Region.wanted o (yielded ops a.tmps) = true) (hk : katV V ops (Region.before ops) i o = .c) (hB : Kx S wb wb w)
    (h : ∀ w1, Bw w w1 → ∀ K : Act → World → Prop, (∀ a' w', Bw w1 w' ∧ wpMix V S P ops wb Q (i + 1) r a' w' → K a' w') → o.wp P a w1 K NoQ) : wpMix V S P ops wb Q i (o :: r) a w := by
  refine ⟨?_⟩
  show stepM S P ops wb (katV V ops _ i o) o (mixD V S P ops wb _ Q (i + 1) r) a w
  unfold stepM
  rw [if_pos hw, hk]
  refine ⟨hB, fun w1 hw1 => ?_⟩
  exact outc_mono (fun t w' hk => ⟨hk.1, hk.2.out⟩) (outc_of_wp (h w1 hw1 (fun a' w' => Bw w1 w' ∧ wpMix V S P ops wb Q (i + 1) r a' w') (fun _ _ h => h)))

theorem mix_a (hw : Region.wanted o (yielded ops a.tmps) = true) (hk : katV V ops (Region.before ops) i o = .a) (h : ∀ K : Act → World → Prop, (∀ a' w', wpMix V S P ops wb Q (i + 1) r a' w' → K a' w') → o.wp P a w K NoQ) : wpMix V S P ops wb Q i (o :: r) a w := by
  refine ⟨?_⟩
  show stepM S P ops wb (katV V ops _ i o) o (mixD V S P ops wb _ Q (i + 1) r) a w
  unfold stepM
  rw [if_pos hw, hk]
  exact outc_mono (fun t w' hk => hk.out) (outc_of_wp (h _ fun _ _ h => h))
theorem mix_e (hw : Region.wanted o (yielded ops a.tmps) = true) (hk : katV V ops (Region.before ops) i o = .e) (hB : Kx S wb wb w)
    (h : ∀ w1, Bw w w1 → ∀ K : Act → World → Prop, (∀ a' w', Kx S wb w1 w' ∧ wpMix V S P ops wb Q (i + 1) r a' w' → K a' w') → o.wp P a w1 K NoQ) : wpMix V S P ops wb Q i (o :: r) a w := by
  refine ⟨?_⟩
  show stepM S P ops wb (katV V ops _ i o) o (mixD V S P ops wb _ Q (i + 1) r) a w
  unfold stepM
  rw [if_pos hw, hk]
  refine ⟨hB, fun w1 hw1 => ?_⟩
  exact outc_mono (fun t w' hk => ⟨hk.1, hk.2.out⟩) (outc_of_wp (h w1 hw1 (fun a' w' => Kx S wb w1 w' ∧ wpMix V S P ops wb Q (i + 1) r a' w') (fun _ _ h => h)))
end
end Go.Txt3

namespace Go.Proofs.Ytfgabafbcephaaa.My
open Go.RowKit Pa Go.Proofs.YtfgabafbcephaaaW.PrintWords

end Go.Proofs.Ytfgabafbcephaaa.My

namespace Go.Proofs.Ytfgabafbcephaaa.My
open Go.RowKit Pa Go.Proofs.YtfgabafbcephaaaW.PrintWords
set_option linter.unusedSimpArgs false
def nO (x : S34) (o : S36) (ov : Value) (a : S36) (av : Value) (m q : Int) (lv rv : Value) : Obj := .cells #[.int .i64 x.f0, .int .i64 x.f1, .int .i64 x.f2, .int .i64 x.f3, .int .i64 o.f0, .int .i64 o.f1, .int .i64 o.f2, .int .i64 o.f3, .int .i64 o.f4.f0, .int .i64 o.f4.f1, .int .i64 o.f4.f2, .int .i64 o.f4.f3, .int .i64 o.f5.f0, .int .i64 o.f5.f1, .int .i64 o.f5.f2, .int .i64 o.f5.f3, ov, .int .i64 a.f0, .int .i64 a.f1, .int .i64 a.f2, .int .i64 a.f3, .int .i64 a.f4.f0, .int .i64 a.f4.f1, .int .i64 a.f4.f2, .int .i64 a.f4.f3, .int .i64 a.f5.f0, .int .i64 a.f5.f1, .int .i64 a.f5.f2, .int .i64 a.f5.f3, av, .int .i64 m, .int .u32 q, lv, rv] 108
theorem nO_facts {w : World} {b : Nat} {x : S34} {o a : S36} {ov av lv rv : Value} {m q : Int} (h : w.heap[b]? = some (nO x o ov a av m q lv rv)) : w.cell? ⟨b, 0, none⟩ = some (.int .i64 x.f0) ∧ w.cell? ⟨b, 1, none⟩ = some (.int .i64 x.f1) ∧ w.cell? ⟨b, 2, none⟩ = some (.int .i64 x.f2) ∧ w.cell? ⟨b, 3, none⟩ = some (.int .i64 x.f3) ∧ w.cell? ⟨b, 4, none⟩ = some (.int .i64 o.f0) ∧ w.cell? ⟨b, 5, none⟩ = some (.int .i64 o.f1) ∧ w.cell? ⟨b, 6, none⟩ = some (.int .i64 o.f2) ∧ w.cell? ⟨b, 7, none⟩ = some (.int .i64 o.f3) ∧ w.cell? ⟨b, 8, none⟩ = some (.int .i64 o.f4.f0) ∧ w.cell? ⟨b, 9, none⟩ = some (.int .i64 o.f4.f1) ∧ w.cell? ⟨b, 10, none⟩ = some (.int .i64 o.f4.f2) ∧ w.cell? ⟨b, 11, none⟩ = some (.int .i64 o.f4.f3) ∧ w.cell? ⟨b, 12, none⟩ = some (.int .i64 o.f5.f0) ∧ w.cell? ⟨b, 13, none⟩ = some (.int .i64 o.f5.f1) ∧ w.cell? ⟨b, 14, none⟩ = some (.int .i64 o.f5.f2) ∧ w.cell? ⟨b, 15, none⟩ = some (.int .i64 o.f5.f3) ∧ w.cell? ⟨b, 16, none⟩ = some (ov) ∧ w.cell? ⟨b, 17, none⟩ = some (.int .i64 a.f0) ∧ w.cell? ⟨b, 18, none⟩ = some (.int .i64 a.f1) ∧ w.cell? ⟨b, 19, none⟩ = some (.int .i64 a.f2) ∧ w.cell? ⟨b, 20, none⟩ = some (.int .i64 a.f3) ∧ w.cell? ⟨b, 21, none⟩ = some (.int .i64 a.f4.f0) ∧ w.cell? ⟨b, 22, none⟩ = some (.int .i64 a.f4.f1) ∧ w.cell? ⟨b, 23, none⟩ = some (.int .i64 a.f4.f2) ∧ w.cell? ⟨b, 24, none⟩ = some (.int .i64 a.f4.f3) ∧ w.cell? ⟨b, 25, none⟩ = some (.int .i64 a.f5.f0) ∧ w.cell? ⟨b, 26, none⟩ = some (.int .i64 a.f5.f1) ∧ w.cell? ⟨b, 27, none⟩ = some (.int .i64 a.f5.f2) ∧ w.cell? ⟨b, 28, none⟩ = some (.int .i64 a.f5.f3) ∧ w.cell? ⟨b, 29, none⟩ = some (av) ∧ w.cell? ⟨b, 30, none⟩ = some (.int .i64 m) ∧ w.cell? ⟨b, 31, none⟩ = some (.int .u32 q) ∧ w.cell? ⟨b, 32, none⟩ = some (lv) ∧ w.cell? ⟨b, 33, none⟩ = some (rv) ∧ b < w.heap.size :=
  ⟨(blk_cell h 0).trans rfl, (blk_cell h 1).trans rfl, (blk_cell h 2).trans rfl, (blk_cell h 3).trans rfl, (blk_cell h 4).trans rfl, (blk_cell h 5).trans rfl, (blk_cell h 6).trans rfl, (blk_cell h 7).trans rfl, (blk_cell h 8).trans rfl, (blk_cell h 9).trans rfl, (blk_cell h 10).trans rfl, (blk_cell h 11).trans rfl, (blk_cell h 12).trans rfl, (blk_cell h 13).trans rfl, (blk_cell h 14).trans rfl, (blk_cell h 15).trans rfl, (blk_cell h 16).trans rfl, (blk_cell h 17).trans rfl, (blk_cell h 18).trans rfl, (blk_cell h 19).trans rfl, (blk_cell h 20).trans rfl, (blk_cell h 21).trans rfl, (blk_cell h 22).trans rfl, (blk_cell h 23).trans rfl, (blk_cell h 24).trans rfl, (blk_cell h 25).trans rfl, (blk_cell h 26).trans rfl, (blk_cell h 27).trans rfl, (blk_cell h 28).trans rfl, (blk_cell h 29).trans rfl, (blk_cell h 30).trans rfl, (blk_cell h 31).trans rfl, (blk_cell h 32).trans rfl, (blk_cell h 33).trans rfl, blk_lt h⟩
def putN (w : World) (b : Nat) (a : S36) (v : Value) : World := (((((((((((((w.setCell ⟨b, 17, none⟩ (.int .i64 a.f0)).setCell ⟨b, 18, none⟩ (.int .i64 a.f1)).setCell ⟨b, 19, none⟩ (.int .i64 a.f2)).setCell ⟨b, 20, none⟩ (.int .i64 a.f3)).setCell ⟨b, 21, none⟩ (.int .i64 a.f4.f0)).setCell ⟨b, 22, none⟩ (.int .i64 a.f4.f1)).setCell ⟨b, 23, none⟩ (.int .i64 a.f4.f2)).setCell ⟨b, 24, none⟩ (.int .i64 a.f4.f3)).setCell ⟨b, 25, none⟩ (.int .i64 a.f5.f0)).setCell ⟨b, 26, none⟩ (.int .i64 a.f5.f1)).setCell ⟨b, 27, none⟩ (.int .i64 a.f5.f2)).setCell ⟨b, 28, none⟩ (.int .i64 a.f5.f3)).setCell ⟨b, 29, none⟩ (v))
theorem putN_blk {w : World} {b : Nat} {x : S34} {o a : S36} {ov av lv rv : Value} {m q : Int} (h : w.heap[b]? = some (nO x o ov a av m q lv rv)) (a2 : S36) (v2 : Value) : (putN w b a2 v2).heap[b]? = some (nO x o ov a2 v2 m q lv rv) := by
  have := blk_set (blk_set (blk_set (blk_set (blk_set (blk_set (blk_set (blk_set (blk_set (blk_set (blk_set (blk_set (blk_set h 17 (.int .i64 a2.f0)) 18 (.int .i64 a2.f1)) 19 (.int .i64 a2.f2)) 20 (.int .i64 a2.f3)) 21 (.int .i64 a2.f4.f0)) 22 (.int .i64 a2.f4.f1)) 23 (.int .i64 a2.f4.f2)) 24 (.int .i64 a2.f4.f3)) 25 (.int .i64 a2.f5.f0)) 26 (.int .i64 a2.f5.f1)) 27 (.int .i64 a2.f5.f2)) 28 (.int .i64 a2.f5.f3)) 29 (v2)
  simp only [List.setIfInBounds_toArray, List.set_cons_zero, List.set_cons_succ] at this
  exact this
theorem putN_chg (w : World) (b : Nat) (a : S36) (v : Value) : Chg (fun k => k = b) w (putN w b a v) :=
  (((((((((((((Chg.refl (fun k => k = b) w).setCell (p := ⟨b, 17, none⟩) (.inl rfl) _).setCell (p := ⟨b, 18, none⟩) (.inl rfl) _).setCell (p := ⟨b, 19, none⟩) (.inl rfl) _).setCell (p := ⟨b, 20, none⟩) (.inl rfl) _).setCell (p := ⟨b, 21, none⟩) (.inl rfl) _).setCell (p := ⟨b, 22, none⟩) (.inl rfl) _).setCell (p := ⟨b, 23, none⟩) (.inl rfl) _).setCell (p := ⟨b, 24, none⟩) (.inl rfl) _).setCell (p := ⟨b, 25, none⟩) (.inl rfl) _).setCell (p := ⟨b, 26, none⟩) (.inl rfl) _).setCell (p := ⟨b, 27, none⟩) (.inl rfl) _).setCell (p := ⟨b, 28, none⟩) (.inl rfl) _).setCell (p := ⟨b, 29, none⟩) (.inl rfl) _
inductive PT where
  | nil : PT
  | node (b : Nat) (x : S34) (o : S36) (ov : Value) (a : S36) (av : Value) (m q : Int) (l r : PT) : PT
def PT.ptr : PT → Value
  | .nil => .pointer none
  | .node b _ _ _ _ _ _ _ _ _ => .pointer (some ⟨b, 0, none⟩)
def PT.blks : PT → List Nat
  | .nil => []
  | .node b _ _ _ _ _ _ _ l r => b :: (l.blks ++ r.blks)
def PT.hbs : PT → List Nat
  | .nil => []
  | .node _ _ _ ov _ av _ _ l r => (ov.ownBlock.toList ++ av.ownBlock.toList) ++ (l.hbs ++ r.hbs)
def PT.size : PT → Int
  | .nil => 0
  | .node _ _ _ _ _ _ m _ _ _ => m
def PT.sum (bs : List Int) : PT → S36
  | .nil => (joinRes bs []).1
  | .node _ _ _ _ a _ _ _ _ _ => a
def TrAt (w : World) : PT → Prop
  | .nil => True
  | .node b x o ov a av m q l r => w.heap[b]? = some (nO x o ov a av m q l.ptr r.ptr) ∧ Own w 0 ov o.f6 ∧ Own w 0 av a.f6 ∧ TrAt w l ∧ TrAt w r
section
variable {w w1 : World} {S : Nat → Prop}
theorem TrAt.keep : ∀ {t : PT}, TrAt w t → Chg S w w1 → (∀ i ∈ t.blks, ¬ S i) → (∀ i ∈ t.hbs, ¬ S i) → TrAt w1 t
  | .nil, _, _, _, _ => trivial
  | .node b x o ov a av m q l r, h, hc, hb, hh => by
    obtain ⟨h1, h2, h3, h4, h5⟩ := h
    simp only [PT.blks, PT.hbs, List.mem_cons, List.mem_append] at hb hh
    exact ⟨hc.obj h1 (hb b (.inl rfl)), h2.keep hc (fun k hk => hh k (.inl (.inl (by simpa using hk)))), h3.keep hc (fun k hk => hh k (.inl (.inr (by simpa using hk)))),
      h4.keep hc (fun i hi => hb i (.inr (.inl hi))) (fun i hi => hh i (.inr (.inl hi))), h5.keep hc (fun i hi => hb i (.inr (.inr hi))) (fun i hi => hh i (.inr (.inr hi)))⟩
theorem TrAt.below {t : PT} (h : TrAt w t) (hb : Below w.heap.size w w1) : TrAt w1 t := h.keep (S := fun _ => False) (Chg.of_below hb) (fun _ _ h => h) (fun _ _ h => h)
theorem TrAt.kind : ∀ {t : PT}, TrAt w t → (∀ i ∈ t.blks, ∃ cs, w.heap[i]? = some (.cells cs 108 (0, 0))) ∧ (∀ i ∈ t.hbs, ∃ cs, w.heap[i]? = some (.cells cs 3 (0, 0)))
  | .nil, _ => ⟨(fun i hi => by cases hi), (fun i hi => by cases hi)⟩
  | .node b x o ov a av m q l r, h => by
    obtain ⟨h1, h2, h3, h4, h5⟩ := h
    refine ⟨fun i hi => ?_, fun i hi => ?_⟩
    · simp only [PT.blks, List.mem_cons, List.mem_append] at hi
      rcases hi with rfl | hi | hi
      · exact ⟨_, h1⟩
      · exact h4.kind.1 i hi
      · exact h5.kind.1 i hi
    · simp only [PT.hbs, List.mem_append] at hi
      rcases hi with (hi | hi) | hi | hi
      · exact own_typed h2 i (by simpa using hi)
      · exact own_typed h3 i (by simpa using hi)
      · exact h4.kind.2 i hi
      · exact h5.kind.2 i hi
theorem TrAt.lt {t : PT} (h : TrAt w t) : (∀ i ∈ t.blks, i < w.heap.size) ∧ (∀ i ∈ t.hbs, i < w.heap.size) :=
  ⟨fun i hi => by obtain ⟨cs, hc⟩ := h.kind.1 i hi; exact blk_lt hc, fun i hi => by obtain ⟨cs, hc⟩ := h.kind.2 i hi; exact blk_lt hc⟩
theorem TrAt.unlike {t u : PT} (h : TrAt w t) (hu : TrAt w u) : ∀ i ∈ t.blks, i ∉ u.hbs := fun i hi hj => by
  obtain ⟨cs, h1⟩ := h.kind.1 i hi
  obtain ⟨ds, h2⟩ := hu.kind.2 i hj
  rw [h1] at h2
  injection h2 with h2
  injection h2 with _ h2
  exact absurd h2 (by decide)
theorem TrAt.apart {t u : PT} (h : TrAt w t) (hu : TrAt w u) (hc : Chg S w w1) (hS : ∀ i, S i → i ∈ u.blks) (hd : ∀ i ∈ t.blks, i ∉ u.blks) : TrAt w1 t :=
  h.keep hc (fun i hi hs => hd i hi (hS i hs)) (fun i hi hs => hu.unlike h i (hS i hs) hi)
theorem TrAt.hist {t : PT} {v : Value} {l : List Int} (hu : TrAt w t) (hv : Own w 0 v l) (hc : Chg S w w1) (hS : ∀ i, S i → i ∈ t.blks) : Own w1 0 v l :=
  hv.keep hc (fun k hk hs => by
    obtain ⟨cs, h1⟩ := hu.kind.1 k (hS k hs)
    obtain ⟨ds, h2⟩ := own_typed hv k hk
    rw [h1] at h2
    injection h2 with h2
    injection h2 with _ h2
    exact absurd h2 (by decide))
end
end Go.Proofs.Ytfgabafbcephaaa.My

namespace Go.Proofs.Ytfgabafbcephaaa.My
open Go.RowKit Pa Go.Proofs.YtfgabafbcephaaaW.PrintWords
set_option linter.unusedSimpArgs false
def tO (bv rv : Value) : Obj := .cells #[bv, rv] 95
theorem tO_facts {w : World} {g : Nat} {bv rv : Value} (h : w.heap[g]? = some (tO bv rv)) : w.cell? ⟨g, 0, none⟩ = some bv ∧ w.cell? ⟨g, 1, none⟩ = some rv ∧ g < w.heap.size :=
  ⟨(blk_cell h 0).trans rfl, (blk_cell h 1).trans rfl, blk_lt h⟩
set_option maxHeartbeats 4000000 in
set_option maxRecDepth 100000 in
theorem tsize_any {w : World} (t : PT) (h : TrAt w t) : Calls Try.prog 73 #[t.ptr] w fun e w' => e = .returned (.int .i64 t.size) ∧ Below w.heap.size w w' := by
  cases t with
  | nil =>
    unfold PT.ptr PT.size
    go_enter Try.func73, Try.ntmps73
    go_wp2_with fail
    go_ret
    exact ⟨rfl, Below.refl _ _⟩
  | node b x o ov a av m q l r =>
    have h1 := h.1
    unfold PT.ptr PT.size
    obtain ⟨-, -, -, -, -, -, -, -, -, -, -, -, -, -, -, -, -, -, -, -, -, -, -, -, -, -, -, -, -, -, e30, -, -, -, el⟩ := nO_facts h1
    clear h h1
    go_enter Try.func73, Try.ntmps73
    go_wp2_with fail
    go_ret
    exact ⟨rfl, Below.refl _ _⟩
set_option maxHeartbeats 4000000 in
set_option maxRecDepth 100000 in
theorem tjoin_at {w : World} {g : Nat} {bv : Value} {bs : List Int} (hq : w.cell? ⟨g, 0, none⟩ = some bv) (hbo : Own w 0 bv bs) (xs : List S36) (A : Option Addr) (c : Nat) (ha : RdA w A xs) (hl : xs.length ≤ 1000000) :
    Calls Try.prog 87 #[.pointer (some ⟨g, 0, none⟩), .slice A xs.length c] w fun e w' => ∃ v, e = .returned (acV (joinRes bs xs).1 v) ∧ Own w' w.heap.size v (joinRes bs xs).1.f6 ∧ Below w.heap.size w w' := by
  have hB : Below w.heap.size w (w.alloc (acO z36 (.slice none 0 0))) := (Below.refl w.heap.size w).alloc (Nat.le_refl _) _
  have hz : (w.alloc (acO z36 (.slice none 0 0))).heap[w.heap.size]? = some (acO z36 (.slice none 0 0)) := heap_alloc_new w _
  obtain ⟨B, d, rfl, hd, hr⟩ := hbo.reads
  have q0 := cell_below hq hB
  have ql := block_lt_of_cell q0
  have HR := Lib.hid hr
  have HD := Lib.hid hd
  have HA := Lib.hid ha
  have HX := Lib.hid hB
  have HZ := Lib.hid hz
  simp only [acO, z36, z34] at q0 ql
  clear hr hd ha hB hz hq hbo
  go_enter Try.func87, Try.ntmps87
  go_wp2_with fail
  clear q0 ql
  show Calls _ _ _ (w.alloc (acO z36 (.slice none 0 0))) _
  generalize w.alloc (acO z36 (.slice none 0 0)) = w1 at *
  refine (join_any bs xs B d A c w1 (RdI.below HR.out HX.out) HD.out (HA.out.below HX.out) (by omega)).mono ?_
  rintro e w2 ⟨v, rfl, how, hb⟩
  obtain ⟨o, ho⟩ : ∃ o, o = (joinRes bs xs).1 := ⟨_, rfl⟩
  obtain ⟨er, her⟩ : ∃ er, er = (joinRes bs xs).2 := ⟨_, rfl⟩
  rw [← ho] at how ⊢
  rw [← her]
  have HRES := Lib.hid ho
  clear ho her
  obtain ⟨A2, c2, rfl, hl2, hr2⟩ := how.reads
  have hal : Below w2.heap.size w2 (w2.alloc (acO o (.slice A2 o.f6.length c2))) := (Below.refl _ _).alloc (Nat.le_refl _) _
  have HO := Lib.hid (show Own _ w.heap.size _ _ from own_weaken (Own.below how hal) HX.out.size)
  have hbb := hb.trans (hal.mono hb.size)
  have hzz := blk_below HZ.out hbb
  have HZZ := Lib.hid hzz
  have HB2 := Lib.hid (HX.out.trans (hbb.mono HX.out.size))
  clear how hb hbb hl2 hr2 hal HZ HX
  simp only [acV]
  obtain ⟨z0, z1, z2, z3, z4, z5, z6, z7, z8, z9, z10, z11, z12, zl⟩ := acO_facts hzz
  have hf := fun j => blk_free hzz j
  clear hzz
  unfold acO at z0 z1 z2 z3 z4 z5 z6 z7 z8 z9 z10 z11 z12 zl hf
  go_wp2_with fail
  show bodyPost _ _ _ _ _ (putA (w2.alloc (acO o (.slice A2 o.f6.length c2))) w.heap.size o (.slice A2 o.f6.length c2))
  have hz2 := putA_blk (a := o) (v := .slice A2 o.f6.length c2) HZZ.out
  have hch := putA_chg (w2.alloc (acO o (.slice A2 o.f6.length c2))) w.heap.size o (.slice A2 o.f6.length c2)
  refine bodyPost_ret (results_ac1 rfl _ _ w.heap.size o (.slice A2 o.f6.length c2) rfl hz2) rfl ⟨.slice A2 o.f6.length c2, by rw [HRES.out], ?_, ?_⟩
  · rw [← HRES.out]
    exact HO.out.keep hch (fun k hk e => own_no HO.out HZZ.out (by rw [hk, e]))
  · exact Chg.base HB2.out hch HB2.out.size (fun i hi => by omega)
set_option maxHeartbeats 4000000 in
set_option maxRecDepth 100000 in
theorem tsum_own {w : World} {g : Nat} {bv : Value} {bs : List Int} (hq : w.cell? ⟨g, 0, none⟩ = some bv) (hbo : Own w 0 bv bs) (t : PT) (h : TrAt w t) :
    Calls Try.prog 88 #[.pointer (some ⟨g, 0, none⟩), t.ptr] w fun e w' => ∃ A c, e = .returned (acV (t.sum bs) (.slice A (t.sum bs).f6.length c)) ∧ Own w' 0 (.slice A (t.sum bs).f6.length c) (t.sum bs).f6 ∧ Below w.heap.size w w' := by
  have hB : Below w.heap.size w (w.alloc (acO z36 (.slice none 0 0))) := (Below.refl w.heap.size w).alloc (Nat.le_refl _) _
  have hz : (w.alloc (acO z36 (.slice none 0 0))).heap[w.heap.size]? = some (acO z36 (.slice none 0 0)) := heap_alloc_new w _
  have HX := Lib.hid hB
  have HZ := Lib.hid hz
  have HT := Lib.hid (h.below hB)
  have HQ := Lib.hid (cell_below hq hB)
  have HBO := Lib.hid (Own.below hbo hB)
  clear h hB hz hq hbo
  cases t with
  | nil =>
    unfold PT.ptr PT.sum
    go_enter Try.func88, Try.ntmps88
    go_wp2_with fail
    show Calls _ _ _ (w.alloc (acO z36 (.slice none 0 0))) _
    generalize w.alloc (acO z36 (.slice none 0 0)) = w1 at *
    refine (tjoin_at HQ.out HBO.out [] none 0 (rdA_nil _ _) (by simp)).mono ?_
    rintro e w2 ⟨v, rfl, how, hb⟩
    obtain ⟨A2, c2, rfl, hl2, hr2⟩ := how.reads
    have hzz := blk_below HZ.out hb
    have HZZ := Lib.hid hzz
    have HB2 := Lib.hid (HX.out.trans (hb.mono HX.out.size))
    have HOW := Lib.hid how
    clear how hb hl2 hr2 HX HZ HT
    simp only [acV]
    obtain ⟨z0, z1, z2, z3, z4, z5, z6, z7, z8, z9, z10, z11, z12, zl⟩ := acO_facts hzz
    have hf := fun j => blk_free hzz j
    clear hzz
    go_wp2_with fail
    generalize (joinRes bs []).1 = o at *
    show bodyPost _ _ _ _ _ (putA w2 w.heap.size o (.slice A2 o.f6.length c2))
    have hz2 := putA_blk (a := o) (v := .slice A2 o.f6.length c2) HZZ.out
    have hch := putA_chg w2 w.heap.size o (.slice A2 o.f6.length c2)
    have how2 := HOW.out.keep hch (fun k hk e => own_no HOW.out HZZ.out (by rw [hk, e]))
    exact bodyPost_ret (results_ac1 rfl _ _ w.heap.size o (.slice A2 o.f6.length c2) rfl hz2) rfl ⟨A2, c2, rfl, own_zero how2, Chg.base HB2.out hch HB2.out.size (fun i hi => by omega)⟩
  | node b x o ov a av m q l r =>
    unfold PT.ptr PT.sum
    obtain ⟨A2, c2, hav, hl2, hr2⟩ := HT.out.2.2.1.reads
    have HAV := Lib.hid (And.intro hav (And.intro hl2 hr2))
    have hb0 := HT.out.1
    rw [hav] at hb0
    clear hav hl2 hr2
    have HB0 := Lib.hid hb0
    clear hb0
    go_enter Try.func88, Try.ntmps88
    go_wp2_with (refine at_load 11 rfl ?_)
    show AtOp _ _ _ _ _ (w.alloc (acO z36 (.slice none 0 0)))
    generalize w.alloc (acO z36 (.slice none 0 0)) = w1 at *
    obtain ⟨-, -, -, -, -, -, -, -, -, -, -, -, -, -, -, -, -, e17, e18, e19, e20, e21, e22, e23, e24, e25, e26, e27, e28, e29, -, -, -, -, el⟩ := nO_facts HB0.out
    obtain ⟨z0, z1, z2, z3, z4, z5, z6, z7, z8, z9, z10, z11, z12, zl⟩ := acO_facts HZ.out
    have hf := fun j => blk_free HZ.out j
    refine ⟨?_⟩
    go_wp2_with fail
    show bodyPost _ _ _ _ _ (putA w1 w.heap.size a (.slice A2 a.f6.length c2))
    have hz2 := putA_blk (a := a) (v := .slice A2 a.f6.length c2) HZ.out
    have hch := putA_chg w1 w.heap.size a (.slice A2 a.f6.length c2)
    have how := HT.out.2.2.1
    rw [HAV.out.1] at how
    have how2 := how.keep hch (fun k hk e => own_no how HZ.out (by rw [hk, e]))
    exact bodyPost_ret (results_ac1 rfl _ _ w.heap.size a (.slice A2 a.f6.length c2) rfl hz2) rfl ⟨A2, c2, rfl, how2, Chg.base HX.out hch HX.out.size (fun i hi => by omega)⟩
theorem tsum_any {w : World} {g : Nat} {bv : Value} {bs : List Int} (hq : w.cell? ⟨g, 0, none⟩ = some bv) (hbo : Own w 0 bv bs) (t : PT) (h : TrAt w t) :
    Calls Try.prog 88 #[.pointer (some ⟨g, 0, none⟩), t.ptr] w fun e w' => ∃ A c, e = .returned (acV (t.sum bs) (.slice A (t.sum bs).f6.length c)) ∧ (t.sum bs).f6.length ≤ c ∧ RdI w' A (t.sum bs).f6 ∧ Below w.heap.size w w' :=
  (tsum_own hq hbo t h).mono fun _ _ ⟨A, c, he, ho, hb⟩ => ⟨A, c, he, (own_rd ho).1, (own_rd ho).2, hb⟩
end Go.Proofs.Ytfgabafbcephaaa.My

namespace Go.Proofs.Ytfgabafbcephaaa.My
open Go.RowKit Pa Go.Proofs.YtfgabafbcephaaaW.PrintWords
set_option linter.unusedSimpArgs false
def allN (bs : List Int) (o : S36) (l r : PT) : S36 := (joinRes bs [l.sum bs, o, r.sum bs]).1
theorem TrAt.own_ {w w1 : World} {b : Nat} {x : S34} {o a : S36} {ov av : Value} {m q : Int} {l r : PT} (h : TrAt w (.node b x o ov a av m q l r)) (hl : b ∉ l.blks) (hr : b ∉ r.blks) (hc : Chg (fun k => k = b) w w1) : Own w1 0 ov o.f6 ∧ Own w1 0 av a.f6 ∧ TrAt w1 l ∧ TrAt w1 r := by
  have hb : b ∈ (PT.node b x o ov a av m q l r).blks := List.mem_cons_self ..
  have h4 := h.2.2.2.1
  have h5 := h.2.2.2.2
  have hS : ∀ i, (fun k => k = b) i → i ∈ (PT.node b x o ov a av m q l r).blks := fun i hi => by
    have e : i = b := hi
    rw [e]
    exact hb
  exact ⟨h.hist h.2.1 hc hS, h.hist h.2.2.1 hc hS, h4.keep hc (fun i hi e => hl (by rw [← (show i = b from e)]; exact hi)) (fun i hi e => h.unlike h4 b hb (by rw [← (show i = b from e)]; exact hi)),
    h5.keep hc (fun i hi e => hr (by rw [← (show i = b from e)]; exact hi)) (fun i hi e => h.unlike h5 b hb (by rw [← (show i = b from e)]; exact hi))⟩
set_option maxHeartbeats 16000000 in
set_option maxRecDepth 100000 in
theorem renew_any {w : World} {g : Nat} {bv rv : Value} {bs : List Int} (hg : w.heap[g]? = some (tO bv rv)) (hbo : Own w 0 bv bs) {b : Nat} {x : S34} {o a : S36} {ov av : Value} {m q : Int} {l r : PT}
    (h : TrAt w (.node b x o ov a av m q l r)) (hl : b ∉ l.blks) (hr : b ∉ r.blks) (hsl : 0 ≤ l.size ∧ l.size ≤ 100000) (hsr : 0 ≤ r.size ∧ r.size ≤ 100000) :
    Calls Try.prog 65 #[.pointer (some ⟨g, 0, none⟩), .pointer (some ⟨b, 0, none⟩)] w fun e w' => ∃ av', e = .returned (.pointer (some ⟨b, 0, none⟩)) ∧ TrAt w' (.node b x o ov (allN bs o l r) av' (l.size + 1 + r.size) q l r) ∧ (∀ k, av'.ownBlock = some k → w.heap.size ≤ k) ∧ Chg (fun k => k = b) w w' := by
  have HG := Lib.hid hg
  have HBO := Lib.hid hbo
  have HT := Lib.hid h
  have HLR := Lib.hid (And.intro hl hr)
  have HSZ := Lib.hid (And.intro hsl hsr)
  clear hg hbo h hl hr hsl hsr
  obtain ⟨-, -, -, -, -, -, -, -, -, -, -, -, -, -, -, -, -, -, -, -, -, -, -, -, -, -, -, -, -, -, e30, -, e32, e33, el⟩ := nO_facts HT.out.1
  have hf := fun j => blk_free HT.out.1 j
  go_enter Try.func65, Try.ntmps65
  go_wp2_with fail
  refine Txt.wp_region_mix (by kernel_rfl) (by kernel_rfl) (fun HB => ?_)
  repeat (first
    | (refine Txt.mix_p (by rfl) rfl rfl (fun K hK => ?_); go_big_quiet_op; refine hK _ ?_; clear hK K)
    | (refine Txt.mix_re (by rfl) (by decide +kernel) (by rfl) (by rfl) (by go_simp) HB (fun K hK => ?_); go_big_quiet_op; refine hK _ ?_; clear hK K)
    | (refine Txt.mix_rl (by rfl) (by decide +kernel) (by rfl) (by rfl) (by go_simp) HB (fun K hK => ?_); go_big_quiet_op; refine hK _ ?_; clear hK K)
    | (refine Txt.mix_pass (by rfl) (by rfl) ?_; simp only [List.set_cons_succ, List.set_cons_zero]))
  refine Txt.mix_c (by rfl) (by decide +kernel) HB ?_
  intro w1 hw1 K hK
  replace HB := HB.trans hw1
  clear hw1
  go_wp2_with fail
  refine (tsize_any l (HT.out.2.2.2.1.below HB.undrew)).mono ?_
  rintro e w2 ⟨rfl, hb⟩
  refine hK _ _ ⟨hb, ?_⟩
  replace HB := HB.trans hb
  clear hK K hb
  obtain ⟨ls, hls⟩ : ∃ ls, l.size = ls := ⟨_, rfl⟩
  obtain ⟨rs, hrs⟩ : ∃ rs, r.size = rs := ⟨_, rfl⟩
  have HLS := Lib.hid (And.intro hls hrs)
  have hs1 := HSZ.out.1
  have hs2 := HSZ.out.2
  rw [hls] at hs1 ⊢
  rw [hrs] at hs2
  clear hls hrs
  repeat (first
    | (refine Txt.mix_p (by rfl) rfl rfl (fun K hK => ?_); go_big_quiet_op; refine hK _ ?_; clear hK K)
    | (refine Txt.mix_re (by rfl) (by decide +kernel) (by rfl) (by rfl) (by go_simp) HB (fun K hK => ?_); go_big_quiet_op; refine hK _ ?_; clear hK K)
    | (refine Txt.mix_rl (by rfl) (by decide +kernel) (by rfl) (by rfl) (by go_simp) HB (fun K hK => ?_); go_big_quiet_op; refine hK _ ?_; clear hK K)
    | (refine Txt.mix_pass (by rfl) (by rfl) ?_; simp only [List.set_cons_succ, List.set_cons_zero]))
  refine Txt.mix_c (by rfl) (by decide +kernel) HB ?_
  intro w3 hw3 K hK
  replace HB := HB.trans hw3
  clear hw3
  go_wp2_with fail
  have hp := tsize_any r (HT.out.2.2.2.2.below HB.undrew)
  rw [HLS.out.2] at hp
  refine hp.mono ?_
  clear hp
  rintro e w4 ⟨rfl, hb⟩
  refine hK _ _ ⟨hb, ?_⟩
  replace HB := HB.trans hb
  clear hK K hb
  have hb4 := HB.undrew
  have T4 := Lib.hid (HT.out.below hb4)
  clear hf e30 e32 e33 el
  obtain ⟨-, -, -, -, -, -, -, -, -, -, -, -, -, -, -, -, -, -, -, -, -, -, -, -, -, -, -, -, -, -, e30, -, e32, e33, el⟩ := nO_facts T4.out.1
  have hf := fun j => blk_free T4.out.1 j
  repeat (first
    | (refine Txt.mix_p (by rfl) rfl rfl (fun K hK => ?_); go_big_quiet_op; refine hK _ ?_; clear hK K)
    | (refine Txt.mix_re (by rfl) (by decide +kernel) (by rfl) (by rfl) (by go_simp) HB (fun K hK => ?_); go_big_quiet_op; refine hK _ ?_; clear hK K)
    | (refine Txt.mix_rl (by rfl) (by decide +kernel) (by rfl) (by rfl) (by go_simp) HB (fun K hK => ?_); go_big_quiet_op; refine hK _ ?_; clear hK K)
    | (refine Txt.mix_pass (by rfl) (by rfl) ?_; simp only [List.set_cons_succ, List.set_cons_zero]))
  refine Txt.mix_a (by rfl) (by decide +kernel) (fun K hK => ?_)
  go_wp2_with fail
  clear e30 e32 e33 el hf
  show Txt.wpMix _ _ _ _ _ _ _ (w4.setCell ⟨b, 30, none⟩ (.int .i64 (ls + 1 + rs)))
  have hc5 : Chg (fun k => k = b) w4 (w4.setCell ⟨b, 30, none⟩ (.int .i64 (ls + 1 + rs))) := (Chg.refl (fun k => k = b) w4).setCell (p := ⟨b, 30, none⟩) (.inl rfl) _
  have hb5 := blk_set T4.out.1 30 (.int .i64 (ls + 1 + rs))
  simp only [List.setIfInBounds_toArray, List.set_cons_zero, List.set_cons_succ] at hb5
  obtain ⟨o1, o2, o3, o4⟩ := T4.out.own_ HLR.out.1 HLR.out.2 hc5
  have T5 := Lib.hid (show TrAt (w4.setCell ⟨b, 30, none⟩ (.int .i64 (ls + 1 + rs))) (.node b x o ov a av (ls + 1 + rs) q l r) from ⟨hb5, o1, o2, o3, o4⟩)
  have C5 := Lib.hid (show Chg (fun k => k = b) w (w4.setCell ⟨b, 30, none⟩ (.int .i64 (ls + 1 + rs))) from (Chg.of_below hb4).then_ hc5)
  have hgb : g ≠ b := fun e => by
    have h1 := HG.out
    rw [e, HT.out.1] at h1
    unfold nO tO at h1
    injection h1 with h1
    injection h1 with _ h1
    exact absurd h1 (by decide)
  have HGB := Lib.hid hgb
  clear hc5 hb5 o1 o2 o3 o4 T4 hgb HB hb4 hs1 hs2
  generalize w4.setCell ⟨b, 30, none⟩ (.int .i64 (ls + 1 + rs)) = w5 at *
  refine Txt.mix_nil ?_
  have G5 := Lib.hid (C5.out.obj HG.out HGB.out)
  have B5 := Lib.hid (HT.out.hist HBO.out C5.out (fun i hi => by rw [show i = b from hi]; exact List.mem_cons_self ..))
  obtain ⟨A1, c1, hov, hl1, hr1⟩ := T5.out.2.1.reads
  have hb0 := T5.out.1
  rw [hov] at hb0
  have HO1 := Lib.hid (And.intro hl1 hr1)
  have HB0 := Lib.hid hb0
  clear hov hl1 hr1 hb0
  obtain ⟨-, -, -, -, e4, e5, e6, e7, e8, e9, e10, e11, e12, e13, e14, e15, e16, -, -, -, -, -, -, -, -, -, -, -, -, -, -, -, e32, e33, el⟩ := nO_facts HB0.out
  go_wp2_with fail
  refine Txt.wp_region_mix (by kernel_rfl) (by kernel_rfl) (fun HB => ?_)
  repeat (first
    | (refine Txt.mix_p (by rfl) rfl rfl (fun K hK => ?_); go_big_quiet_op; refine hK _ ?_; clear hK K)
    | (refine Txt.mix_re (by rfl) (by decide +kernel) (by rfl) (by rfl) (by go_simp) HB (fun K hK => ?_); go_big_quiet_op; refine hK _ ?_; clear hK K)
    | (refine Txt.mix_rl (by rfl) (by decide +kernel) (by rfl) (by rfl) (by go_simp) HB (fun K hK => ?_); go_big_quiet_op; refine hK _ ?_; clear hK K)
    | (refine Txt.mix_pass (by rfl) (by rfl) ?_; simp only [List.set_cons_succ, List.set_cons_zero]))
  refine Txt.mix_c (by rfl) (by decide +kernel) HB ?_
  intro w6 hw6 K hK
  replace HB := HB.trans hw6
  clear hw6
  go_wp2_with fail
  refine (tsum_any (tO_facts (blk_below G5.out HB.undrew)).1 (Own.below B5.out HB.undrew) l (T5.out.2.2.2.1.below HB.undrew)).mono ?_
  rintro e w7 ⟨A2, c2, rfl, hl2, hr2, hb⟩
  refine hK _ _ ⟨hb, ?_⟩
  replace HB := HB.trans hb
  obtain ⟨y, hy⟩ : ∃ y, y = l.sum bs := ⟨_, rfl⟩
  rw [← hy] at hl2 hr2 ⊢
  have HY := Lib.hid hy
  have R2 := Lib.hid (And.intro hl2 hr2)
  clear hK K hb hl2 hr2 hy
  simp only [acV]
  repeat (first
    | (refine Txt.mix_p (by rfl) rfl rfl (fun K hK => ?_); go_big_quiet_op; refine hK _ ?_; clear hK K)
    | (refine Txt.mix_re (by rfl) (by decide +kernel) (by rfl) (by rfl) (by go_simp) HB (fun K hK => ?_); go_big_quiet_op; refine hK _ ?_; clear hK K)
    | (refine Txt.mix_rl (by rfl) (by decide +kernel) (by rfl) (by rfl) (by go_simp) HB (fun K hK => ?_); go_big_quiet_op; refine hK _ ?_; clear hK K)
    | (refine Txt.mix_pass (by rfl) (by rfl) ?_; simp only [List.set_cons_succ, List.set_cons_zero]))
  refine Txt.mix_c (by rfl) (by decide +kernel) HB ?_
  intro w8 hw8 K hK
  replace R2 := Lib.hid (And.intro R2.out.1 (RdI.below R2.out.2 hw8))
  replace HB := HB.trans hw8
  clear hw8
  go_wp2_with fail
  refine (tsum_any (tO_facts (blk_below G5.out HB.undrew)).1 (Own.below B5.out HB.undrew) r (T5.out.2.2.2.2.below HB.undrew)).mono ?_
  rintro e w9 ⟨A3, c3, rfl, hl3, hr3, hb⟩
  refine hK _ _ ⟨hb, ?_⟩
  replace HB := HB.trans hb
  replace R2 := Lib.hid (And.intro R2.out.1 (RdI.below R2.out.2 hb))
  obtain ⟨z, hz⟩ : ∃ z, z = r.sum bs := ⟨_, rfl⟩
  rw [← hz] at hl3 hr3 ⊢
  have HZ := Lib.hid hz
  have R3 := Lib.hid (And.intro hl3 hr3)
  clear hK K hb hl3 hr3 hz
  simp only [acV]
  repeat (first
    | (refine Txt.mix_p (by rfl) rfl rfl (fun K hK => ?_); go_big_quiet_op; refine hK _ ?_; clear hK K)
    | (refine Txt.mix_re (by rfl) (by decide +kernel) (by rfl) (by rfl) (by go_simp) HB (fun K hK => ?_); go_big_quiet_op; refine hK _ ?_; clear hK K)
    | (refine Txt.mix_rl (by rfl) (by decide +kernel) (by rfl) (by rfl) (by go_simp) HB (fun K hK => ?_); go_big_quiet_op; refine hK _ ?_; clear hK K)
    | (refine Txt.mix_pass (by rfl) (by rfl) ?_; simp only [List.set_cons_succ, List.set_cons_zero]))
  refine Txt.mix_m (fun g => .slice (some ⟨g, 0, none⟩) 3 3) (.cells #[.int .i64 y.f0, .int .i64 y.f1, .int .i64 y.f2, .int .i64 y.f3, .int .i64 y.f4.f0, .int .i64 y.f4.f1, .int .i64 y.f4.f2, .int .i64 y.f4.f3, .int .i64 y.f5.f0, .int .i64 y.f5.f1, .int .i64 y.f5.f2, .int .i64 y.f5.f3, .slice A2 y.f6.length c2, .int .i64 o.f0, .int .i64 o.f1, .int .i64 o.f2, .int .i64 o.f3, .int .i64 o.f4.f0, .int .i64 o.f4.f1, .int .i64 o.f4.f2, .int .i64 o.f4.f3, .int .i64 o.f5.f0, .int .i64 o.f5.f1, .int .i64 o.f5.f2, .int .i64 o.f5.f3, .slice A1 o.f6.length c1, .int .i64 z.f0, .int .i64 z.f1, .int .i64 z.f2, .int .i64 z.f3, .int .i64 z.f4.f0, .int .i64 z.f4.f1, .int .i64 z.f4.f2, .int .i64 z.f4.f3, .int .i64 z.f5.f0, .int .i64 z.f5.f1, .int .i64 z.f5.f2, .int .i64 z.f5.f3, .slice A3 z.f6.length c3] 36) (by rfl) (by decide +kernel) (fun w1 => by go_simp) HB ?_
  intro pb wa hb2 hg2 ho2
  replace HB := HB.trans hb2
  have hrd3 : RdA wa (some ⟨pb, 0, none⟩) [y, o, z] := rdA_three (x := y) (y := o) (z := z) ho2 R2.out.1 (RdI.below R2.out.2 hb2) HO1.out.1 (RdI.below HO1.out.2 HB.undrew) R3.out.1 (RdI.below R3.out.2 hb2)
  have RD := Lib.hid hrd3
  clear hrd3 hb2 hg2 ho2
  simp only [Act.put, List.setIfInBounds_toArray, List.set_cons_succ, List.set_cons_zero]
  repeat (first
    | (refine Txt.mix_p (by rfl) rfl rfl (fun K hK => ?_); go_big_quiet_op; refine hK _ ?_; clear hK K)
    | (refine Txt.mix_re (by rfl) (by decide +kernel) (by rfl) (by rfl) (by go_simp) HB (fun K hK => ?_); go_big_quiet_op; refine hK _ ?_; clear hK K)
    | (refine Txt.mix_rl (by rfl) (by decide +kernel) (by rfl) (by rfl) (by go_simp) HB (fun K hK => ?_); go_big_quiet_op; refine hK _ ?_; clear hK K)
    | (refine Txt.mix_pass (by rfl) (by rfl) ?_; simp only [List.set_cons_succ, List.set_cons_zero]))
  refine Txt.mix_c (by rfl) (by decide +kernel) HB ?_
  intro wb hwb K hK
  replace RD := Lib.hid (RD.out.below hwb)
  replace HB := HB.trans hwb
  clear hwb
  go_wp2_with fail
  refine (tjoin_at (tO_facts (blk_below G5.out HB.undrew)).1 (Own.below B5.out HB.undrew) [y, o, z] (some ⟨pb, 0, none⟩) 3 RD.out (by simp)).mono ?_
  rintro e wc ⟨v, rfl, how, hb⟩
  refine hK _ _ ⟨hb, ?_⟩
  obtain ⟨p, hp⟩ : ∃ p, p = allN bs o l r := ⟨_, rfl⟩
  have hp2 : (joinRes bs [y, o, z]).1 = p := by rw [hp, HY.out, HZ.out]; rfl
  rw [hp2] at how ⊢
  have HP := Lib.hid hp
  have HOW := Lib.hid (own_zero how)
  have HOB := Lib.hid (fun k hk => Nat.le_trans (Nat.le_trans C5.out.size HB.undrew.size) (own_base how k hk))
  obtain ⟨A4, c4, rfl, _, _⟩ := how.reads
  replace HB := HB.trans hb
  clear hK K hb how hp hp2
  have hbc := HB.undrew
  have TC := Lib.hid (T5.out.below hbc)
  have hbk := TC.out.1
  clear HB0 HB
  simp only [acV]
  clear e4 e5 e6 e7 e8 e9 e10 e11 e12 e13 e14 e15 e16 e32 e33 el
  obtain ⟨-, -, -, -, -, -, -, -, -, -, -, -, -, -, -, -, -, e17, e18, e19, e20, e21, e22, e23, e24, e25, e26, e27, e28, e29, -, -, -, -, el⟩ := nO_facts hbk
  have hf := fun j => blk_free hbk j
  repeat (first
    | (refine Txt.mix_p (by rfl) rfl rfl (fun K hK => ?_); go_big_quiet_op; refine hK _ ?_; clear hK K)
    | (refine Txt.mix_re (by rfl) (by decide +kernel) (by rfl) (by rfl) (by go_simp) HB (fun K hK => ?_); go_big_quiet_op; refine hK _ ?_; clear hK K)
    | (refine Txt.mix_rl (by rfl) (by decide +kernel) (by rfl) (by rfl) (by go_simp) HB (fun K hK => ?_); go_big_quiet_op; refine hK _ ?_; clear hK K)
    | (refine Txt.mix_pass (by rfl) (by rfl) ?_; simp only [List.set_cons_succ, List.set_cons_zero]))
  refine Txt.mix_a (by rfl) (by decide +kernel) (fun K hK => ?_)
  go_wp2_with fail
  clear e17 e18 e19 e20 e21 e22 e23 e24 e25 e26 e27 e28 e29 el hf
  show Txt.wpMix _ _ _ _ _ _ _ (putN wc b p (.slice A4 p.f6.length c4))
  have hcn := putN_chg wc b p (.slice A4 p.f6.length c4)
  have hbn := putN_blk hbk p (.slice A4 p.f6.length c4)
  obtain ⟨o1, -, o3, o4⟩ := TC.out.own_ HLR.out.1 HLR.out.2 hcn
  have o5 := TC.out.hist HOW.out hcn (fun i hi => by rw [show i = b from hi]; exact List.mem_cons_self ..)
  have TF := Lib.hid (show TrAt (putN wc b p (.slice A4 p.f6.length c4)) (.node b x o ov p (.slice A4 p.f6.length c4) (ls + 1 + rs) q l r) from ⟨hbn, o1, o5, o3, o4⟩)
  have CF := Lib.hid ((C5.out.below hbc).then_ hcn)
  clear hcn hbn o1 o3 o4 o5 hbc hbk TC
  generalize putN wc b p (.slice A4 p.f6.length c4) = wd at *
  refine Txt.mix_nil ?_
  go_wp2_with fail
  go_ret
  refine ⟨_, rfl, ?_, HOB.out, CF.out⟩
  rw [HLS.out.1, HLS.out.2, ← HP.out]
  exact TF.out
end Go.Proofs.Ytfgabafbcephaaa.My

namespace Go.Proofs.Ytfgabafbcephaaa.My
open Go.RowKit Pa Go.Proofs.YtfgabafbcephaaaW.PrintWords
set_option linter.unusedSimpArgs false
def its (bs : List Int) (L : List S34) : List S36 := L.map (fun x => one x bs)
theorem its_app (bs : List Int) (L M : List S34) : its bs (L ++ M) = its bs L ++ its bs M := List.map_append ..
theorem its_cons (bs : List Int) (x : S34) (L : List S34) : its bs (x :: L) = one x bs :: its bs L := rfl
def TOk (bs : List Int) : PT → List S34 → Prop
  | .nil, L => L = []
  | .node _ x o _ a _ m q l r, L => ∃ L1 L2, L = L1 ++ x :: L2 ∧ TOk bs l L1 ∧ TOk bs r L2 ∧ o = one x bs ∧ a = joinA bs (its bs L) ∧ m = L.length ∧ 0 ≤ q ∧ q ≤ 4294967295
theorem PT.ptr_form (t : PT) : ∃ A, t.ptr = .pointer A := by
  cases t with
  | nil => exact ⟨_, rfl⟩
  | node => exact ⟨_, rfl⟩
theorem TOk.size {bs : List Int} {t : PT} {L : List S34} (h : TOk bs t L) : t.size = L.length := by
  cases t with
  | nil =>
    have e : L = [] := h
    rw [e]
    rfl
  | node =>
    obtain ⟨L1, L2, -, -, -, -, -, hm, -⟩ := h
    exact hm
theorem TOk.sum {bs : List Int} {s : Int} {t : PT} {L : List S34} (h : TOk bs t L) (gd : Gd bs s (its bs L)) : t.sum bs = joinA bs (its bs L) := by
  cases t with
  | nil =>
    have e : L = [] := h
    subst e
    show (joinRes bs []).1 = _
    rw [(Gd.nil (s := s) gd.b).join]
    rfl
  | node =>
    obtain ⟨L1, L2, -, -, -, -, ha, -⟩ := h
    exact ha
theorem Gd.three {bs : List Int} {s : Int} {A B : List S36} {y : S36} (h : Gd bs s (A ++ y :: B)) : joinRes bs [joinA bs A, y, joinA bs B] = (joinA bs (A ++ y :: B), 0) := by
  have hA := h.left
  have hB : Gd bs s ([y] ++ B) := h.right
  have hy := hB.left
  have hB2 := hB.right
  have z1 := hA.zj
  have z2 := hB2.zj
  have zy := hy.z y (by simp)
  have hc := h.c
  rw [cnt_app] at hc
  have hcy : cnt (y :: B) = y.f0 + cnt B := by simp [cnt]
  have g : Gd bs s [joinA bs A, y, joinA bs B] := ⟨h.b, by
    intro x hx
    simp only [List.mem_cons, List.not_mem_nil, or_false] at hx
    rcases hx with rfl | rfl | rfl
    · exact z1.1
    · exact zy
    · exact z2.1, by
    have : cnt [joinA bs A, y, joinA bs B] = (joinA bs A).f0 + (y.f0 + ((joinA bs B).f0 + 0)) := rfl
    rw [this, z1.2, z2.2]
    omega⟩
  rw [g.join, h.app]
  have e2 : joinA bs (y :: B) = stepA y (joinA bs B) := by
    have := hB.app
    rw [joinA_one, zero_zs zy] at this
    exact this
  rw [e2]
  show (stepA (stepA (stepA (join0 bs) (joinA bs A)) y) (joinA bs B), (0 : Int)) = _
  rw [zero_zs z1.1, step_assoc z1.1 zy z2.1]
theorem allN_ok {bs : List Int} {s : Int} {l r : PT} {L1 L2 : List S34} {x : S34} (hl : TOk bs l L1) (hr : TOk bs r L2) (gd : Gd bs s (its bs (L1 ++ x :: L2))) : allN bs (one x bs) l r = joinA bs (its bs (L1 ++ x :: L2)) := by
  rw [its_app, its_cons] at gd ⊢
  have g2 : Gd bs s ([one x bs] ++ its bs L2) := gd.right
  unfold allN
  rw [hl.sum gd.left, hr.sum g2.right, gd.three]
theorem gd_left {bs : List Int} {s : Int} {L M : List S34} (h : Gd bs s (its bs (L ++ M))) : Gd bs s (its bs L) := by
  rw [its_app] at h
  exact h.left
theorem gd_right {bs : List Int} {s : Int} {L M : List S34} (h : Gd bs s (its bs (L ++ M))) : Gd bs s (its bs M) := by
  rw [its_app] at h
  exact h.right
theorem gd_len {bs : List Int} {s : Int} {L : List S34} (h : Gd bs s (its bs L)) : L.length ≤ 8192 := by
  have := h.c
  unfold its at this
  rw [cnt_map] at this
  omega
end Go.Proofs.Ytfgabafbcephaaa.My

namespace Go.Proofs.Ytfgabafbcephaaa.My
open Go.RowKit Pa Go.Proofs.YtfgabafbcephaaaW.PrintWords
set_option linter.unusedSimpArgs false
structure Tells (fid : FuncId) (xb : Nat) (ob : Obj) (p : S34 → Bool) : Prop where
  cf : ∀ args w, (callFunc fid args).run Try.prog w = .ok (.enter fid args) w
  far : ∀ cs, ob ≠ .cells cs 108 (0, 0)
  cl : ∀ (w : World) (b : Nat) (x : S34) (o : S36) (ov : Value) (a : S36) (av : Value) (m q : Int) (lv rv : Value), w.heap[xb]? = some ob → w.heap[b]? = some (nO x o ov a av m q lv rv) →
    Calls Try.prog fid #[.pointer (some ⟨b, 0, none⟩), .pointer (some ⟨xb, 0, none⟩)] w fun e w' => e = .returned (.bool (p x)) ∧ Below w.heap.size w w'
structure Parts (w w' : World) (t t1 t2 : PT) : Prop where
  a1 : TrAt w' t1
  a2 : TrAt w' t2
  perm : (t1.blks ++ t2.blks).Perm t.blks
  hb : ∀ k, k ∈ t1.hbs ∨ k ∈ t2.hbs → k ∈ t.hbs ∨ w.heap.size ≤ k
  chg : Chg (fun k => k ∈ t.blks) w w'
theorem cut_cons {p : S34 → Bool} {La Lb L1 L2 : List S34} {x : S34} (he : La ++ x :: Lb = L1 ++ L2) (h1 : ∀ y ∈ L1, p y = true) (h2 : ∀ y ∈ L2, p y = false) :
    (p x = true ∧ ∃ M, L1 = La ++ x :: M ∧ Lb = M ++ L2) ∨ (p x = false ∧ ∃ M, L2 = M ++ x :: Lb ∧ La = L1 ++ M) := by
  rcases List.append_eq_append_iff.1 he with ⟨M, hm1, hm2⟩ | ⟨M, hm1, hm2⟩
  · cases M with
    | nil =>
      refine .inr ⟨?_, [], ?_, ?_⟩
      · rw [List.nil_append] at hm2
        exact h2 x (by rw [← hm2]; exact List.mem_cons_self ..)
      · rw [List.nil_append] at hm2 ⊢
        exact hm2.symm
      · rw [hm1, List.append_nil, List.append_nil]
    | cons y M =>
      rw [List.cons_append] at hm2
      injection hm2 with e1 e2
      subst e1
      exact .inl ⟨h1 x (by rw [hm1]; simp), M, hm1, e2⟩
  · refine .inr ⟨h2 x (by rw [hm2]; simp), M, hm2, hm1⟩
theorem TrAt.none_ {w : World} {t : PT} (h : TrAt w t) {g : Nat} {cs : Array Value} {T : TypeId} {fr : Nat × Nat} (hg : w.heap[g]? = some (.cells cs T fr)) (hT : T ≠ 108) : g ∉ t.blks := fun hi => by
  obtain ⟨ds, h1⟩ := h.kind.1 g hi
  rw [hg] at h1
  injection h1 with h1
  injection h1 with _ h1
  exact hT h1
theorem TrAt.skip {w w1 : World} {u : PT} (h : TrAt w u) {b : Nat} {cs : Array Value} (hb : w.heap[b]? = some (.cells cs 108 (0, 0))) (hn : b ∉ u.blks) (hc : Chg (fun k => k = b) w w1) : TrAt w1 u :=
  h.keep hc (fun i hi e => hn (by rw [← (show i = b from e)]; exact hi)) (fun i hi e => by
    obtain ⟨ds, h1⟩ := h.kind.2 i hi
    rw [show i = b from e, hb] at h1
    injection h1 with h1
    injection h1 with _ h1
    exact absurd h1 (by decide))
theorem Own.skip {w w1 : World} {v : Value} {l : List Int} (h : Own w 0 v l) {b : Nat} {cs : Array Value} (hb : w.heap[b]? = some (.cells cs 108 (0, 0))) (hc : Chg (fun k => k = b) w w1) : Own w1 0 v l :=
  h.keep hc (fun k hk e => row_noq h hb (by decide) (by rw [hk, show k = b from e]))
theorem far_obj {w w1 : World} {S : Nat → Prop} {xb : Nat} {ob : Obj} {t : PT} (hx : w.heap[xb]? = some ob) (hf : ∀ cs, ob ≠ .cells cs 108 (0, 0)) (ht : TrAt w t) (hc : Chg S w w1) (hS : ∀ i, S i → i ∈ t.blks) : w1.heap[xb]? = some ob :=
  hc.obj hx (fun hs => by
    obtain ⟨cs, h1⟩ := ht.kind.1 xb (hS xb hs)
    rw [hx] at h1
    injection h1 with h1
    exact hf cs h1)
set_option maxHeartbeats 16000000 in
set_option maxRecDepth 100000 in
theorem split_any {g : Nat} {bv rv : Value} {bs : List Int} {s : Int} {fid : FuncId} {xb : Nat} {ob : Obj} {p : S34 → Bool} (hf : Tells fid xb ob p) :
    ∀ (t : PT) (L L1 L2 : List S34) (w : World), w.heap[g]? = some (tO bv rv) → Own w 0 bv bs → w.heap[xb]? = some ob → TrAt w t → t.blks.Nodup → TOk bs t L → Gd bs s (its bs L) → L = L1 ++ L2 → (∀ y ∈ L1, p y = true) → (∀ y ∈ L2, p y = false) →
    Calls Try.prog 61 #[.pointer (some ⟨g, 0, none⟩), t.ptr, .func (.func fid) #[] #[.pointer (some ⟨xb, 0, none⟩)]] w fun e w' => ∃ t1 t2, e = .returned (.tuple #[t1.ptr, t2.ptr]) ∧ Parts w w' t t1 t2 ∧ TOk bs t1 L1 ∧ TOk bs t2 L2 := by
  intro t
  induction t with
  | nil =>
    intro L L1 L2 w hg hbo hx ht hnd hok gd he h1 h2
    have e : L = [] := hok
    rw [e] at he
    obtain ⟨e1, e2⟩ := List.append_eq_nil_iff.1 he.symm
    have HE := Lib.hid (And.intro e1 e2)
    clear hg hbo hx ht hnd hok gd he h1 h2 e e1 e2 hf
    show Calls _ _ #[_, .pointer none, _] _ _
    go_enter Try.func61, Try.ntmps61
    go_wp2_with fail
    refine bodyPost_ret (results_tmp2 rfl _ _ _) rfl ⟨.nil, .nil, rfl, ⟨trivial, trivial, List.Perm.refl _, (fun k hk => by rcases hk with hk | hk <;> cases hk), Chg.refl _ _⟩, HE.out.1, HE.out.2⟩
  | node b x o ov a av m q l r ihl ihr =>
    intro L L1 L2 w hg hbo hx ht hnd hok gd he h1 h2
    obtain ⟨La, Lb, hL, okl, okr, ho, ha, hm, hq⟩ := hok
    have hcut := cut_cons (hL.symm.trans he) h1 h2
    have HG := Lib.hid hg
    have HBO := Lib.hid hbo
    have HX := Lib.hid hx
    have HT := Lib.hid ht
    have HF := Lib.hid hf
    have HND := Lib.hid hnd
    have HGD := Lib.hid gd
    have HCF := hf.cf
    have HOK := Lib.hid (And.intro okl (And.intro okr (And.intro ho hq)))
    have HH := Lib.hid (And.intro h1 h2)
    have HIL := Lib.hid ihl
    have HIR := Lib.hid ihr
    have HLE := Lib.hid (And.intro hL he)
    clear hg hbo hx ht hf hnd gd okl okr ho ha hm hq h1 h2 ihl ihr hL he
    show Calls _ _ #[_, .pointer (some ⟨b, 0, none⟩), _] _ _
    go_enter Try.func61, Try.ntmps61
    go_wp2_with fail
    refine (HF.out.cl w b x o ov a av m q l.ptr r.ptr HX.out HT.out.1).mono ?_
    rintro e w1 ⟨rfl, hb⟩
    have T1 := Lib.hid (HT.out.below hb)
    have G1 := Lib.hid (blk_below HG.out hb)
    have B1 := Lib.hid (Own.below HBO.out hb)
    have X1 := Lib.hid (blk_below HX.out hb)
    have C1 := Lib.hid hb
    have hnd := HND.out
    simp only [PT.blks, List.nodup_cons, List.mem_append, not_or, List.nodup_append] at hnd
    obtain ⟨⟨hbl, hbr⟩, hndl, hndr, hdis⟩ := hnd
    have HD := Lib.hid (And.intro hbl (And.intro hbr (And.intro hndl (And.intro hndr hdis))))
    obtain ⟨-, -, -, -, -, -, -, -, -, -, -, -, -, -, -, -, -, -, -, -, -, -, -, -, -, -, -, -, -, -, -, -, e32, e33, el⟩ := nO_facts T1.out.1
    have hL := HLE.out.1
    have hgd := HGD.out
    rw [hL] at hgd
    have hgr := gd_right (L := La ++ [x]) (by rw [List.append_assoc]; exact hgd)
    have hgl := gd_left hgd
    have HGG := Lib.hid (And.intro hgd (And.intro hgl hgr))
    clear hb hbl hbr hndl hndr hdis hL hgd hgr hgl
    rcases hcut with ⟨hpx, M, hm1, hm2⟩ | ⟨hpx, M, hm1, hm2⟩
    · rw [hpx]
      have HM := Lib.hid (And.intro hm1 hm2)
      clear hpx hm1 hm2
      go_wp2_with fail
      refine (HIR.out Lb M L2 w1 G1.out B1.out X1.out T1.out.2.2.2.2 HD.out.2.2.2.1 HOK.out.2.1 HGG.out.2.2 HM.out.2 (fun y hy => HH.out.1 y (by rw [HM.out.1]; simp [hy])) HH.out.2).mono ?_
      rintro e w2 ⟨t1, t2, rfl, hp, k1, k2⟩
      have b2 := hp.chg.obj T1.out.1 HD.out.2.1
      have P2 := Lib.hid hp
      have K2 := Lib.hid (And.intro k1 k2)
      have l2 := T1.out.2.2.2.1.apart T1.out.2.2.2.2 hp.chg (fun i hi => hi) (fun i hi hj => HD.out.2.2.2.2 i hi i hj rfl)
      have o2 := T1.out.2.2.2.2.hist T1.out.2.1 hp.chg (fun i hi => hi)
      have v2 := T1.out.2.2.2.2.hist T1.out.2.2.1 hp.chg (fun i hi => hi)
      have q2 := T1.out.2.2.2.2.hist B1.out hp.chg (fun i hi => hi)
      have g2 := far_obj G1.out (fun cs e => by unfold tO at e; injection e with _ e; exact absurd e (by decide)) T1.out.2.2.2.2 hp.chg (fun i hi => hi)
      obtain ⟨A1, hA1⟩ := t1.ptr_form
      obtain ⟨A2, hA2⟩ := t2.ptr_form
      have HA := Lib.hid (And.intro hA1 hA2)
      rw [hA1, hA2]
      have W2 := Lib.hid (And.intro b2 (And.intro l2 (And.intro o2 (And.intro v2 (And.intro q2 g2)))))
      clear hp k1 k2 l2 o2 v2 q2 g2 hA1 hA2 e32 e33 el b2
      obtain ⟨-, -, -, -, -, -, -, -, -, -, -, -, -, -, -, -, -, -, -, -, -, -, -, -, -, -, -, -, -, -, -, -, e32, e33, el⟩ := nO_facts W2.out.1
      have hfr := fun j => blk_free W2.out.1 j
      go_wp2_with fail
      clear e32 e33 el hfr
      change Calls _ _ _ (w2.setCell ⟨b, 33, none⟩ (.pointer A1)) _
      have hc3 : Chg (fun k => k = b) w2 (w2.setCell ⟨b, 33, none⟩ (.pointer A1)) := (Chg.refl (fun k => k = b) w2).setCell (p := ⟨b, 33, none⟩) (.inl rfl) _
      have b3 := blk_set W2.out.1 33 (.pointer A1)
      simp only [List.setIfInBounds_toArray, List.set_cons_zero, List.set_cons_succ] at b3
      have hn1 : b ∉ t1.blks := fun hi => HD.out.2.1 (P2.out.perm.mem_iff.1 (List.mem_append_left _ hi))
      have hn2 : b ∉ t2.blks := fun hi => HD.out.2.1 (P2.out.perm.mem_iff.1 (List.mem_append_right _ hi))
      have t13 := P2.out.a1.skip W2.out.1 hn1 hc3
      have t23 := P2.out.a2.skip W2.out.1 hn2 hc3
      have l3 := W2.out.2.1.skip W2.out.1 HD.out.1 hc3
      have o3 := W2.out.2.2.1.skip W2.out.1 hc3
      have v3 := W2.out.2.2.2.1.skip W2.out.1 hc3
      have q3 := W2.out.2.2.2.2.1.skip W2.out.1 hc3
      have g3 := hc3.obj W2.out.2.2.2.2.2 (fun e => by
        have h1 := W2.out.2.2.2.2.2
        rw [show g = b from e, W2.out.1] at h1
        unfold nO tO at h1
        injection h1 with h1
        injection h1 with _ h1
        exact absurd h1 (by decide))
      have n3 : TrAt (w2.setCell ⟨b, 33, none⟩ (.pointer A1)) (.node b x o ov a av m q l t1) := ⟨by rw [HA.out.1]; exact b3, o3, v3, l3, t13⟩
      have HC3 := Lib.hid hc3
      have N3 := Lib.hid (And.intro n3 (And.intro t23 (And.intro hn1 hn2)))
      clear t13 t23 l3 o3 v3 hc3 hn1 hn2 n3
      have hs1 := HOK.out.1.size
      have hs2 := K2.out.1.size
      have hlen := gd_len HGG.out.1
      rw [HM.out.2] at hlen
      simp only [List.length_append, List.length_cons] at hlen
      generalize w2.setCell ⟨b, 33, none⟩ (.pointer A1) = w3 at *
      refine (renew_any g3 q3 N3.out.1 HD.out.1 N3.out.2.2.1 (by omega) (by omega)).mono ?_
      rintro e w4 ⟨av', rfl, ht4, hav, hc4⟩
      have t24 := N3.out.2.1.skip N3.out.1.1 N3.out.2.2.2 hc4
      have HS := Lib.hid (And.intro hs1 hs2)
      have R4 := Lib.hid (And.intro ht4 (And.intro hav (And.intro hc4 t24)))
      clear ht4 hav hc4 t24 g3 q3 b3 hs1 hs2 hlen
      go_wp2_with fail
      refine bodyPost_ret (results_tmp2 rfl _ _ _) rfl ⟨.node b x o ov (allN bs o l t1) av' (l.size + 1 + t1.size) q l t1, t2, by rw [HA.out.2]; rfl, ⟨R4.out.1, R4.out.2.2.2, ?_, fun k hk => ?_, ?_⟩, ⟨La, M, HM.out.1, HOK.out.1, K2.out.1, HOK.out.2.2.1, ?_, ?_, HOK.out.2.2.2⟩, K2.out.2⟩
      · refine List.perm_iff_count.2 fun c => ?_
        have := List.perm_iff_count.1 P2.out.perm c
        simp only [PT.blks, List.cons_append, List.count_cons, List.count_append] at this ⊢
        omega
      · simp only [PT.hbs, List.mem_append] at hk ⊢
        have hz : w.heap.size ≤ w3.heap.size := by
          have := C1.out.size
          have := P2.out.chg.size
          have := HC3.out.size
          omega
        rcases hk with ((hk | hk) | hk | hk) | hk
        · exact .inl (.inl (.inl hk))
        · exact .inr (Nat.le_trans hz (R4.out.2.1 k (by simpa using hk)))
        · exact .inl (.inr (.inl hk))
        · rcases P2.out.hb k (.inl hk) with h | h
          · exact .inl (.inr (.inr h))
          · exact .inr (Nat.le_trans C1.out.size h)
        · rcases P2.out.hb k (.inr hk) with h | h
          · exact .inl (.inr (.inr h))
          · exact .inr (Nat.le_trans C1.out.size h)
      · refine (((Chg.of_below C1.out).trans P2.out.chg (fun i _ hi => ?_)).trans HC3.out (fun i _ hi => ?_)).trans R4.out.2.2.1 (fun i _ hi => ?_)
        · simp [PT.blks, hi]
        · rw [show i = b from hi]; exact List.mem_cons_self ..
        · rw [show i = b from hi]; exact List.mem_cons_self ..
      · have hg1 : Gd bs s (its bs (La ++ x :: M)) := by
          have := HGD.out
          rw [HLE.out.2, HM.out.1] at this
          exact gd_left this
        rw [HOK.out.2.2.1, HM.out.1]
        exact allN_ok HOK.out.1 K2.out.1 hg1
      · rw [HS.out.1, HS.out.2, HM.out.1]
        simp only [List.length_append, List.length_cons]
        omega
    · rw [hpx]
      have HM := Lib.hid (And.intro hm1 hm2)
      clear hpx hm1 hm2
      go_wp2_with fail
      refine (HIL.out La L1 M w1 G1.out B1.out X1.out T1.out.2.2.2.1 HD.out.2.2.1 HOK.out.1 HGG.out.2.1 HM.out.2 HH.out.1 (fun y hy => HH.out.2 y (by rw [HM.out.1]; simp [hy]))).mono ?_
      rintro e w2 ⟨t1, t2, rfl, hp, k1, k2⟩
      have b2 := hp.chg.obj T1.out.1 HD.out.1
      have P2 := Lib.hid hp
      have K2 := Lib.hid (And.intro k1 k2)
      have l2 := T1.out.2.2.2.2.apart T1.out.2.2.2.1 hp.chg (fun i hi => hi) (fun i hi hj => HD.out.2.2.2.2 i hj i hi rfl)
      have o2 := T1.out.2.2.2.1.hist T1.out.2.1 hp.chg (fun i hi => hi)
      have v2 := T1.out.2.2.2.1.hist T1.out.2.2.1 hp.chg (fun i hi => hi)
      have q2 := T1.out.2.2.2.1.hist B1.out hp.chg (fun i hi => hi)
      have g2 := far_obj G1.out (fun cs e => by unfold tO at e; injection e with _ e; exact absurd e (by decide)) T1.out.2.2.2.1 hp.chg (fun i hi => hi)
      obtain ⟨A1, hA1⟩ := t1.ptr_form
      obtain ⟨A2, hA2⟩ := t2.ptr_form
      have HA := Lib.hid (And.intro hA1 hA2)
      rw [hA1, hA2]
      have W2 := Lib.hid (And.intro b2 (And.intro l2 (And.intro o2 (And.intro v2 (And.intro q2 g2)))))
      clear hp k1 k2 l2 o2 v2 q2 g2 hA1 hA2 e32 e33 el b2
      obtain ⟨-, -, -, -, -, -, -, -, -, -, -, -, -, -, -, -, -, -, -, -, -, -, -, -, -, -, -, -, -, -, -, -, e32, e33, el⟩ := nO_facts W2.out.1
      have hfr := fun j => blk_free W2.out.1 j
      go_wp2_with fail
      clear e32 e33 el hfr
      change Calls _ _ _ (w2.setCell ⟨b, 32, none⟩ (.pointer A2)) _
      have hc3 : Chg (fun k => k = b) w2 (w2.setCell ⟨b, 32, none⟩ (.pointer A2)) := (Chg.refl (fun k => k = b) w2).setCell (p := ⟨b, 32, none⟩) (.inl rfl) _
      have b3 := blk_set W2.out.1 32 (.pointer A2)
      simp only [List.setIfInBounds_toArray, List.set_cons_zero, List.set_cons_succ] at b3
      have hn1 : b ∉ t1.blks := fun hi => HD.out.1 (P2.out.perm.mem_iff.1 (List.mem_append_left _ hi))
      have hn2 : b ∉ t2.blks := fun hi => HD.out.1 (P2.out.perm.mem_iff.1 (List.mem_append_right _ hi))
      have t13 := P2.out.a1.skip W2.out.1 hn1 hc3
      have t23 := P2.out.a2.skip W2.out.1 hn2 hc3
      have l3 := W2.out.2.1.skip W2.out.1 HD.out.2.1 hc3
      have o3 := W2.out.2.2.1.skip W2.out.1 hc3
      have v3 := W2.out.2.2.2.1.skip W2.out.1 hc3
      have q3 := W2.out.2.2.2.2.1.skip W2.out.1 hc3
      have g3 := hc3.obj W2.out.2.2.2.2.2 (fun e => by
        have h1 := W2.out.2.2.2.2.2
        rw [show g = b from e, W2.out.1] at h1
        unfold nO tO at h1
        injection h1 with h1
        injection h1 with _ h1
        exact absurd h1 (by decide))
      have n3 : TrAt (w2.setCell ⟨b, 32, none⟩ (.pointer A2)) (.node b x o ov a av m q t2 r) := ⟨by rw [HA.out.2]; exact b3, o3, v3, t23, l3⟩
      have HC3 := Lib.hid hc3
      have N3 := Lib.hid (And.intro n3 (And.intro t13 (And.intro hn2 hn1)))
      clear t13 t23 l3 o3 v3 hc3 hn1 hn2 n3
      have hs1 := K2.out.2.size
      have hs2 := HOK.out.2.1.size
      have hlen := gd_len HGG.out.1
      rw [HM.out.2] at hlen
      simp only [List.length_append, List.length_cons] at hlen
      generalize w2.setCell ⟨b, 32, none⟩ (.pointer A2) = w3 at *
      refine (renew_any g3 q3 N3.out.1 N3.out.2.2.1 HD.out.2.1 (by omega) (by omega)).mono ?_
      rintro e w4 ⟨av', rfl, ht4, hav, hc4⟩
      have t24 := N3.out.2.1.skip N3.out.1.1 N3.out.2.2.2 hc4
      have HS := Lib.hid (And.intro hs1 hs2)
      have R4 := Lib.hid (And.intro ht4 (And.intro hav (And.intro hc4 t24)))
      clear ht4 hav hc4 t24 g3 q3 b3 hs1 hs2 hlen
      go_wp2_with fail
      refine bodyPost_ret (results_tmp2 rfl _ _ _) rfl ⟨t1, .node b x o ov (allN bs o t2 r) av' (t2.size + 1 + r.size) q t2 r, by rw [HA.out.1]; rfl, ⟨R4.out.2.2.2, R4.out.1, ?_, fun k hk => ?_, ?_⟩, K2.out.1, ⟨M, Lb, HM.out.1, K2.out.2, HOK.out.2.1, HOK.out.2.2.1, ?_, ?_, HOK.out.2.2.2⟩⟩
      · refine List.perm_iff_count.2 fun c => ?_
        have := List.perm_iff_count.1 P2.out.perm c
        simp only [PT.blks, List.cons_append, List.count_cons, List.count_append] at this ⊢
        omega
      · simp only [PT.hbs, List.mem_append] at hk ⊢
        have hz : w.heap.size ≤ w3.heap.size := by
          have := C1.out.size
          have := P2.out.chg.size
          have := HC3.out.size
          omega
        rcases hk with hk | ((hk | hk) | hk | hk)
        · rcases P2.out.hb k (.inl hk) with h | h
          · exact .inl (.inr (.inl h))
          · exact .inr (Nat.le_trans C1.out.size h)
        · exact .inl (.inl (.inl hk))
        · exact .inr (Nat.le_trans hz (R4.out.2.1 k (by simpa using hk)))
        · rcases P2.out.hb k (.inr hk) with h | h
          · exact .inl (.inr (.inl h))
          · exact .inr (Nat.le_trans C1.out.size h)
        · exact .inl (.inr (.inr hk))
      · refine (((Chg.of_below C1.out).trans P2.out.chg (fun i _ hi => ?_)).trans HC3.out (fun i _ hi => ?_)).trans R4.out.2.2.1 (fun i _ hi => ?_)
        · simp [PT.blks, hi]
        · rw [show i = b from hi]; exact List.mem_cons_self ..
        · rw [show i = b from hi]; exact List.mem_cons_self ..
      · have hg1 : Gd bs s (its bs (M ++ x :: Lb)) := by
          have := HGD.out
          rw [HLE.out.2, HM.out.1] at this
          exact gd_right this
        rw [HOK.out.2.2.1, HM.out.1]
        exact allN_ok K2.out.2 HOK.out.2.1 hg1
      · rw [HS.out.1, HS.out.2, HM.out.1]
        simp only [List.length_append, List.length_cons]
        omega
end Go.Proofs.Ytfgabafbcephaaa.My

namespace Go.Proofs.Ytfgabafbcephaaa.My
open Go.RowKit Pa Go.Proofs.YtfgabafbcephaaaW.PrintWords
set_option linter.unusedSimpArgs false
def AllParts (w : World) (S : Nat → Prop) : Prop := ∀ i, S i → ∃ cs, w.heap[i]? = some (.cells cs 108 (0, 0))
theorem TrAt.parts {w w1 : World} {S : Nat → Prop} {u : PT} (h : TrAt w u) (hc : Chg S w w1) (hp : AllParts w S) (hn : ∀ i ∈ u.blks, ¬ S i) : TrAt w1 u :=
  h.keep hc hn (fun i hi hs => by
    obtain ⟨cs, h1⟩ := hp i hs
    obtain ⟨ds, h2⟩ := h.kind.2 i hi
    rw [h1] at h2
    injection h2 with h2
    injection h2 with _ h2
    exact absurd h2 (by decide))
theorem Own.parts {w w1 : World} {S : Nat → Prop} {v : Value} {l : List Int} (h : Own w 0 v l) (hc : Chg S w w1) (hp : AllParts w S) : Own w1 0 v l :=
  h.keep hc (fun k hk hs => by
    obtain ⟨cs, h1⟩ := hp k hs
    exact row_noq h h1 (by decide) hk.symm)
theorem obj_parts {w w1 : World} {S : Nat → Prop} {g : Nat} {ob : Obj} (h : w.heap[g]? = some ob) (hf : ∀ cs, ob ≠ .cells cs 108 (0, 0)) (hc : Chg S w w1) (hp : AllParts w S) : w1.heap[g]? = some ob :=
  hc.obj h (fun hs => by
    obtain ⟨cs, h1⟩ := hp g hs
    rw [h] at h1
    injection h1 with h1
    exact hf cs h1)
theorem tO_far (bv rv : Value) : ∀ cs, tO bv rv ≠ .cells cs 108 (0, 0) := fun cs e => by
  unfold tO at e
  injection e with _ e
  exact absurd e (by decide)
def PT.cnt : PT → Nat
  | .nil => 0
  | .node _ _ _ _ _ _ _ _ l r => l.cnt + 1 + r.cnt
structure Merged (w w' : World) (t1 t2 t : PT) : Prop where
  a : TrAt w' t
  perm : t.blks.Perm (t1.blks ++ t2.blks)
  hb : ∀ k, k ∈ t.hbs → (k ∈ t1.hbs ∨ k ∈ t2.hbs) ∨ w.heap.size ≤ k
  chg : Chg (fun k => k ∈ t1.blks ∨ k ∈ t2.blks) w w'
set_option maxHeartbeats 16000000 in
set_option maxRecDepth 100000 in
theorem merge_any {g : Nat} {bv rv : Value} {bs : List Int} {s : Int} :
    ∀ (n : Nat) (t1 t2 : PT) (L1 L2 : List S34) (w : World), t1.cnt + t2.cnt ≤ n → w.heap[g]? = some (tO bv rv) → Own w 0 bv bs → TrAt w t1 → TrAt w t2 → (t1.blks ++ t2.blks).Nodup → TOk bs t1 L1 → TOk bs t2 L2 → Gd bs s (its bs (L1 ++ L2)) →
    Calls Try.prog 64 #[.pointer (some ⟨g, 0, none⟩), t1.ptr, t2.ptr] w fun e w' => ∃ t, e = .returned t.ptr ∧ Merged w w' t1 t2 t ∧ TOk bs t (L1 ++ L2) := by
  intro n
  induction n with
  | zero =>
    intro t1 t2 L1 L2 w hn hg hbo h1 h2 hnd k1 k2 gd
    cases t1 with
    | node => simp [PT.cnt] at hn
    | nil =>
      cases t2 with
      | node => simp [PT.cnt] at hn
      | nil =>
        have e1 : L1 = [] := k1
        have e2 : L2 = [] := k2
        have HE := Lib.hid (And.intro e1 e2)
        clear hn hg hbo h1 h2 hnd k1 k2 gd e1 e2
        show Calls _ _ #[_, .pointer none, .pointer none] _ _
        go_enter Try.func64, Try.ntmps64
        go_wp2_with fail
        go_ret
        refine ⟨.nil, rfl, ⟨trivial, List.Perm.refl _, (fun k hk => by cases hk), Chg.refl _ _⟩, ?_⟩
        rw [HE.out.1, HE.out.2]
        rfl
  | succ n ih =>
    intro t1 t2 L1 L2 w hn hg hbo h1 h2 hnd k1 k2 gd
    cases t1 with
    | nil =>
      have e1 : L1 = [] := k1
      obtain ⟨A, hA⟩ := t2.ptr_form
      have HE := Lib.hid (And.intro e1 (And.intro h2 (And.intro k2 hA)))
      rw [hA]
      clear hn hg hbo h1 h2 hnd k1 k2 gd e1 ih hA
      show Calls _ _ #[_, .pointer none, _] _ _
      go_enter Try.func64, Try.ntmps64
      go_wp2_with fail
      go_ret
      refine ⟨t2, by rw [HE.out.2.2.2]; rfl, ⟨HE.out.2.1, by simp [PT.blks], fun k hk => .inl (.inr hk), Chg.refl _ _⟩, ?_⟩
      rw [HE.out.1]
      exact HE.out.2.2.1
    | node b1 x1 o1 ov1 a1 av1 m1 q1 l1 r1 =>
      cases t2 with
      | nil =>
        have e2 : L2 = [] := k2
        have HE := Lib.hid (And.intro e2 (And.intro h1 k1))
        clear hn hg hbo h1 h2 hnd k1 k2 gd e2 ih
        show Calls _ _ #[_, .pointer (some ⟨b1, 0, none⟩), .pointer none] _ _
        go_enter Try.func64, Try.ntmps64
        go_wp2_with fail
        go_ret
        refine ⟨_, rfl, ⟨HE.out.2.1, by rw [show PT.nil.blks = [] from rfl, List.append_nil], fun k hk => .inl (.inl hk), Chg.refl _ _⟩, ?_⟩
        rw [HE.out.1, List.append_nil]
        exact HE.out.2.2
      | node b2 x2 o2 ov2 a2 av2 m2 q2 l2 r2 =>
        have HN := Lib.hid hn
        have HG := Lib.hid hg
        have HBO := Lib.hid hbo
        have T1 := Lib.hid h1
        have T2 := Lib.hid h2
        have HND := Lib.hid hnd
        have K1 := Lib.hid k1
        have K2 := Lib.hid k2
        have HGD := Lib.hid gd
        have HI := Lib.hid ih
        clear hn hg hbo h1 h2 hnd k1 k2 gd ih
        obtain ⟨-, -, -, -, -, -, -, -, -, -, -, -, -, -, -, -, -, -, -, -, -, -, -, -, -, -, -, -, -, -, -, e31, -, e33, el⟩ := nO_facts T1.out.1
        obtain ⟨-, -, -, -, -, -, -, -, -, -, -, -, -, -, -, -, -, -, -, -, -, -, -, -, -, -, -, -, -, -, -, f31, f32, -, fl⟩ := nO_facts T2.out.1
        show Calls _ _ #[_, .pointer (some ⟨b1, 0, none⟩), .pointer (some ⟨b2, 0, none⟩)] _ _
        go_enter Try.func64, Try.ntmps64
        go_wp2_with fail
        refine Txt.wp_region_mix (by kernel_rfl) (by kernel_rfl) (fun HB => ?_)
        repeat (first
          | (refine Txt.mix_p (by rfl) rfl rfl (fun K hK => ?_); go_big_quiet_op; refine hK _ ?_; clear hK K)
          | (refine Txt.mix_re (by rfl) (by decide +kernel) (by rfl) (by rfl) (by go_simp) HB (fun K hK => ?_); go_big_quiet_op; refine hK _ ?_; clear hK K)
          | (refine Txt.mix_rl (by rfl) (by decide +kernel) (by rfl) (by rfl) (by go_simp) HB (fun K hK => ?_); go_big_quiet_op; refine hK _ ?_; clear hK K)
          | (refine Txt.mix_pass (by rfl) (by rfl) ?_; simp only [List.set_cons_succ, List.set_cons_zero]))
        refine Txt.mix_nil ?_
        by_cases hq : q2 < q1
        · have hd : decide (q2 < q1) = true := decide_eq_true hq
          go_wp2_with fail
          have hb : Below w.heap.size w w.drew := (Below.refl _ _).drew
          have S1 := Lib.hid (T1.out.below hb)
          have S2 := Lib.hid (T2.out.below hb)
          have G1 := Lib.hid (blk_below HG.out hb)
          have B1 := Lib.hid (Own.below HBO.out hb)
          have HB0 := Lib.hid hb
          have hnd := HND.out
          simp only [PT.blks, List.cons_append, List.nodup_cons, List.mem_append, List.mem_cons, not_or, List.nodup_append] at hnd
          have HD := Lib.hid hnd
          clear hb hnd e31 e33 el f31 f32 fl hd
          generalize w.drew = w1 at *
          have hn := HN.out
          simp only [PT.cnt] at hn
          obtain ⟨La, Lb, hL, kl, kr, ho, ha, hm, hq0⟩ := K1.out
          have hgd := HGD.out
          rw [hL, List.append_assoc, List.cons_append] at hgd
          have hgr := gd_right (L := La ++ [x1]) (M := Lb ++ L2) (by rw [List.append_assoc]; exact hgd)
          have HGG := Lib.hid (And.intro hgd hgr)
          have HLL := Lib.hid (And.intro hL (And.intro kl (And.intro kr (And.intro ho hq0))))
          refine (HI.out r1 (.node b2 x2 o2 ov2 a2 av2 m2 q2 l2 r2) Lb L2 w1 (by simp only [PT.cnt]; omega) G1.out B1.out S1.out.2.2.2.2 S2.out ?_ kr K2.out HGG.out.2).mono ?_
          · exact HND.out.sublist (List.Sublist.append ((List.sublist_append_right _ _).cons _) (List.Sublist.refl _))
          clear hgd hgr hL kl kr ho ha hm hq0 hn
          rintro e w2 ⟨t, rfl, hp, kt⟩
          obtain ⟨n1, n2, dis⟩ := List.nodup_append.1 HND.out
          have n0 := n1
          simp only [PT.blks, List.nodup_cons, List.mem_append, not_or, List.nodup_append] at n0
          obtain ⟨⟨hbl, hbr⟩, ndl, ndr, d1⟩ := n0
          have hpp : AllParts w1 (fun k => k ∈ r1.blks ∨ k ∈ (PT.node b2 x2 o2 ov2 a2 av2 m2 q2 l2 r2).blks) := fun i hi => hi.elim (fun h => S1.out.2.2.2.2.kind.1 i h) (fun h => S2.out.kind.1 i h)
          have hbS : ¬ (b1 ∈ r1.blks ∨ b1 ∈ (PT.node b2 x2 o2 ov2 a2 av2 m2 q2 l2 r2).blks) := fun h => h.elim hbr (fun h => dis b1 (List.mem_cons_self ..) b1 h rfl)
          have b2' := hp.chg.obj S1.out.1 hbS
          have l2' := S1.out.2.2.2.1.parts hp.chg hpp (fun i hi hs => hs.elim (fun h => d1 i hi i h rfl) (fun h => dis i (List.mem_cons_of_mem _ (List.mem_append_left _ hi)) i h rfl))
          have o2' := S1.out.2.1.parts hp.chg hpp
          have v2' := S1.out.2.2.1.parts hp.chg hpp
          have q2' := B1.out.parts hp.chg hpp
          have g2' := obj_parts G1.out (tO_far _ _) hp.chg hpp
          have hnt : b1 ∉ t.blks := fun hi => hbS (by have := hp.perm.mem_iff.1 hi; exact List.mem_append.1 this)
          have P2 := Lib.hid hp
          have KT := Lib.hid kt
          have W2 := Lib.hid (And.intro b2' (And.intro l2' (And.intro o2' (And.intro v2' (And.intro q2' (And.intro g2' hnt))))))
          have HLR := Lib.hid (And.intro hbl hbr)
          obtain ⟨A1, hA1⟩ := t.ptr_form
          have HA := Lib.hid hA1
          rw [hA1]
          clear hp kt n1 n2 dis hbl hbr ndl ndr d1 hpp hbS b2' l2' o2' v2' q2' g2' hnt hA1
          obtain ⟨-, -, -, -, -, -, -, -, -, -, -, -, -, -, -, -, -, -, -, -, -, -, -, -, -, -, -, -, -, -, -, -, e32, e33, el⟩ := nO_facts W2.out.1
          have hfr := fun j => blk_free W2.out.1 j
          go_wp2_with fail
          clear e32 e33 el hfr
          change Calls _ _ _ (w2.setCell ⟨b1, 33, none⟩ (.pointer A1)) _
          have hc3 : Chg (fun k => k = b1) w2 (w2.setCell ⟨b1, 33, none⟩ (.pointer A1)) := (Chg.refl (fun k => k = b1) w2).setCell (p := ⟨b1, 33, none⟩) (.inl rfl) _
          have b3 := blk_set W2.out.1 33 (.pointer A1)
          simp only [List.setIfInBounds_toArray, List.set_cons_zero, List.set_cons_succ] at b3
          have t3 := P2.out.a.skip W2.out.1 W2.out.2.2.2.2.2.2 hc3
          have l3 := W2.out.2.1.skip W2.out.1 HLR.out.1 hc3
          have o3 := W2.out.2.2.1.skip W2.out.1 hc3
          have v3 := W2.out.2.2.2.1.skip W2.out.1 hc3
          have q3 := W2.out.2.2.2.2.1.skip W2.out.1 hc3
          have g3 := hc3.obj W2.out.2.2.2.2.2.1 (fun e => by
            have h1 := W2.out.2.2.2.2.2.1
            rw [show g = b1 from e, W2.out.1] at h1
            injection h1 with h1
            exact tO_far bv rv _ h1.symm)
          have n3 : TrAt (w2.setCell ⟨b1, 33, none⟩ (.pointer A1)) (.node b1 x1 o1 ov1 a1 av1 m1 q1 l1 t) := ⟨by rw [HA.out]; exact b3, o3, v3, l3, t3⟩
          have HC3 := Lib.hid hc3
          have N3 := Lib.hid n3
          clear t3 l3 o3 v3 hc3 n3 b3
          have hs1 := HLL.out.2.1.size
          have hs2 := KT.out.size
          have hlen := gd_len HGG.out.1
          simp only [List.length_append, List.length_cons] at hlen
          generalize w2.setCell ⟨b1, 33, none⟩ (.pointer A1) = w3 at *
          refine (renew_any g3 q3 N3.out HLR.out.1 W2.out.2.2.2.2.2.2 (by simp only [List.length_append] at hs1 hs2; omega) (by simp only [List.length_append] at hs1 hs2; omega)).mono ?_
          rintro e w4 ⟨av', rfl, ht4, hav, hc4⟩
          have HS := Lib.hid (And.intro hs1 hs2)
          have R4 := Lib.hid (And.intro ht4 (And.intro hav hc4))
          clear ht4 hav hc4 g3 q3 hs1 hs2 hlen
          go_wp2_with fail
          go_ret
          refine ⟨.node b1 x1 o1 ov1 (allN bs o1 l1 t) av' (l1.size + 1 + t.size) q1 l1 t, rfl, ⟨R4.out.1, ?_, fun k hk => ?_, ?_⟩, ⟨La, Lb ++ L2, by rw [HLL.out.1, List.append_assoc, List.cons_append], HLL.out.2.1, KT.out, HLL.out.2.2.2.1, by rw [HLL.out.2.2.2.1, HLL.out.1, List.append_assoc, List.cons_append]; exact allN_ok HLL.out.2.1 KT.out HGG.out.1, ?_, HLL.out.2.2.2.2⟩⟩
          · refine List.perm_iff_count.2 fun c => ?_
            have := List.perm_iff_count.1 P2.out.perm c
            simp only [PT.blks, List.cons_append, List.count_cons, List.count_append] at this ⊢
            omega
          · simp only [PT.hbs, List.mem_append] at hk ⊢
            have hz : w.heap.size ≤ w3.heap.size := by
              have := HB0.out.size
              have := P2.out.chg.size
              have := HC3.out.size
              omega
            rcases hk with (hk | hk) | hk | hk
            · exact .inl (.inl (.inl (.inl hk)))
            · exact .inr (Nat.le_trans hz (R4.out.2.1 k (by simpa using hk)))
            · exact .inl (.inl (.inr (.inl hk)))
            · rcases P2.out.hb k hk with (h | h) | h
              · exact .inl (.inl (.inr (.inr h)))
              · exact .inl (.inr (by simpa [PT.hbs, or_assoc] using h))
              · exact .inr (Nat.le_trans HB0.out.size h)
          · refine (((Chg.of_below HB0.out).trans P2.out.chg (fun i _ hi => ?_)).trans HC3.out (fun i _ hi => ?_)).trans R4.out.2.2 (fun i _ hi => ?_)
            · simp only [PT.blks, List.mem_cons, List.mem_append] at hi ⊢
              rcases hi with h | h
              · exact .inl (.inr (.inr h))
              · exact .inr h
            · rw [show i = b1 from hi]; exact .inl (List.mem_cons_self ..)
            · rw [show i = b1 from hi]; exact .inl (List.mem_cons_self ..)
          · rw [HS.out.1, HS.out.2, HLL.out.1]
            simp only [List.length_append, List.length_cons]
            omega
        · have hd : decide (q2 < q1) = false := decide_eq_false hq
          go_wp2_with fail
          have hb : Below w.heap.size w w.drew := (Below.refl _ _).drew
          have S1 := Lib.hid (T1.out.below hb)
          have S2 := Lib.hid (T2.out.below hb)
          have G1 := Lib.hid (blk_below HG.out hb)
          have B1 := Lib.hid (Own.below HBO.out hb)
          have HB0 := Lib.hid hb
          have hnd := HND.out
          simp only [PT.blks, List.cons_append, List.nodup_cons, List.mem_append, List.mem_cons, not_or, List.nodup_append] at hnd
          have HD := Lib.hid hnd
          clear hb hnd e31 e33 el f31 f32 fl hd
          generalize w.drew = w1 at *
          have hn := HN.out
          simp only [PT.cnt] at hn
          obtain ⟨La, Lb, hL, kl, kr, ho, ha, hm, hq0⟩ := K2.out
          have hgd := HGD.out
          rw [hL] at hgd
          have hgr := gd_left (L := L1 ++ La) (M := x2 :: Lb) (by rw [List.append_assoc]; exact hgd)
          have HGG := Lib.hid (And.intro hgd hgr)
          have HLL := Lib.hid (And.intro hL (And.intro kl (And.intro kr (And.intro ho hq0))))
          refine (HI.out (.node b1 x1 o1 ov1 a1 av1 m1 q1 l1 r1) l2 L1 La w1 (by simp only [PT.cnt]; omega) G1.out B1.out S1.out S2.out.2.2.2.1 ?_ K1.out kl HGG.out.2).mono ?_
          · exact HND.out.sublist (List.Sublist.append (List.Sublist.refl _) ((List.sublist_append_left _ _).cons _))
          clear hgd hgr hL kl kr ho ha hm hq0 hn
          rintro e w2 ⟨t, rfl, hp, kt⟩
          obtain ⟨n1, n2, dis⟩ := List.nodup_append.1 HND.out
          have n0 := n2
          simp only [PT.blks, List.nodup_cons, List.mem_append, not_or, List.nodup_append] at n0
          obtain ⟨⟨hbl, hbr⟩, ndl, ndr, d1⟩ := n0
          have hpp : AllParts w1 (fun k => k ∈ (PT.node b1 x1 o1 ov1 a1 av1 m1 q1 l1 r1).blks ∨ k ∈ l2.blks) := fun i hi => hi.elim (fun h => S1.out.kind.1 i h) (fun h => S2.out.2.2.2.1.kind.1 i h)
          have hbS : ¬ (b2 ∈ (PT.node b1 x1 o1 ov1 a1 av1 m1 q1 l1 r1).blks ∨ b2 ∈ l2.blks) := fun h => h.elim (fun h => dis b2 h b2 (List.mem_cons_self ..) rfl) hbl
          have b2' := hp.chg.obj S2.out.1 hbS
          have l2' := S2.out.2.2.2.2.parts hp.chg hpp (fun i hi hs => hs.elim (fun h => dis i h i (List.mem_cons_of_mem _ (List.mem_append_right _ hi)) rfl) (fun h => d1 i h i hi rfl))
          have o2' := S2.out.2.1.parts hp.chg hpp
          have v2' := S2.out.2.2.1.parts hp.chg hpp
          have q2' := B1.out.parts hp.chg hpp
          have g2' := obj_parts G1.out (tO_far _ _) hp.chg hpp
          have hnt : b2 ∉ t.blks := fun hi => hbS (by have := hp.perm.mem_iff.1 hi; exact List.mem_append.1 this)
          have P2 := Lib.hid hp
          have KT := Lib.hid kt
          have W2 := Lib.hid (And.intro b2' (And.intro l2' (And.intro o2' (And.intro v2' (And.intro q2' (And.intro g2' hnt))))))
          have HLR := Lib.hid (And.intro hbl hbr)
          obtain ⟨A1, hA1⟩ := t.ptr_form
          have HA := Lib.hid hA1
          rw [hA1]
          clear hp kt n1 n2 dis hbl hbr ndl ndr d1 hpp hbS b2' l2' o2' v2' q2' g2' hnt hA1
          obtain ⟨-, -, -, -, -, -, -, -, -, -, -, -, -, -, -, -, -, -, -, -, -, -, -, -, -, -, -, -, -, -, -, -, e32, e33, el⟩ := nO_facts W2.out.1
          have hfr := fun j => blk_free W2.out.1 j
          go_wp2_with fail
          clear e32 e33 el hfr
          change Calls _ _ _ (w2.setCell ⟨b2, 32, none⟩ (.pointer A1)) _
          have hc3 : Chg (fun k => k = b2) w2 (w2.setCell ⟨b2, 32, none⟩ (.pointer A1)) := (Chg.refl (fun k => k = b2) w2).setCell (p := ⟨b2, 32, none⟩) (.inl rfl) _
          have b3 := blk_set W2.out.1 32 (.pointer A1)
          simp only [List.setIfInBounds_toArray, List.set_cons_zero, List.set_cons_succ] at b3
          have t3 := P2.out.a.skip W2.out.1 W2.out.2.2.2.2.2.2 hc3
          have l3 := W2.out.2.1.skip W2.out.1 HLR.out.2 hc3
          have o3 := W2.out.2.2.1.skip W2.out.1 hc3
          have v3 := W2.out.2.2.2.1.skip W2.out.1 hc3
          have q3 := W2.out.2.2.2.2.1.skip W2.out.1 hc3
          have g3 := hc3.obj W2.out.2.2.2.2.2.1 (fun e => by
            have h1 := W2.out.2.2.2.2.2.1
            rw [show g = b2 from e, W2.out.1] at h1
            injection h1 with h1
            exact tO_far bv rv _ h1.symm)
          have n3 : TrAt (w2.setCell ⟨b2, 32, none⟩ (.pointer A1)) (.node b2 x2 o2 ov2 a2 av2 m2 q2 t r2) := ⟨by rw [HA.out]; exact b3, o3, v3, t3, l3⟩
          have HC3 := Lib.hid hc3
          have N3 := Lib.hid n3
          clear t3 l3 o3 v3 hc3 n3 b3
          have hs1 := KT.out.size
          have hs2 := HLL.out.2.2.1.size
          have hlen := gd_len HGG.out.1
          simp only [List.length_append, List.length_cons] at hlen
          generalize w2.setCell ⟨b2, 32, none⟩ (.pointer A1) = w3 at *
          refine (renew_any g3 q3 N3.out W2.out.2.2.2.2.2.2 HLR.out.2 (by simp only [List.length_append] at hs1 hs2; omega) (by simp only [List.length_append] at hs1 hs2; omega)).mono ?_
          rintro e w4 ⟨av', rfl, ht4, hav, hc4⟩
          have HS := Lib.hid (And.intro hs1 hs2)
          have R4 := Lib.hid (And.intro ht4 (And.intro hav hc4))
          clear ht4 hav hc4 g3 q3 hs1 hs2 hlen
          go_wp2_with fail
          go_ret
          refine ⟨.node b2 x2 o2 ov2 (allN bs o2 t r2) av' (t.size + 1 + r2.size) q2 t r2, rfl, ⟨R4.out.1, ?_, fun k hk => ?_, ?_⟩, ⟨L1 ++ La, Lb, by rw [HLL.out.1, List.append_assoc], KT.out, HLL.out.2.2.1, HLL.out.2.2.2.1, by rw [HLL.out.2.2.2.1, HLL.out.1, ← List.append_assoc]; exact allN_ok KT.out HLL.out.2.2.1 (by rw [List.append_assoc]; exact HGG.out.1), ?_, HLL.out.2.2.2.2⟩⟩
          · refine List.perm_iff_count.2 fun c => ?_
            have := List.perm_iff_count.1 P2.out.perm c
            simp only [PT.blks, List.cons_append, List.count_cons, List.count_append] at this ⊢
            omega
          · simp only [PT.hbs, List.mem_append] at hk ⊢
            have hz : w.heap.size ≤ w3.heap.size := by
              have := HB0.out.size
              have := P2.out.chg.size
              have := HC3.out.size
              omega
            rcases hk with (hk | hk) | hk | hk
            · exact .inl (.inr (.inl (.inl hk)))
            · exact .inr (Nat.le_trans hz (R4.out.2.1 k (by simpa using hk)))
            · rcases P2.out.hb k hk with (h | h) | h
              · exact .inl (.inl (by simpa [PT.hbs, or_assoc] using h))
              · exact .inl (.inr (.inr (.inl h)))
              · exact .inr (Nat.le_trans HB0.out.size h)
            · exact .inl (.inr (.inr (.inr hk)))
          · refine (((Chg.of_below HB0.out).trans P2.out.chg (fun i _ hi => ?_)).trans HC3.out (fun i _ hi => ?_)).trans R4.out.2.2 (fun i _ hi => ?_)
            · simp only [PT.blks, List.mem_cons, List.mem_append] at hi ⊢
              rcases hi with h | h
              · exact .inl h
              · exact .inr (.inr (.inl h))
            · rw [show i = b2 from hi]; exact .inr (List.mem_cons_self ..)
            · rw [show i = b2 from hi]; exact .inr (List.mem_cons_self ..)
          · rw [HS.out.1, HS.out.2, HLL.out.1]
            simp only [List.length_append, List.length_cons]
            omega
end Go.Proofs.Ytfgabafbcephaaa.My

namespace Go.Proofs.Ytfgabafbcephaaa.My
open Go.RowKit Pa Go.Proofs.YtfgabafbcephaaaW.PrintWords
set_option linter.unusedSimpArgs false
abbrev Srt (L : List S34) : Prop := L.Pairwise (fun a b => ord a b < 0)
def hasB (x : S34) (L : List S34) : Bool := L.any (fun y => decide (ord x y = 0))
theorem ord_anti {a b : S34} : ord a b = - ord b a := by
  unfold ord
  (repeat' split) <;> omega
theorem hasB_false {x : S34} {L : List S34} (h : ∀ y ∈ L, ord x y ≠ 0) : hasB x L = false := by
  unfold hasB
  rw [List.any_eq_false]
  intro y hy
  simpa using h y hy
theorem hasB_app (x : S34) (L M : List S34) : hasB x (L ++ M) = (hasB x L || hasB x M) := List.any_append ..
theorem hasB_eq {x y : S34} {L M : List S34} (h : ord x y = 0) : hasB x (L ++ y :: M) = true := by
  rw [hasB_app]
  simp [hasB, h]
theorem hasB_lt {x y : S34} {L M : List S34} (hs : Srt (L ++ y :: M)) (h : ord x y < 0) : hasB x (L ++ y :: M) = hasB x L := by
  rw [hasB_app, hasB_false (L := y :: M), Bool.or_false]
  intro z hz
  rcases List.mem_cons.1 hz with rfl | hz
  · omega
  · have h1 := (List.pairwise_cons.1 (List.pairwise_append.1 hs).2.1).1 z hz
    have := ord_lt_trans (c := x) (b := y) (a := z) h h1
    omega
theorem hasB_gt {x y : S34} {L M : List S34} (hs : Srt (L ++ y :: M)) (h : 0 < ord x y) : hasB x (L ++ y :: M) = hasB x M := by
  have h0 : hasB x L = false := hasB_false (fun z hz => by
    have h1 := (List.pairwise_append.1 hs).2.2 z hz y (List.mem_cons_self ..)
    have h2 : ord y x < 0 := by have := ord_anti (a := y) (b := x); omega
    have := ord_lt_trans (c := z) (b := y) (a := x) h1 h2
    have := ord_anti (a := x) (b := z)
    omega)
  rw [hasB_app, h0, Bool.false_or]
  show hasB x ([y] ++ M) = _
  rw [hasB_app, hasB_false (L := [y]) (fun z hz => by rw [List.mem_singleton.1 hz]; omega), Bool.false_or]
theorem srt_left {L M : List S34} (h : Srt (L ++ M)) : Srt L := (List.pairwise_append.1 h).1
theorem srt_right {L M : List S34} (h : Srt (L ++ M)) : Srt M := (List.pairwise_append.1 h).2.1
def manyAt (w : World) (p : Value) : Nat := match p with
  | .pointer (some ad) => match w.cell? (ad.add 30) with
    | some (.int _ n) => n.toNat
    | _ => 0
  | _ => 0
theorem manyAt_eq {w : World} {bs : List Int} {t : PT} {L : List S34} (h : TrAt w t) (k : TOk bs t L) : manyAt w t.ptr = L.length := by
  cases t with
  | nil =>
    have e : L = [] := k
    rw [e]
    rfl
  | node b x o ov a av m q l r =>
    obtain ⟨-, -, -, -, -, -, -, -, -, -, -, -, -, -, -, -, -, -, -, -, -, -, -, -, -, -, -, -, -, -, e30, -⟩ := nO_facts h.1
    obtain ⟨L1, L2, -, -, -, -, -, hm, -⟩ := k
    unfold manyAt PT.ptr
    simp only [add_plain, e30, hm, Int.toNat_natCast]
set_option maxHeartbeats 8000000 in
set_option maxRecDepth 100000 in
theorem has_any {w : World} {g : Nat} {bv : Value} {bs : List Int} (t : PT) (L : List S34) (x : S34) (hg : w.heap[g]? = some (tO bv t.ptr)) (h : TrAt w t) (k : TOk bs t L) (hs : Srt L) :
    Calls Try.prog 83 #[.pointer (some ⟨g, 0, none⟩), .agg #[.int .i64 x.f0, .int .i64 x.f1, .int .i64 x.f2, .int .i64 x.f3]] w fun e w' => e = .returned (.bool (hasB x L)) ∧ Below w.heap.size w w' := by
  have hB : Below w.heap.size w (w.alloc (itO x)) := (Below.refl _ _).alloc (Nat.le_refl _) _
  have HX := Lib.hid (heap_alloc_new w (itO x))
  have HB0 := Lib.hid hB
  have HG := Lib.hid (blk_below hg hB)
  have HT := Lib.hid (h.below hB)
  have HK := Lib.hid (And.intro k hs)
  clear hg h k hs hB
  obtain ⟨A, hA⟩ := t.ptr_form
  have HA := Lib.hid hA
  go_enter Try.func83, Try.ntmps83
  obtain ⟨q0, q1, ql⟩ := tO_facts HG.out
  rw [hA] at q1
  simp only [itO] at q1 ql
  go_wp2_with fail
  clear q0 q1 ql hA
  show Code.wp _ _ _ _ (w.alloc (itO x))
  generalize w.alloc (itO x) = w1 at *
  go_loopw [5, 6] (fun p c wr => ∃ (u : PT) (M : List S34), p = u.ptr ∧ TrAt wr u ∧ Below w1.heap.size w1 wr ∧ Rel (TOk bs u M ∧ Srt M ∧ hasB x L = hasB x M)) (fun p _ wr => manyAt wr p)
  case atStart => exact ⟨t, L, by rw [HA.out], HT.out, Below.refl _ _, HK.out.1, HK.out.2, rfl⟩
  case round =>
    obtain ⟨u, M, rfl, hu, hb, hrl⟩ := hrel
    have HU := Lib.hid hu
    have HB1 := Lib.hid hb
    have HR := Lib.hid hrl
    clear hu hb hrl
    cases u with
    | nil =>
      unfold PT.ptr
      go_wp2_with fail
      go_ret
      refine ⟨?_, HB0.out.trans (HB1.out.mono HB0.out.size)⟩
      have e : M = [] := HR.out.1
      rw [HR.out.2.2, e]
      rfl
    | node b y o ov a av m q l r =>
      unfold PT.ptr
      obtain ⟨M1, M2, hM, kl, kr, -⟩ := HR.out.1
      have HM := Lib.hid (And.intro hM (And.intro kl kr))
      clear hM kl kr
      obtain ⟨e0, e1, e2, e3, -, -, -, -, -, -, -, -, -, -, -, -, -, -, -, -, -, -, -, -, -, -, -, -, -, -, -, -, e32, e33, el⟩ := nO_facts HU.out.1
      obtain ⟨x0, x1, x2, x3, xl⟩ := itO_facts (blk_below HX.out HB1.out)
      go_wp2_with fail
      refine Txt.wp_region_mix (by kernel_rfl) (by kernel_rfl) (fun HB => ?_)
      repeat (first
        | (refine Txt.mix_p (by rfl) rfl rfl (fun K hK => ?_); go_big_quiet_op; refine hK _ ?_; clear hK K)
        | (refine Txt.mix_re (by rfl) (by decide +kernel) (by rfl) (by rfl) (by go_simp) HB (fun K hK => ?_); go_big_quiet_op; refine hK _ ?_; clear hK K)
        | (refine Txt.mix_rl (by rfl) (by decide +kernel) (by rfl) (by rfl) (by go_simp) HB (fun K hK => ?_); go_big_quiet_op; refine hK _ ?_; clear hK K)
        | (refine Txt.mix_pass (by rfl) (by rfl) ?_; simp only [List.set_cons_succ, List.set_cons_zero]))
      refine Txt.mix_c (by rfl) (by decide +kernel) HB ?_
      intro w2 hw2 K hK
      replace HB := HB.trans hw2
      clear hw2
      go_wp2_with fail
      refine (ord_any x y _).mono ?_
      rintro e w3 ⟨rfl, hb⟩
      refine hK _ _ ⟨hb, ?_⟩
      replace HB := HB.trans hb
      clear hK K hb
      repeat (first
        | (refine Txt.mix_p (by rfl) rfl rfl (fun K hK => ?_); go_big_quiet_op; refine hK _ ?_; clear hK K)
        | (refine Txt.mix_re (by rfl) (by decide +kernel) (by rfl) (by rfl) (by go_simp) HB (fun K hK => ?_); go_big_quiet_op; refine hK _ ?_; clear hK K)
        | (refine Txt.mix_rl (by rfl) (by decide +kernel) (by rfl) (by rfl) (by go_simp) HB (fun K hK => ?_); go_big_quiet_op; refine hK _ ?_; clear hK K)
        | (refine Txt.mix_pass (by rfl) (by rfl) ?_; simp only [List.set_cons_succ, List.set_cons_zero]))
      refine Txt.mix_nil ?_
      have hbb := HB.undrew
      have U3 := Lib.hid (HU.out.below hbb)
      have B3 := Lib.hid (HB1.out.trans (hbb.mono HB1.out.size))
      have hmany := manyAt_eq HU.out HR.out.1
      clear HB hbb e0 e1 e2 e3 e32 e33 el x0 x1 x2 x3 xl
      obtain ⟨-, -, -, -, -, -, -, -, -, -, -, -, -, -, -, -, -, -, -, -, -, -, -, -, -, -, -, -, -, -, -, -, e32, e33, el⟩ := nO_facts U3.out.1
      obtain ⟨c, hc⟩ : ∃ c, ord x y = c := ⟨_, rfl⟩
      rw [hc]
      have HC := Lib.hid hc
      have HMY := Lib.hid hmany
      clear hc hmany
      rcases (show c = 0 ∨ c < 0 ∨ 0 < c by omega) with hc | hc | hc
      · have hd : (c == 0) = true := beq_iff_eq.2 hc
        go_wp2_with fail
        go_ret
        refine ⟨?_, HB0.out.trans (B3.out.mono HB0.out.size)⟩
        rw [HR.out.2.2, HM.out.1, hasB_eq (by rw [HC.out]; exact hc)]
        rfl
      · have hd : (c == 0) = false := beq_eq_false_iff_ne.2 (by omega)
        have hd2 : decide (c < 0) = true := decide_eq_true hc
        go_wp2_with fail
        have hs := HR.out.2.1
        rw [HM.out.1] at hs
        refine ⟨⟨l, M1, rfl, U3.out.2.2.2.1, B3.out, HM.out.2.1, srt_left hs, ?_⟩, ?_⟩
        · rw [HR.out.2.2, HM.out.1, hasB_lt hs (by rw [HC.out]; exact hc)]
        · have h1 := manyAt_eq U3.out.2.2.2.1 HM.out.2.1
          have h2 := HMY.out
          unfold PT.ptr at h2
          rw [HM.out.1] at h2
          simp only [List.length_append, List.length_cons] at h2
          show manyAt w3 l.ptr < manyAt wr _
          rw [h1, h2]
          omega
      · have hd : (c == 0) = false := beq_eq_false_iff_ne.2 (by omega)
        have hd2 : decide (c < 0) = false := decide_eq_false (by omega)
        go_wp2_with fail
        have hs := HR.out.2.1
        rw [HM.out.1] at hs
        refine ⟨⟨r, M2, rfl, U3.out.2.2.2.2, B3.out, HM.out.2.2, srt_right (L := M1 ++ [y]) (by rw [List.append_assoc]; exact hs), ?_⟩, ?_⟩
        · rw [HR.out.2.2, HM.out.1, hasB_gt hs (by rw [HC.out]; exact hc)]
        · have h1 := manyAt_eq U3.out.2.2.2.2 HM.out.2.2
          have h2 := HMY.out
          unfold PT.ptr at h2
          rw [HM.out.1] at h2
          simp only [List.length_append, List.length_cons] at h2
          show manyAt w3 r.ptr < manyAt wr _
          rw [h1, h2]
          omega
end Go.Proofs.Ytfgabafbcephaaa.My

namespace Go.Proofs.Ytfgabafbcephaaa.My
open Go.RowKit Pa Go.Proofs.YtfgabafbcephaaaW.PrintWords
set_option linter.unusedSimpArgs false
set_option maxHeartbeats 4000000 in
set_option maxRecDepth 100000 in
theorem tells_evict (xb : Nat) (v : Int) : Tells 72 xb (.cells #[.int .i64 v] 3) (fun x => decide (x.f1 < v)) where
  cf := fun args w => by go_simp
  far := fun cs e => by
    injection e with _ e
    exact absurd e (by decide)
  cl := fun w b x o ov a av m q lv rv hx hb => by
    obtain ⟨-, e1, -, -, -, -, -, -, -, -, -, -, -, -, -, -, -, -, -, -, -, -, -, -, -, -, -, -, -, -, -, -, -, -, el⟩ := nO_facts hb
    have f0 : w.cell? ⟨xb, 0, none⟩ = some (.int .i64 v) := (blk_cell hx 0).trans rfl
    have fl := blk_lt hx
    clear hb hx
    go_enter Try.func72, Try.ntmps72
    go_wp2_with fail
    refine Txt.wp_region_mix (by kernel_rfl) (by kernel_rfl) (fun HB => ?_)
    repeat (first
      | (refine Txt.mix_p (by rfl) rfl rfl (fun K hK => ?_); go_big_quiet_op; refine hK _ ?_; clear hK K)
      | (refine Txt.mix_re (by rfl) (by decide +kernel) (by rfl) (by rfl) (by go_simp) HB (fun K hK => ?_); go_big_quiet_op; refine hK _ ?_; clear hK K)
      | (refine Txt.mix_rl (by rfl) (by decide +kernel) (by rfl) (by rfl) (by go_simp) HB (fun K hK => ?_); go_big_quiet_op; refine hK _ ?_; clear hK K)
      | (refine Txt.mix_pass (by rfl) (by rfl) ?_; simp only [List.set_cons_succ, List.set_cons_zero]))
    refine Txt.mix_nil ?_
    go_wp2_with fail
    go_ret
    exact ⟨rfl, (Below.refl _ _).drew⟩
set_option maxHeartbeats 4000000 in
set_option maxRecDepth 100000 in
theorem tells_insert (xb : Nat) (y : S34) : Tells 62 xb (itO y) (fun x => decide (ord x y < 0)) where
  cf := fun args w => by go_simp
  far := fun cs e => by
    unfold itO at e
    injection e with _ e
    exact absurd e (by decide)
  cl := fun w b x o ov a av m q lv rv hx hb => by
    obtain ⟨e0, e1, e2, e3, -, -, -, -, -, -, -, -, -, -, -, -, -, -, -, -, -, -, -, -, -, -, -, -, -, -, -, -, -, -, el⟩ := nO_facts hb
    obtain ⟨f0, f1, f2, f3, fl⟩ := itO_facts hx
    clear hb hx
    go_enter Try.func62, Try.ntmps62
    go_wp2_with fail
    refine Txt.wp_region_mix (by kernel_rfl) (by kernel_rfl) (fun HB => ?_)
    repeat (first
      | (refine Txt.mix_p (by rfl) rfl rfl (fun K hK => ?_); go_big_quiet_op; refine hK _ ?_; clear hK K)
      | (refine Txt.mix_re (by rfl) (by decide +kernel) (by rfl) (by rfl) (by go_simp) HB (fun K hK => ?_); go_big_quiet_op; refine hK _ ?_; clear hK K)
      | (refine Txt.mix_rl (by rfl) (by decide +kernel) (by rfl) (by rfl) (by go_simp) HB (fun K hK => ?_); go_big_quiet_op; refine hK _ ?_; clear hK K)
      | (refine Txt.mix_pass (by rfl) (by rfl) ?_; simp only [List.set_cons_succ, List.set_cons_zero]))
    refine Txt.mix_c (by rfl) (by decide +kernel) HB ?_
    intro w1 hw1 K hK
    replace HB := HB.trans hw1
    clear hw1
    go_wp2_with fail
    refine (ord_any x y _).mono ?_
    rintro e w2 ⟨rfl, hb⟩
    refine hK _ _ ⟨hb, ?_⟩
    replace HB := HB.trans hb
    clear hK K hb
    repeat (first
      | (refine Txt.mix_p (by rfl) rfl rfl (fun K hK => ?_); go_big_quiet_op; refine hK _ ?_; clear hK K)
      | (refine Txt.mix_re (by rfl) (by decide +kernel) (by rfl) (by rfl) (by go_simp) HB (fun K hK => ?_); go_big_quiet_op; refine hK _ ?_; clear hK K)
      | (refine Txt.mix_rl (by rfl) (by decide +kernel) (by rfl) (by rfl) (by go_simp) HB (fun K hK => ?_); go_big_quiet_op; refine hK _ ?_; clear hK K)
      | (refine Txt.mix_pass (by rfl) (by rfl) ?_; simp only [List.set_cons_succ, List.set_cons_zero]))
    refine Txt.mix_nil ?_
    go_wp2_with fail
    go_ret
    exact ⟨rfl, HB.undrew⟩
set_option maxHeartbeats 4000000 in
set_option maxRecDepth 100000 in
theorem tnew_any (bs : List Int) (A : Option Addr) (c : Nat) (w : World) (hr : RdI w A bs) (hc : bs.length ≤ c) :
    Calls Try.prog 29 #[.slice A bs.length c] w fun e w' =>
      (bmay bs = false ∧ e = .returned (.tuple #[.pointer none, .int .i64 1900]) ∧ Below w.heap.size w w') ∨
      (bmay bs = true ∧ ∃ (g : Nat) (bv : Value), e = .returned (.tuple #[.pointer (some ⟨g, 0, none⟩), .int .i64 0]) ∧ w'.heap[g]? = some (tO bv (.pointer none)) ∧ Own w' w.heap.size bv bs ∧ w.heap.size ≤ g ∧ Below w.heap.size w w') := by
  have HR := Lib.hid hr
  have HC := Lib.hid hc
  clear hr hc
  go_enter Try.func29, Try.ntmps29
  go_wp2_with fail
  refine (bm_any bs A c w HR.out HC.out).mono ?_
  rintro e w1 ⟨rfl, hb⟩
  have HB1 := Lib.hid hb
  have HR1 := Lib.hid (RdI.below HR.out hb)
  clear hb
  by_cases hm : bmay bs = true
  · rw [hm]
    have HM := Lib.hid hm
    have hl := bmay_len hm
    clear hm
    go_wp2_with fail
    refine (clone_any A c bs w1 HR1.out HC.out (by omega)).mono ?_
    rintro e w2 ⟨v, rfl, ho, hb⟩
    have how := own_of_r ho
    obtain ⟨A2, c2, rfl, _, _⟩ := how.reads
    have hal : Below w2.heap.size w2 (w2.alloc (tO (.slice A2 bs.length c2) (.pointer none))) := (Below.refl _ _).alloc (Nat.le_refl _) _
    have HV := Lib.hid (heap_alloc_new w2 (tO (.slice A2 bs.length c2) (.pointer none)))
    have HO := Lib.hid (show Own _ w.heap.size _ _ from own_weaken (Own.below how hal) HB1.out.size)
    have HB2 := Lib.hid (HB1.out.trans ((hb.trans (hal.mono hb.size)).mono HB1.out.size))
    have HS := Lib.hid (show w.heap.size ≤ w2.heap.size from Nat.le_trans HB1.out.size hb.size)
    clear how ho hb hal hl
    go_wp2_with fail
    show bodyPost _ _ _ _ _ (w2.alloc (tO (.slice A2 bs.length c2) (.pointer none)))
    refine bodyPost_ret (results_tmp2 rfl _ _ _) rfl (.inr ⟨HM.out, _, _, rfl, HV.out, HO.out, HS.out, HB2.out⟩)
  · have hm' : bmay bs = false := by simpa using hm
    rw [hm']
    have HM := Lib.hid hm'
    clear hm hm'
    go_wp2_with fail
    exact bodyPost_ret (results_tmp2 rfl _ _ _) rfl (.inl ⟨HM.out, rfl, HB1.out⟩)
end Go.Proofs.Ytfgabafbcephaaa.My

namespace Go.Proofs.Ytfgabafbcephaaa.My
open Go.RowKit Pa Go.Proofs.YtfgabafbcephaaaW.PrintWords
set_option linter.unusedSimpArgs false
def inS (S E : Int) (x : S34) : Bool := decide (S ≤ x.f1) && decide (x.f1 < E)
def flt (S E : Int) (L : List S34) : List S34 := L.filter (inS S E)
theorem flt_app (S E : Int) (L M : List S34) : flt S E (L ++ M) = flt S E L ++ flt S E M := List.filter_append ..
theorem ord_time {a b : S34} (h : ord a b < 0) : a.f1 ≤ b.f1 := by
  unfold ord at h
  (repeat' split at h) <;> omega
theorem flt_all {S E : Int} {L : List S34} (h1 : ∀ x ∈ L, S ≤ x.f1) (h2 : ∀ x ∈ L, x.f1 < E) : flt S E L = L := List.filter_eq_self.2 (fun x hx => by
  unfold inS
  rw [decide_eq_true (h1 x hx), decide_eq_true (h2 x hx)]
  rfl)
theorem flt_none {S E : Int} {L : List S34} (h : ∀ x ∈ L, x.f1 < S ∨ E ≤ x.f1) : flt S E L = [] := List.filter_eq_nil_iff.2 (fun x hx => by
  unfold inS
  rcases h x hx with h | h
  · rw [decide_eq_false (show ¬ S ≤ x.f1 by omega)]
    simp
  · rw [decide_eq_false (show ¬ x.f1 < E by omega)]
    simp)
theorem flt_gd {bs : List Int} {s S E : Int} {L : List S34} (h : Gd bs s (its bs L)) : Gd bs s (its bs (flt S E L)) := by
  refine ⟨h.b, fun y hy => ?_, ?_⟩
  · obtain ⟨x, hx, rfl⟩ := List.mem_map.1 hy
    exact h.z _ (List.mem_map.2 ⟨x, (List.mem_filter.1 hx).1, rfl⟩)
  · have h1 := gd_len h
    unfold its flt
    rw [cnt_map]
    have := List.length_filter_le (inS S E) L
    omega
theorem srt_time {L M : List S34} {x : S34} (h : Srt (L ++ x :: M)) : (∀ y ∈ L, y.f1 ≤ x.f1) ∧ (∀ y ∈ M, x.f1 ≤ y.f1) :=
  ⟨fun y hy => ord_time ((List.pairwise_append.1 h).2.2 y hy x (List.mem_cons_self ..)), fun y hy => ord_time ((List.pairwise_cons.1 (List.pairwise_append.1 h).2.1).1 y hy)⟩
theorem flt_right {S E : Int} {L M : List S34} {x : S34} (h : Srt (L ++ x :: M)) (hx : x.f1 < S) : flt S E (L ++ x :: M) = flt S E M := by
  rw [flt_app, flt_none (fun y hy => .inl (by have := (srt_time h).1 y hy; omega)), List.nil_append]
  show flt S E ([x] ++ M) = _
  rw [flt_app, flt_none (L := [x]) (fun y hy => by rw [List.mem_singleton.1 hy]; exact .inl hx), List.nil_append]
theorem flt_left {S E : Int} {L M : List S34} {x : S34} (h : Srt (L ++ x :: M)) (hx : E ≤ x.f1) : flt S E (L ++ x :: M) = flt S E L := by
  rw [flt_app, flt_none (L := x :: M) (fun y hy => by
    rcases List.mem_cons.1 hy with rfl | hy
    · exact .inr hx
    · have := (srt_time h).2 y hy
      exact .inr (by omega)), List.append_nil]
theorem flt_mid {S E : Int} {L M : List S34} {x : S34} (h1 : S ≤ x.f1) (h2 : x.f1 < E) : flt S E (L ++ x :: M) = flt S E L ++ x :: flt S E M := by
  rw [flt_app]
  show _ ++ flt S E ([x] ++ M) = _
  rw [flt_app, flt_all (L := [x]) (fun y hy => by rw [List.mem_singleton.1 hy]; exact h1) (fun y hy => by rw [List.mem_singleton.1 hy]; exact h2)]
  rfl
def sO (S E : Int) : Obj := .cells #[.int .i64 S, .int .i64 E] 67
theorem sO_facts {w : World} {g : Nat} {S E : Int} (h : w.heap[g]? = some (sO S E)) : w.cell? ⟨g, 0, none⟩ = some (.int .i64 S) ∧ w.cell? ⟨g, 1, none⟩ = some (.int .i64 E) ∧ g < w.heap.size :=
  ⟨(blk_cell h 0).trans rfl, (blk_cell h 1).trans rfl, blk_lt h⟩
def Told (w w' : World) (J : S36) (e : Ending) : Prop := ∃ A c, e = .returned (acV J (.slice A J.f6.length c)) ∧ Own w' 0 (.slice A J.f6.length c) J.f6 ∧ Below w.heap.size w w'
def LowOk (low : Bool) (S : Int) (L : List S34) : Prop := low = true → ∀ x ∈ L, S ≤ x.f1
def HighOk (high : Bool) (E : Int) (L : List S34) : Prop := high = true → ∀ x ∈ L, x.f1 < E
theorem LowOk.sub {low : Bool} {S : Int} {L M : List S34} (h : LowOk low S L) (hi : ∀ y ∈ M, y ∈ L) : LowOk low S M := fun e y hy => h e y (hi y hy)
theorem HighOk.sub {high : Bool} {E : Int} {L M : List S34} (h : HighOk high E L) (hi : ∀ y ∈ M, y ∈ L) : HighOk high E M := fun e y hy => h e y (hi y hy)
set_option maxHeartbeats 16000000 in
set_option maxRecDepth 100000 in
theorem over_any {g : Nat} {bv rv : Value} {bs : List Int} {s : Int} {sb : Nat} {S E : Int} :
    ∀ (t : PT) (L : List S34) (low high : Bool) (w : World), w.heap[g]? = some (tO bv rv) → Own w 0 bv bs → w.heap[sb]? = some (sO S E) → TrAt w t → TOk bs t L → Srt L → Gd bs s (its bs L) → LowOk low S L → HighOk high E L →
    Calls Try.prog 70 #[.pointer (some ⟨g, 0, none⟩), t.ptr, .pointer (some ⟨sb, 0, none⟩), .bool low, .bool high] w fun e w' => Told w w' (joinA bs (its bs (flt S E L))) e := by
  intro t
  induction t with
  | nil =>
    intro L low high w hg hbo hsb ht k hs gd hlow hhigh
    have hB : Below w.heap.size w (w.alloc (acO z36 (.slice none 0 0))) := (Below.refl w.heap.size w).alloc (Nat.le_refl _) _
    have HZ := Lib.hid (heap_alloc_new w (acO z36 (.slice none 0 0)))
    have HX := Lib.hid hB
    have HG := Lib.hid (blk_below hg hB)
    have HBO := Lib.hid (Own.below hbo hB)
    have e : L = [] := k
    have HE := Lib.hid (show (PT.nil).sum bs = joinA bs (its bs (flt S E L)) from by
      rw [e] at gd ⊢
      exact TOk.sum (t := .nil) (L := []) rfl gd)
    clear hg hbo hsb ht k hs gd hlow hhigh hB e
    show Calls _ _ #[_, .pointer none, _, _, _] _ _
    go_enter Try.func70, Try.ntmps70
    go_wp2_with fail
    show Calls _ _ _ (w.alloc (acO z36 (.slice none 0 0))) _
    generalize w.alloc (acO z36 (.slice none 0 0)) = w1 at *
    refine (tsum_own (tO_facts HG.out).1 HBO.out .nil trivial).mono ?_
    rintro e w2 ⟨A2, c2, rfl, how, hb⟩
    rw [HE.out] at how ⊢
    obtain ⟨o, hJ⟩ : ∃ o, joinA bs (its bs (flt S E L)) = o := ⟨_, rfl⟩
    rw [hJ] at how ⊢
    have HJ := Lib.hid hJ
    clear hJ
    have HZ2 := Lib.hid (blk_below HZ.out hb)
    have HB2 := Lib.hid (HX.out.trans (hb.mono HX.out.size))
    have R2 := Lib.hid how
    clear hb how HX HZ HE
    simp only [acV]
    obtain ⟨z0, z1, z2, z3, z4, z5, z6, z7, z8, z9, z10, z11, z12, zl⟩ := acO_facts HZ2.out
    have hf := fun j => blk_free HZ2.out j
    go_wp2_with fail
    show bodyPost _ _ _ _ _ (putA w2 w.heap.size o (.slice A2 o.f6.length c2))
    have hz2 := putA_blk (a := o) (v := .slice A2 o.f6.length c2) HZ2.out
    have hch := putA_chg w2 w.heap.size o (.slice A2 o.f6.length c2)
    exact bodyPost_ret (results_ac1 rfl _ _ w.heap.size o (.slice A2 o.f6.length c2) rfl hz2) rfl ⟨A2, c2, by rw [HJ.out], by rw [HJ.out]; exact R2.out.keep hch (fun k hk e => own_no R2.out HZ2.out (by rw [hk, e])), Chg.base HB2.out hch HB2.out.size (fun i hi => by omega)⟩
  | node b x o ov a av m q l r ihl ihr =>
    intro L low high w hg hbo hsb ht k hs gd hlow hhigh
    have hB : Below w.heap.size w (w.alloc (acO z36 (.slice none 0 0))) := (Below.refl w.heap.size w).alloc (Nat.le_refl _) _
    have HZ := Lib.hid (heap_alloc_new w (acO z36 (.slice none 0 0)))
    have HX := Lib.hid hB
    have HG := Lib.hid (blk_below hg hB)
    have HBO := Lib.hid (Own.below hbo hB)
    have HSB := Lib.hid (blk_below hsb hB)
    have HT := Lib.hid (ht.below hB)
    have HK := Lib.hid k
    have HS := Lib.hid (And.intro hs gd)
    have HLH := Lib.hid (And.intro hlow hhigh)
    have HIL := Lib.hid ihl
    have HIR := Lib.hid ihr
    clear hg hbo hsb ht k hs gd hlow hhigh hB ihl ihr
    show Calls _ _ #[_, .pointer (some ⟨b, 0, none⟩), _, _, _] _ _
    by_cases hlh : low = true ∧ high = true
    · obtain ⟨rfl, rfl⟩ := hlh
      have HE := Lib.hid (show (PT.node b x o ov a av m q l r).sum bs = joinA bs (its bs (flt S E L)) from by
        rw [flt_all (HLH.out.1 rfl) (HLH.out.2 rfl)]
        exact HK.out.sum HS.out.2)
      go_enter Try.func70, Try.ntmps70
      go_wp2_with fail
      show Calls _ _ _ (w.alloc (acO z36 (.slice none 0 0))) _
      generalize w.alloc (acO z36 (.slice none 0 0)) = w1 at *
      refine (tsum_own (tO_facts HG.out).1 HBO.out (.node b x o ov a av m q l r) HT.out).mono ?_
      rintro e w2 ⟨A2, c2, rfl, how, hb⟩
      rw [HE.out] at how ⊢
      obtain ⟨o2, hJ⟩ : ∃ o, joinA bs (its bs (flt S E L)) = o := ⟨_, rfl⟩
      rw [hJ] at how ⊢
      have HJ := Lib.hid hJ
      clear hJ
      have HZ2 := Lib.hid (blk_below HZ.out hb)
      have HB2 := Lib.hid (HX.out.trans (hb.mono HX.out.size))
      have R2 := Lib.hid how
      clear hb how HX HZ HE
      simp only [acV]
      obtain ⟨z0, z1, z2, z3, z4, z5, z6, z7, z8, z9, z10, z11, z12, zl⟩ := acO_facts HZ2.out
      have hf := fun j => blk_free HZ2.out j
      go_wp2_with fail
      show bodyPost _ _ _ _ _ (putA w2 w.heap.size o2 (.slice A2 o2.f6.length c2))
      have hz2 := putA_blk (a := o2) (v := .slice A2 o2.f6.length c2) HZ2.out
      have hch := putA_chg w2 w.heap.size o2 (.slice A2 o2.f6.length c2)
      exact bodyPost_ret (results_ac1 rfl _ _ w.heap.size o2 (.slice A2 o2.f6.length c2) rfl hz2) rfl ⟨A2, c2, by rw [HJ.out], by rw [HJ.out]; exact R2.out.keep hch (fun k hk e => own_no R2.out HZ2.out (by rw [hk, e])), Chg.base HB2.out hch HB2.out.size (fun i hi => by omega)⟩
    · obtain ⟨M1, M2, hM, kl, kr, ho, -⟩ := HK.out
      have HM := Lib.hid (And.intro hM (And.intro kl (And.intro kr ho)))
      clear hM kl kr ho
      have hlh2 : (low = false ∧ high = false) ∨ (low = false ∧ high = true) ∨ (low = true ∧ high = false) := by
        cases low <;> cases high <;> simp at hlh ⊢
      go_enter Try.func70, Try.ntmps70
      rcases hlh2 with ⟨rfl, rfl⟩ | ⟨rfl, rfl⟩ | ⟨rfl, rfl⟩
      all_goals (
        clear hlh
        go_wp2_with fail
        show Code.wp _ _ _ _ (w.alloc (acO z36 (.slice none 0 0)))
        generalize w.alloc (acO z36 (.slice none 0 0)) = w1 at *
        obtain ⟨-, e1, -, -, -, -, -, -, -, -, -, -, -, -, -, -, -, -, -, -, -, -, -, -, -, -, -, -, -, -, -, -, e32, e33, el⟩ := nO_facts HT.out.1
        obtain ⟨s0, s1, sl⟩ := sO_facts HSB.out
        refine Txt.wp_region_mix (by kernel_rfl) (by kernel_rfl) (fun HB => ?_)
        repeat (first
          | (refine Txt.mix_p (by rfl) rfl rfl (fun K hK => ?_); go_big_quiet_op; refine hK _ ?_; clear hK K)
          | (refine Txt.mix_re (by rfl) (by decide +kernel) (by rfl) (by rfl) (by go_simp) HB (fun K hK => ?_); go_big_quiet_op; refine hK _ ?_; clear hK K)
          | (refine Txt.mix_rl (by rfl) (by decide +kernel) (by rfl) (by rfl) (by go_simp) HB (fun K hK => ?_); go_big_quiet_op; refine hK _ ?_; clear hK K)
          | (refine Txt.mix_pass (by rfl) (by rfl) ?_; simp only [List.set_cons_succ, List.set_cons_zero]))
        refine Txt.mix_nil ?_
        have hb0 : Below w1.heap.size w1 w1.drew := (Below.refl _ _).drew
        replace HX := Lib.hid (HX.out.trans (hb0.mono HX.out.size))
        replace HZ := Lib.hid (blk_below HZ.out hb0)
        replace HG := Lib.hid (blk_below HG.out hb0)
        replace HBO := Lib.hid (Own.below HBO.out hb0)
        replace HSB := Lib.hid (blk_below HSB.out hb0)
        replace HT := Lib.hid (HT.out.below hb0)
        have hs := HS.out.1
        have hgd := HS.out.2
        rw [HM.out.1] at hs hgd
        have hgr := gd_right (L := M1 ++ [x]) (M := M2) (by rw [List.append_assoc]; exact hgd)
        have hgl := gd_left hgd
        have hsr := srt_right (L := M1 ++ [x]) (M := M2) (by rw [List.append_assoc]; exact hs)
        have hsl := srt_left hs
        have HP := Lib.hid (And.intro hgl (And.intro hgr (And.intro hsl (And.intro hsr (And.intro hs hgd)))))
        have hinl : ∀ y ∈ M1, y ∈ L := fun y hy => by rw [HM.out.1]; exact List.mem_append_left _ hy
        have hinr : ∀ y ∈ M2, y ∈ L := fun y hy => by rw [HM.out.1]; exact List.mem_append_right _ (List.mem_cons_of_mem _ hy)
        have HIN := Lib.hid (And.intro hinl hinr)
        clear hs hgd hgr hgl hsr hsl hinl hinr hb0 e1 e32 e33 el s0 s1 sl
        generalize w1.drew = w2 at *
        obtain ⟨-, e1, -, -, -, -, -, -, -, -, -, -, -, -, -, -, -, -, -, -, -, -, -, -, -, -, -, -, -, -, -, -, e32, e33, el⟩ := nO_facts HT.out.1
        obtain ⟨s0, s1, sl⟩ := sO_facts HSB.out
        by_cases hS : x.f1 < S
        · have hd : decide (x.f1 < S) = true := decide_eq_true hS
          have HE := Lib.hid (flt_right (E := E) HP.out.2.2.2.2.1 hS)
          clear hS
          go_wp2_with fail
          try any_goals (exfalso; have := of_decide_eq_true hd; omega)
          refine (HIR.out M2 _ _ w2 HG.out HBO.out HSB.out HT.out.2.2.2.2 HM.out.2.2.1 HP.out.2.2.2.1 HP.out.2.1 (HLH.out.1.sub HIN.out.2) (HLH.out.2.sub HIN.out.2)).mono ?_
          rintro e w3 ⟨A2, c2, rfl, how, hb⟩
          obtain ⟨o2, hJ⟩ : ∃ o, joinA bs (its bs (flt S E M2)) = o := ⟨_, rfl⟩
          rw [hJ] at how ⊢
          have HJ := Lib.hid (show joinA bs (its bs (flt S E L)) = o2 by rw [HM.out.1, HE.out, hJ])
          clear hJ
          have HZ2 := Lib.hid (blk_below HZ.out hb)
          have HB2 := Lib.hid (HX.out.trans (hb.mono HX.out.size))
          have R2 := Lib.hid how
          clear hb how HX HZ HE e1 e32 e33 el s0 s1 sl
          simp only [acV]
          obtain ⟨z0, z1, z2, z3, z4, z5, z6, z7, z8, z9, z10, z11, z12, zl⟩ := acO_facts HZ2.out
          have hf := fun j => blk_free HZ2.out j
          go_wp2_with fail
          show bodyPost _ _ _ _ _ (putA w3 w.heap.size o2 (.slice A2 o2.f6.length c2))
          have hz2 := putA_blk (a := o2) (v := .slice A2 o2.f6.length c2) HZ2.out
          have hch := putA_chg w3 w.heap.size o2 (.slice A2 o2.f6.length c2)
          exact bodyPost_ret (results_ac1 rfl _ _ w.heap.size o2 (.slice A2 o2.f6.length c2) rfl hz2) rfl ⟨A2, c2, by rw [HJ.out], by rw [HJ.out]; exact R2.out.keep hch (fun k hk e => own_no R2.out HZ2.out (by rw [hk, e])), Chg.base HB2.out hch HB2.out.size (fun i hi => by omega)⟩
        · have hd : decide (x.f1 < S) = false := decide_eq_false hS
          go_wp2_with fail
          try any_goals (exfalso; have := of_decide_eq_false hd; omega)
          refine Txt.wp_region_mix (by kernel_rfl) (by kernel_rfl) (fun HB => ?_)
          repeat (first
            | (refine Txt.mix_p (by rfl) rfl rfl (fun K hK => ?_); go_big_quiet_op; refine hK _ ?_; clear hK K)
            | (refine Txt.mix_re (by rfl) (by decide +kernel) (by rfl) (by rfl) (by go_simp) HB (fun K hK => ?_); go_big_quiet_op; refine hK _ ?_; clear hK K)
            | (refine Txt.mix_rl (by rfl) (by decide +kernel) (by rfl) (by rfl) (by go_simp) HB (fun K hK => ?_); go_big_quiet_op; refine hK _ ?_; clear hK K)
            | (refine Txt.mix_pass (by rfl) (by rfl) ?_; simp only [List.set_cons_succ, List.set_cons_zero]))
          refine Txt.mix_nil ?_
          have hb0 : Below w2.heap.size w2 w2.drew := (Below.refl _ _).drew
          replace HX := Lib.hid (HX.out.trans (hb0.mono HX.out.size))
          replace HZ := Lib.hid (blk_below HZ.out hb0)
          replace HG := Lib.hid (blk_below HG.out hb0)
          replace HBO := Lib.hid (Own.below HBO.out hb0)
          replace HSB := Lib.hid (blk_below HSB.out hb0)
          replace HT := Lib.hid (HT.out.below hb0)
          clear hb0 e1 e32 e33 el s0 s1 sl hd
          generalize w2.drew = w2 at *
          obtain ⟨-, e1, -, -, -, -, -, -, -, -, -, -, -, -, -, -, -, -, -, -, -, -, -, -, -, -, -, -, -, -, -, -, e32, e33, el⟩ := nO_facts HT.out.1
          obtain ⟨s0, s1, sl⟩ := sO_facts HSB.out
          by_cases hE : E ≤ x.f1
          · have hd : decide (E ≤ x.f1) = true := decide_eq_true hE
            have HE := Lib.hid (flt_left (S := S) HP.out.2.2.2.2.1 hE)
            clear hE hS
            go_wp2_with fail
            try any_goals (exfalso; have := of_decide_eq_true hd; omega)
            refine (HIL.out M1 _ _ _ HG.out HBO.out HSB.out HT.out.2.2.2.1 HM.out.2.1 HP.out.2.2.1 HP.out.1 (HLH.out.1.sub HIN.out.1) (HLH.out.2.sub HIN.out.1)).mono ?_
            rintro e w3 ⟨A2, c2, rfl, how, hb⟩
            obtain ⟨o2, hJ⟩ : ∃ o, joinA bs (its bs (flt S E M1)) = o := ⟨_, rfl⟩
            rw [hJ] at how ⊢
            have HJ := Lib.hid (show joinA bs (its bs (flt S E L)) = o2 by rw [HM.out.1, HE.out, hJ])
            clear hJ
            have HZ2 := Lib.hid (blk_below HZ.out hb)
            have HB2 := Lib.hid (HX.out.trans (hb.mono HX.out.size))
            have R2 := Lib.hid how
            clear hb how HX HZ HE e1 e32 e33 el s0 s1 sl
            simp only [acV]
            obtain ⟨z0, z1, z2, z3, z4, z5, z6, z7, z8, z9, z10, z11, z12, zl⟩ := acO_facts HZ2.out
            have hf := fun j => blk_free HZ2.out j
            go_wp2_with fail
            show bodyPost _ _ _ _ _ (putA w3 w.heap.size o2 (.slice A2 o2.f6.length c2))
            have hz2 := putA_blk (a := o2) (v := .slice A2 o2.f6.length c2) HZ2.out
            have hch := putA_chg w3 w.heap.size o2 (.slice A2 o2.f6.length c2)
            exact bodyPost_ret (results_ac1 rfl _ _ w.heap.size o2 (.slice A2 o2.f6.length c2) rfl hz2) rfl ⟨A2, c2, by rw [HJ.out], by rw [HJ.out]; exact R2.out.keep hch (fun k hk e => own_no R2.out HZ2.out (by rw [hk, e])), Chg.base HB2.out hch HB2.out.size (fun i hi => by omega)⟩
          · have hd : decide (E ≤ x.f1) = false := decide_eq_false hE
            go_wp2_with fail
            try any_goals (exfalso; have := of_decide_eq_false hd; omega)
            have HE := Lib.hid (flt_mid (L := M1) (M := M2) (show S ≤ x.f1 by omega) (show x.f1 < E by omega))
            have HTX := Lib.hid (And.intro (show S ≤ x.f1 by omega) (show x.f1 < E by omega))
            clear hE hS hd
            obtain ⟨A1, c1, hov, hl1, hr1⟩ := HT.out.2.1.reads
            have hb1 := HT.out.1
            rw [hov] at hb1
            have HO1 := Lib.hid (And.intro hl1 hr1)
            clear hov hl1 hr1 e1 e32 e33 el s0 s1 sl
            obtain ⟨-, -, -, -, e4, e5, e6, e7, e8, e9, e10, e11, e12, e13, e14, e15, e16, -, -, -, -, -, -, -, -, -, -, -, -, -, -, -, e32, e33, el⟩ := nO_facts hb1
            clear hb1
            refine Txt.wp_region_mix (by kernel_rfl) (by kernel_rfl) (fun HB => ?_)
            repeat (first
              | (refine Txt.mix_p (by rfl) rfl rfl (fun K hK => ?_); go_big_quiet_op; refine hK _ ?_; clear hK K)
              | (refine Txt.mix_re (by rfl) (by decide +kernel) (by rfl) (by rfl) (by go_simp) HB (fun K hK => ?_); go_big_quiet_op; refine hK _ ?_; clear hK K)
              | (refine Txt.mix_rl (by rfl) (by decide +kernel) (by rfl) (by rfl) (by go_simp) HB (fun K hK => ?_); go_big_quiet_op; refine hK _ ?_; clear hK K)
              | (refine Txt.mix_pass (by rfl) (by rfl) ?_; simp only [List.set_cons_succ, List.set_cons_zero]))
            refine Txt.mix_c (by rfl) (by decide +kernel) HB ?_
            intro w4 hw4 K hK
            replace HB := HB.trans hw4
            clear hw4
            go_wp2_with fail
            refine (HIL.out M1 _ true w4 (blk_below HG.out HB.undrew) (Own.below HBO.out HB.undrew) (blk_below HSB.out HB.undrew) (HT.out.2.2.2.1.below HB.undrew) HM.out.2.1 HP.out.2.2.1 HP.out.1 (HLH.out.1.sub HIN.out.1) (fun _ y hy => by have := (srt_time HP.out.2.2.2.2.1).1 y hy; have := HTX.out.2; omega)).mono ?_
            rintro e w5 ⟨A2, c2, rfl, how, hb⟩
            refine hK _ _ ⟨hb, ?_⟩
            replace HB := HB.trans hb
            obtain ⟨y, hy⟩ : ∃ y, joinA bs (its bs (flt S E M1)) = y := ⟨_, rfl⟩
            rw [hy] at how ⊢
            have HY := Lib.hid hy
            have R2 := Lib.hid how
            clear hK K hb how hy
            simp only [acV]
            repeat (first
              | (refine Txt.mix_p (by rfl) rfl rfl (fun K hK => ?_); go_big_quiet_op; refine hK _ ?_; clear hK K)
              | (refine Txt.mix_re (by rfl) (by decide +kernel) (by rfl) (by rfl) (by go_simp) HB (fun K hK => ?_); go_big_quiet_op; refine hK _ ?_; clear hK K)
              | (refine Txt.mix_rl (by rfl) (by decide +kernel) (by rfl) (by rfl) (by go_simp) HB (fun K hK => ?_); go_big_quiet_op; refine hK _ ?_; clear hK K)
              | (refine Txt.mix_pass (by rfl) (by rfl) ?_; simp only [List.set_cons_succ, List.set_cons_zero]))
            refine Txt.mix_c (by rfl) (by decide +kernel) HB ?_
            intro w6 hw6 K hK
            replace R2 := Lib.hid (Own.below R2.out hw6)
            replace HB := HB.trans hw6
            clear hw6
            go_wp2_with fail
            refine (HIR.out M2 true _ w6 (blk_below HG.out HB.undrew) (Own.below HBO.out HB.undrew) (blk_below HSB.out HB.undrew) (HT.out.2.2.2.2.below HB.undrew) HM.out.2.2.1 HP.out.2.2.2.1 HP.out.2.1 (fun _ y hy => by have := (srt_time HP.out.2.2.2.2.1).2 y hy; have := HTX.out.1; omega) (HLH.out.2.sub HIN.out.2)).mono ?_
            rintro e w7 ⟨A3, c3, rfl, how, hb⟩
            refine hK _ _ ⟨hb, ?_⟩
            replace HB := HB.trans hb
            replace R2 := Lib.hid (Own.below R2.out hb)
            obtain ⟨z, hz⟩ : ∃ z, joinA bs (its bs (flt S E M2)) = z := ⟨_, rfl⟩
            rw [hz] at how ⊢
            have HZZ := Lib.hid hz
            have R3 := Lib.hid how
            clear hK K hb how hz
            simp only [acV]
            repeat (first
              | (refine Txt.mix_p (by rfl) rfl rfl (fun K hK => ?_); go_big_quiet_op; refine hK _ ?_; clear hK K)
              | (refine Txt.mix_re (by rfl) (by decide +kernel) (by rfl) (by rfl) (by go_simp) HB (fun K hK => ?_); go_big_quiet_op; refine hK _ ?_; clear hK K)
              | (refine Txt.mix_rl (by rfl) (by decide +kernel) (by rfl) (by rfl) (by go_simp) HB (fun K hK => ?_); go_big_quiet_op; refine hK _ ?_; clear hK K)
              | (refine Txt.mix_pass (by rfl) (by rfl) ?_; simp only [List.set_cons_succ, List.set_cons_zero]))
            refine Txt.mix_m (fun g => .slice (some ⟨g, 0, none⟩) 3 3) (.cells #[.int .i64 y.f0, .int .i64 y.f1, .int .i64 y.f2, .int .i64 y.f3, .int .i64 y.f4.f0, .int .i64 y.f4.f1, .int .i64 y.f4.f2, .int .i64 y.f4.f3, .int .i64 y.f5.f0, .int .i64 y.f5.f1, .int .i64 y.f5.f2, .int .i64 y.f5.f3, .slice A2 y.f6.length c2, .int .i64 o.f0, .int .i64 o.f1, .int .i64 o.f2, .int .i64 o.f3, .int .i64 o.f4.f0, .int .i64 o.f4.f1, .int .i64 o.f4.f2, .int .i64 o.f4.f3, .int .i64 o.f5.f0, .int .i64 o.f5.f1, .int .i64 o.f5.f2, .int .i64 o.f5.f3, .slice A1 o.f6.length c1, .int .i64 z.f0, .int .i64 z.f1, .int .i64 z.f2, .int .i64 z.f3, .int .i64 z.f4.f0, .int .i64 z.f4.f1, .int .i64 z.f4.f2, .int .i64 z.f4.f3, .int .i64 z.f5.f0, .int .i64 z.f5.f1, .int .i64 z.f5.f2, .int .i64 z.f5.f3, .slice A3 z.f6.length c3] 36) (by rfl) (by decide +kernel) (fun w1 => by go_simp) HB ?_
            intro pb wa hb2 hg2 ho2
            replace HB := HB.trans hb2
            have hrd3 : RdA wa (some ⟨pb, 0, none⟩) [y, o, z] := rdA_three (x := y) (y := o) (z := z) ho2 (own_rd R2.out).1 (RdI.below (own_rd R2.out).2 hb2) HO1.out.1 (RdI.below HO1.out.2 HB.undrew) (own_rd R3.out).1 (RdI.below (own_rd R3.out).2 hb2)
            have RD := Lib.hid hrd3
            clear hrd3 hb2 hg2 ho2
            simp only [Act.put, List.setIfInBounds_toArray, List.set_cons_succ, List.set_cons_zero]
            repeat (first
              | (refine Txt.mix_p (by rfl) rfl rfl (fun K hK => ?_); go_big_quiet_op; refine hK _ ?_; clear hK K)
              | (refine Txt.mix_re (by rfl) (by decide +kernel) (by rfl) (by rfl) (by go_simp) HB (fun K hK => ?_); go_big_quiet_op; refine hK _ ?_; clear hK K)
              | (refine Txt.mix_rl (by rfl) (by decide +kernel) (by rfl) (by rfl) (by go_simp) HB (fun K hK => ?_); go_big_quiet_op; refine hK _ ?_; clear hK K)
              | (refine Txt.mix_pass (by rfl) (by rfl) ?_; simp only [List.set_cons_succ, List.set_cons_zero]))
            refine Txt.mix_c (by rfl) (by decide +kernel) HB ?_
            intro wb hwb K hK
            replace RD := Lib.hid (RD.out.below hwb)
            replace HB := HB.trans hwb
            clear hwb
            go_wp2_with fail
            refine (tjoin_at (tO_facts (blk_below HG.out HB.undrew)).1 (Own.below HBO.out HB.undrew) [y, o, z] (some ⟨pb, 0, none⟩) 3 RD.out (by simp)).mono ?_
            rintro e wc ⟨v, rfl, how, hb⟩
            refine hK _ _ ⟨hb, ?_⟩
            obtain ⟨o2, hJ⟩ : ∃ o, joinA bs (its bs (flt S E L)) = o := ⟨_, rfl⟩
            have hp2 : (joinRes bs [y, o, z]).1 = o2 := by
              have hg3 := flt_gd (S := S) (E := E) HS.out.2
              rw [HM.out.1, HE.out, its_app, its_cons] at hg3
              rw [← hJ, HM.out.1, HE.out, ← HY.out, ← HZZ.out, HM.out.2.2.2, its_app, its_cons, hg3.three]
            rw [hp2] at how ⊢
            have HJ := Lib.hid hJ
            have HOW := Lib.hid (own_zero how)
            obtain ⟨A4, c4, rfl, _, _⟩ := how.reads
            replace HB := HB.trans hb
            have HZ2 := Lib.hid (blk_below HZ.out HB.undrew)
            have HB2 := Lib.hid (HX.out.trans (HB.undrew.mono HX.out.size))
            clear hK K hb how hp2 hJ e4 e5 e6 e7 e8 e9 e10 e11 e12 e13 e14 e15 e16 e32 e33 el
            simp only [acV]
            obtain ⟨z0, z1, z2, z3, z4, z5, z6, z7, z8, z9, z10, z11, z12, zl⟩ := acO_facts HZ2.out
            have hf := fun j => blk_free HZ2.out j
            repeat (first
              | (refine Txt.mix_p (by rfl) rfl rfl (fun K hK => ?_); go_big_quiet_op; refine hK _ ?_; clear hK K)
              | (refine Txt.mix_re (by rfl) (by decide +kernel) (by rfl) (by rfl) (by go_simp) HB (fun K hK => ?_); go_big_quiet_op; refine hK _ ?_; clear hK K)
              | (refine Txt.mix_rl (by rfl) (by decide +kernel) (by rfl) (by rfl) (by go_simp) HB (fun K hK => ?_); go_big_quiet_op; refine hK _ ?_; clear hK K)
              | (refine Txt.mix_pass (by rfl) (by rfl) ?_; simp only [List.set_cons_succ, List.set_cons_zero]))
            refine Txt.mix_a (by rfl) (by decide +kernel) (fun K hK => ?_)
            go_wp2_with fail
            clear z0 z1 z2 z3 z4 z5 z6 z7 z8 z9 z10 z11 z12 zl hf
            show Txt.wpMix _ _ _ _ _ _ _ (putA wc w.heap.size o2 (.slice A4 o2.f6.length c4))
            have HZ3 := Lib.hid (putA_blk (a := o2) (v := .slice A4 o2.f6.length c4) HZ2.out)
            have hch := putA_chg wc w.heap.size o2 (.slice A4 o2.f6.length c4)
            have R5 := Lib.hid (HOW.out.keep hch (fun k hk e => own_no HOW.out HZ2.out (by rw [hk, e])))
            have B5 := Lib.hid (Chg.base HB2.out hch HB2.out.size (fun i hi => by omega))
            clear HB hch
            generalize putA wc w.heap.size o2 (.slice A4 o2.f6.length c4) = wd at *
            refine Txt.mix_nil ?_
            go_wp2_with fail
            exact bodyPost_ret (results_ac1 rfl _ _ w.heap.size o2 (.slice A4 o2.f6.length c4) rfl HZ3.out) rfl ⟨A4, c4, by rw [HJ.out], by rw [HJ.out]; exact R5.out, B5.out⟩)
end Go.Proofs.Ytfgabafbcephaaa.My

namespace Go.Proofs.Ytfgabafbcephaaa.My
open Go.RowKit Pa Go.Proofs.YtfgabafbcephaaaW.PrintWords
set_option linter.unusedSimpArgs false
set_option maxHeartbeats 8000000 in
set_option maxRecDepth 100000 in
theorem trange_any {w : World} {g : Nat} {bv : Value} {bs : List Int} {s : Int} (t : PT) (L : List S34) (S E : Int) (hg : w.heap[g]? = some (tO bv t.ptr)) (hbo : Own w 0 bv bs) (h : TrAt w t) (k : TOk bs t L) (hs : Srt L) (gd : Gd bs s (its bs L)) :
    Calls Try.prog 38 #[.pointer (some ⟨g, 0, none⟩), .agg #[.int .i64 S, .int .i64 E]] w fun e w' => ∃ v, e = .returned (acV (joinA bs (its bs (flt S E L))) v) ∧ Own w' w.heap.size v (joinA bs (its bs (flt S E L))).f6 ∧ Below w.heap.size w w' := by
  have hal : Below w.heap.size (w.alloc (sO S E)) ((w.alloc (sO S E)).alloc (acO z36 (.slice none 0 0))) := (Below.refl _ _).alloc (by simp) _
  have hB : Below w.heap.size w ((w.alloc (sO S E)).alloc (acO z36 (.slice none 0 0))) := ((Below.refl w.heap.size w).alloc (Nat.le_refl _) _).trans hal
  have HX := Lib.hid (show ((w.alloc (sO S E)).alloc (acO z36 (.slice none 0 0))).heap[w.heap.size]? = some (sO S E) from blk_below (heap_alloc_new w (sO S E)) ((Below.refl _ _).alloc (Nat.le_refl _) _))
  have HZ := Lib.hid (show ((w.alloc (sO S E)).alloc (acO z36 (.slice none 0 0))).heap[w.heap.size + 1]? = some (acO z36 (.slice none 0 0)) from by
    have := heap_alloc_new (w.alloc (sO S E)) (acO z36 (.slice none 0 0))
    simpa using this)
  have HB0 := Lib.hid hB
  have HG0 := Lib.hid hg
  have HG := Lib.hid (blk_below hg hB)
  have HO := Lib.hid (Own.below hbo hB)
  have HT := Lib.hid (h.below hB)
  have HK := Lib.hid (And.intro k (And.intro hs gd))
  have HJL := Lib.hid (show (joinA bs (its bs (flt S E L))).f6.length ≤ 1000 from by
    have g2 := flt_gd (S := S) (E := E) gd
    have := joinRes_len g2.join g2.b
    omega)
  clear hg hbo h k hs gd hal hB
  obtain ⟨A, hA⟩ := t.ptr_form
  have HA := Lib.hid hA
  go_enter Try.func38, Try.ntmps38
  obtain ⟨q0, q1, ql⟩ := tO_facts HG0.out
  rw [hA] at q1
  go_wp2_with fail
  clear q0 q1 ql hA
  show Calls _ _ _ ((w.alloc (sO S E)).alloc (acO z36 (.slice none 0 0))) _
  clear HG0
  generalize (w.alloc (sO S E)).alloc (acO z36 (.slice none 0 0)) = w1 at *
  rw [← HA.out]
  refine (over_any (rv := t.ptr) t L false false w1 HG.out HO.out HX.out HT.out HK.out.1 HK.out.2.1 HK.out.2.2 (fun e => Bool.noConfusion e) (fun e => Bool.noConfusion e)).mono ?_
  rintro e w2 ⟨A2, c2, rfl, how, hb⟩
  obtain ⟨o2, hJ⟩ : ∃ o, joinA bs (its bs (flt S E L)) = o := ⟨_, rfl⟩
  rw [hJ] at how ⊢
  replace HJL := Lib.hid (show o2.f6.length ≤ 1000 from by rw [← hJ]; exact HJL.out)
  have HJ := Lib.hid hJ
  clear hJ
  have HB2 := Lib.hid (HB0.out.trans (hb.mono HB0.out.size))
  have HZ2 := Lib.hid (blk_below HZ.out hb)
  have hrd := own_rd how
  have HR := Lib.hid hrd
  clear how hb hrd
  simp only [acV]
  go_wp2_with fail
  refine (acopy_any o2 A2 c2 w2 HR.out.2 HR.out.1 HJL.out).mono ?_
  rintro e w3 ⟨v, rfl, how, hb⟩
  obtain ⟨A3, c3, rfl, -, -⟩ := how.reads
  have HB3 := Lib.hid (HB2.out.trans (hb.mono HB2.out.size))
  have HZ3 := Lib.hid (blk_below HZ2.out hb)
  have R3 := Lib.hid (show Own w3 w.heap.size _ _ from own_weaken how HB2.out.size)
  clear how hb
  simp only [acV]
  obtain ⟨z0, z1, z2, z3, z4, z5, z6, z7, z8, z9, z10, z11, z12, zl⟩ := acO_facts HZ3.out
  have hf := fun j => blk_free HZ3.out j
  go_wp2_with fail
  show bodyPost _ _ _ _ _ (putA w3 (w.heap.size + 1) o2 (.slice A3 o2.f6.length c3))
  have hz4 := putA_blk (a := o2) (v := .slice A3 o2.f6.length c3) HZ3.out
  have hch := putA_chg w3 (w.heap.size + 1) o2 (.slice A3 o2.f6.length c3)
  exact bodyPost_ret (results_ac1 rfl _ _ (w.heap.size + 1) o2 (.slice A3 o2.f6.length c3) rfl hz4) rfl ⟨_, by rw [HJ.out], by rw [HJ.out]; exact R3.out.keep hch (fun k hk e => own_no R3.out HZ3.out (by rw [hk, e])), Chg.base HB3.out hch HB3.out.size (fun i hi => by omega)⟩
theorem TrAt.noneH {w : World} {t : PT} (h : TrAt w t) {g : Nat} {cs : Array Value} {T : TypeId} {fr : Nat × Nat} (hg : w.heap[g]? = some (.cells cs T fr)) (hT : T ≠ 3) : g ∉ t.hbs := fun hi => by
  obtain ⟨cs2, h2⟩ := h.kind.2 g hi
  rw [hg] at h2
  injection h2 with h2
  injection h2 with _ h2
  exact hT h2
theorem srt_cut {p : S34 → Bool} (hp : ∀ a b, ord a b < 0 → p b = true → p a = true) : ∀ {L : List S34}, Srt L → L = L.filter p ++ L.filter (fun x => !p x)
  | [], _ => rfl
  | x :: L, h => by
    have ih := srt_cut hp (L := L) (List.pairwise_cons.1 h).2
    by_cases hx : p x = true
    · rw [List.filter_cons_of_pos hx, List.filter_cons_of_neg (by simp [hx]), List.cons_append, ← ih]
    · have e : L.filter p = [] := List.filter_eq_nil_iff.2 (fun y hy hpy => hx (hp x y ((List.pairwise_cons.1 h).1 y hy) hpy))
      rw [List.filter_cons_of_neg hx, List.filter_cons_of_pos (by simp [hx]), e, List.nil_append]
      rw [e, List.nil_append] at ih
      rw [← ih]
set_option maxHeartbeats 8000000 in
set_option maxRecDepth 100000 in
theorem tevict_any {w : World} {g : Nat} {bv : Value} {bs : List Int} {s : Int} (t : PT) (L L1 L2 : List S34) (v : Int) (hg : w.heap[g]? = some (tO bv t.ptr)) (hbo : Own w 0 bv bs) (h : TrAt w t) (hnd : t.blks.Nodup) (k : TOk bs t L) (gd : Gd bs s (its bs L))
    (he : L = L1 ++ L2) (h1 : ∀ y ∈ L1, decide (y.f1 < v) = true) (h2 : ∀ y ∈ L2, decide (y.f1 < v) = false) :
    Calls Try.prog 40 #[.pointer (some ⟨g, 0, none⟩), .int .i64 v] w fun e w' => ∃ t2, e = .returned (.int .i64 L1.length) ∧ w'.heap[g]? = some (tO bv t2.ptr) ∧ TrAt w' t2 ∧ TOk bs t2 L2 ∧ t2.blks.Nodup ∧ (∀ i ∈ t2.blks, i ∈ t.blks) ∧ (∀ i ∈ t2.hbs, i ∈ t.hbs ∨ w.heap.size ≤ i) ∧ Chg (fun i => i = g ∨ i ∈ t.blks) w w' := by
  have hB : Below w.heap.size w (w.alloc (.cells #[.int .i64 v] 3)) := (Below.refl w.heap.size w).alloc (Nat.le_refl _) _
  have HX := Lib.hid (heap_alloc_new w (.cells #[.int .i64 v] 3))
  have HB0 := Lib.hid hB
  have HG := Lib.hid (blk_below hg hB)
  have HO := Lib.hid (Own.below hbo hB)
  have HT := Lib.hid (h.below hB)
  have HK := Lib.hid (And.intro k gd)
  have HL := Lib.hid (And.intro he (And.intro h1 h2))
  have HD := Lib.hid hnd
  have HN := Lib.hid (And.intro (h.none_ hg (by decide)) (And.intro (h.noneH hg (by decide)) (And.intro (blk_lt hg) (h.lt).2)))
  clear hg hbo h k gd hB he h1 h2 hnd
  obtain ⟨A, hA⟩ := t.ptr_form
  have HA := Lib.hid hA
  go_enter Try.func40, Try.ntmps40
  obtain ⟨q0, q1, ql⟩ := tO_facts HG.out
  rw [hA] at q1
  go_wp2_with fail
  clear q0 q1 ql hA
  show Calls _ _ _ (w.alloc (.cells #[.int .i64 v] 3)) _
  generalize w.alloc (.cells #[.int .i64 v] 3) = w1 at *
  rw [← HA.out]
  refine (split_any (tells_evict w.heap.size v) t L L1 L2 w1 HG.out HO.out HX.out HT.out HD.out HK.out.1 HK.out.2 HL.out.1 HL.out.2.1 HL.out.2.2).mono ?_
  rintro e w2 ⟨t1, t2, rfl, hp, k1, k2⟩
  obtain ⟨A1, hA1⟩ := t1.ptr_form
  obtain ⟨A2, hA2⟩ := t2.ptr_form
  have HA1 := Lib.hid (And.intro hA1 hA2)
  have HP := Lib.hid hp
  have HK2 := Lib.hid (And.intro k1 k2)
  have HG2 := Lib.hid (hp.chg.obj HG.out HN.out.1)
  clear hp k1 k2
  rw [hA1, hA2]
  obtain ⟨q0, q1, ql⟩ := tO_facts HG2.out
  have hf := fun j => blk_free HG2.out j
  clear hA1 hA2
  go_wp2_with fail
  show Calls _ _ _ (w2.setCell ⟨g, 1, none⟩ (.pointer A2)) _
  have hc3 : Chg (fun k => k = g) w2 (w2.setCell ⟨g, 1, none⟩ (.pointer A2)) := (Chg.refl (fun k => k = g) w2).setCell (p := ⟨g, 1, none⟩) (.inl rfl) _
  have hg3 : (w2.setCell ⟨g, 1, none⟩ (.pointer A2)).heap[g]? = some (tO bv (.pointer A2)) := (blk_set HG2.out 1 (.pointer A2)).trans rfl
  have hs1 := HB0.out.size
  have sb : ∀ i, i ∈ t1.blks ∨ i ∈ t2.blks → i ∈ t.blks := fun i hi => HP.out.perm.subset (List.mem_append.2 hi)
  have sh : ∀ i, i ∈ t1.hbs ∨ i ∈ t2.hbs → i ∈ t.hbs ∨ w.heap.size ≤ i := fun i hi => (HP.out.hb i hi).imp_right (fun h => Nat.le_trans hs1 h)
  have nh : ∀ i, i ∈ t1.hbs ∨ i ∈ t2.hbs → ¬ i = g := fun i hi e => by
    rcases sh i hi with h | h
    · exact HN.out.2.1 (e ▸ h)
    · have := HN.out.2.2.1
      omega
  have T1 := HP.out.a1.keep hc3 (fun i hi e => HN.out.1 (e ▸ sb i (.inl hi))) (fun i hi => nh i (.inl hi))
  have T2 := HP.out.a2.keep hc3 (fun i hi e => HN.out.1 (e ▸ sb i (.inr hi))) (fun i hi => nh i (.inr hi))
  have nd := (List.nodup_append.1 (HP.out.perm.nodup_iff.2 HD.out)).2.1
  have C3 : Chg (fun i => i = g ∨ i ∈ t.blks) w (w2.setCell ⟨g, 1, none⟩ (.pointer A2)) := ((Chg.of_below HB0.out).then_ (HP.out.chg.mono (fun i _ h => .inr h))).then_ (hc3.mono (fun i _ h => .inl h))
  have R := Lib.hid (And.intro (show (w2.setCell ⟨g, 1, none⟩ (.pointer A2)).heap[g]? = some (tO bv t2.ptr) from by rw [HA1.out.2]; exact hg3) (And.intro T2 (And.intro nd (And.intro (fun i hi => sb i (.inr hi)) (And.intro (fun i hi => sh i (.inr hi)) C3)))))
  have HT1 := Lib.hid T1
  clear hc3 hg3 hs1 sb sh nh T1 T2 nd C3 q0 q1 ql hf HG2
  generalize w2.setCell ⟨g, 1, none⟩ (.pointer A2) = w3 at *
  rw [← HA1.out.1]
  refine (tsize_any t1 HT1.out).mono ?_
  rintro e w4 ⟨rfl, hb⟩
  rw [HK2.out.1.size]
  have HB := Lib.hid hb
  clear hb
  go_wp2_with fail
  go_ret
  obtain ⟨r1, r2, r3, r4, r5, r6⟩ := R.out
  exact ⟨t2, rfl, blk_below r1 HB.out, r2.below HB.out, HK2.out.2, r3, r4, r5, r6.below HB.out⟩
end Go.Proofs.Ytfgabafbcephaaa.My

namespace Go.Proofs.Ytfgabafbcephaaa.My
open Go.RowKit Pa Go.Proofs.YtfgabafbcephaaaW.PrintWords
set_option linter.unusedSimpArgs false
set_option maxHeartbeats 8000000 in
set_option maxRecDepth 100000 in
theorem lot_any {w : World} {xb : Nat} {y : S34} (hx : w.heap[xb]? = some (itO y)) :
    Calls Try.prog 66 #[.pointer (some ⟨xb, 0, none⟩)] w fun e w' => ∃ q, e = .returned (.int .u32 q) ∧ 0 ≤ q ∧ q ≤ 4294967295 ∧ Below w.heap.size w w' := by
  obtain ⟨f0, f1, f2, f3, fl⟩ := itO_facts hx
  clear hx
  go_enter Try.func66, Try.ntmps66
  go_wp2_with fail
  refine Txt.wp_region_mix (by kernel_rfl) (by kernel_rfl) (fun HB => ?_)
  repeat (first
    | (refine Txt.mix_p (by rfl) rfl rfl (fun K hK => ?_); go_big_quiet_op; refine hK _ ?_; clear hK K)
    | (refine Txt.mix_re (by rfl) (by decide +kernel) (by rfl) (by rfl) (by go_simp) HB (fun K hK => ?_); go_big_quiet_op; refine hK _ ?_; clear hK K)
    | (refine Txt.mix_rl (by rfl) (by decide +kernel) (by rfl) (by rfl) (by go_simp) HB (fun K hK => ?_); go_big_quiet_op; refine hK _ ?_; clear hK K)
    | (refine Txt.mix_pass (by rfl) (by rfl) ?_; simp only [List.set_cons_succ, List.set_cons_zero]))
  refine Txt.mix_nil ?_
  go_wp2_with fail
  show Code.wp _ _ _ _ ((w.alloc (.cells #[.int .u32 15, .int .u32 13, .int .u32 16] 105)).drew)
  have hal : Below w.heap.size w (w.alloc (.cells #[.int .u32 15, .int .u32 13, .int .u32 16] 105)).drew := ((Below.refl _ _).alloc (Nat.le_refl _) _).drew
  have HB0 := Lib.hid hal
  have HX := Lib.hid (show (w.alloc (.cells #[.int .u32 15, .int .u32 13, .int .u32 16] 105)).drew.heap[w.heap.size]? = _ from heap_alloc_new w (.cells #[.int .u32 15, .int .u32 13, .int .u32 16] 105))
  clear hal f0 f1 f2 f3 fl HB
  generalize (w.alloc (.cells #[.int .u32 15, .int .u32 13, .int .u32 16] 105)).drew = w1 at *
  generalize bits BinOp.xor IntKind.u32 (y.f1 % 4294967296 * 2654435761 % 4294967296) (y.f2 % 4294967296 * 40503 % 4294967296) = q0 at *
  go_loopw [3, 21] (fun h c wr => ∃ q i : Int, h = .int .u32 q ∧ c = .int .i64 i ∧ 0 ≤ i ∧ i ≤ 3 ∧ Below w1.heap.size w1 wr ∧ Rel (i = 0 ∨ (0 ≤ q ∧ q ≤ 4294967295))) (fun _ c _ => (3 - intOf c).toNat)
  case atStart => exact ⟨_, _, rfl, rfl, by omega, by omega, Below.refl _ _, .inl rfl⟩
  case round =>
    obtain ⟨q, i, rfl, rfl, h0, h3, hb, hrl⟩ := hrel
    have HB1 := Lib.hid hb
    have HR := Lib.hid hrl
    have hx := blk_below HX.out hb
    have c0 := (blk_cell hx 0).trans rfl
    have c1 := (blk_cell hx 1).trans rfl
    have c2 := (blk_cell hx 2).trans rfl
    have cl := blk_lt hx
    clear hb hrl hx
    have hi : i = 0 ∨ i = 1 ∨ i = 2 ∨ i = 3 := by omega
    clear h0 h3
    rcases hi with rfl | rfl | rfl | rfl
    all_goals (go_wp2_with fail)
    iterate 3 (exact ⟨⟨_, _, rfl, rfl, by omega, by omega, HB1.out, .inr ⟨Int.emod_nonneg _ (by decide), Int.le_of_lt_add_one (Int.emod_lt_of_pos _ (by decide))⟩⟩, by simp [intOf]⟩)
    go_ret
    rcases HR.out with h | h
    · exact absurd h (by decide)
    · exact ⟨q, rfl, h.1, h.2, HB0.out.trans (HB1.out.mono HB0.out.size)⟩
end Go.Proofs.Ytfgabafbcephaaa.My

namespace Go.Proofs.Ytfgabafbcephaaa.My
open Go.RowKit Pa Go.Proofs.YtfgabafbcephaaaW.PrintWords
set_option linter.unusedSimpArgs false
def atX (xs : List S34) (i : Nat) : S34 := xs.getD i z34
theorem atX_take {xs : List S34} {i n : Nat} (h : i < n) : atX (xs.take n) i = atX xs i := by
  unfold atX
  rw [List.getD_eq_getElem?_getD, List.getD_eq_getElem?_getD, List.getElem?_take, if_pos h]
def cellsX (x : S34) : List Value := [.int .i64 x.f0, .int .i64 x.f1, .int .i64 x.f2, .int .i64 x.f3]
def flatX (xs : List S34) : List Value := xs.flatMap cellsX
theorem flatX_length (xs : List S34) : (flatX xs).length = xs.length * 4 := by
  induction xs with
  | nil => rfl
  | cons x r ih => simp only [flatX, List.flatMap_cons, List.length_append] at *; rw [ih]; simp [cellsX]; omega
theorem flatX_append (xs ys : List S34) : flatX (xs ++ ys) = flatX xs ++ flatX ys := by simp [flatX]
theorem flatX_one (x : S34) : flatX [x] = cellsX x := by simp [flatX]
theorem flatX_get {xs : List S34} : ∀ {i : Nat}, i < xs.length → ∀ k, k < 4 → (flatX xs)[i * 4 + k]? = (cellsX (atX xs i))[k]? := by
  induction xs with
  | nil => intro i h; simp at h
  | cons x r ih =>
    intro i h k hk
    have e : flatX (x :: r) = cellsX x ++ flatX r := by simp [flatX]
    rw [e]
    cases i with
    | zero =>
      rw [List.getElem?_append_left (by simp [cellsX]; omega)]
      simp [atX]
    | succ i =>
      rw [List.getElem?_append_right (by simp [cellsX]; omega)]
      have e2 : (i + 1) * 4 + k - (cellsX x).length = i * 4 + k := by simp [cellsX]; omega
      rw [e2, ih (by simpa using h) k hk]
      have e3 : atX (x :: r) (i + 1) = atX r i := rfl
      rw [e3]
theorem xrow_get {w : World} {base b n cap : Nat} {e : TypeId} {xs : List S34} (h : w.ownsRow base e 4 (.slice (some ⟨b, 0, none⟩) n cap) n (flatX xs)) {i : Nat} (hi : i < xs.length) :
    w.cell? ⟨b, i * 4, none⟩ = some (.int .i64 (atX xs i).f0) ∧ w.cell? ⟨b, i * 4 + 1, none⟩ = some (.int .i64 (atX xs i).f1) ∧ w.cell? ⟨b, i * 4 + 2, none⟩ = some (.int .i64 (atX xs i).f2) ∧ w.cell? ⟨b, i * 4 + 3, none⟩ = some (.int .i64 (atX xs i).f3) := by
  have hc : ∀ j u, (flatX xs)[j]? = some u → w.cell? ⟨b, j, none⟩ = some u := fun j u hu => by
    have h1 := h.cells (g := b) rfl j u hu
    have ha : (⟨b, 0, none⟩ : Addr).add j = ⟨b, j, none⟩ := by unfold Addr.add; split <;> simp_all
    rwa [ha] at h1
  refine ⟨hc _ _ ?_, hc _ _ ?_, hc _ _ ?_, hc _ _ ?_⟩
  · exact (flatX_get hi 0 (by omega)).trans rfl
  · exact (flatX_get hi 1 (by omega)).trans rfl
  · exact (flatX_get hi 2 (by omega)).trans rfl
  · exact (flatX_get hi 3 (by omega)).trans rfl
def RdX (w : World) (A : Option Addr) (ys : List S34) : Prop := 0 < ys.length → ∃ b o, A = some ⟨b, o, none⟩ ∧ b < w.heap.size ∧ ∀ i, i < ys.length →
  w.cell? ⟨b, o + i * 4, none⟩ = some (.int .i64 (atX ys i).f0) ∧ w.cell? ⟨b, o + i * 4 + 1, none⟩ = some (.int .i64 (atX ys i).f1) ∧ w.cell? ⟨b, o + i * 4 + 2, none⟩ = some (.int .i64 (atX ys i).f2) ∧ w.cell? ⟨b, o + i * 4 + 3, none⟩ = some (.int .i64 (atX ys i).f3)
theorem rdX_blk {w : World} {b : Nat} {ys : List S34} {sp : List Value} {T : TypeId} {fr : Nat × Nat} (h : w.heap[b]? = some (.cells (flatX ys ++ sp).toArray T fr)) : RdX w (some ⟨b, 0, none⟩) ys := fun _ => by
  refine ⟨b, 0, rfl, blk_lt h, fun i hi => ?_⟩
  have hc : ∀ k, k < 4 → w.cell? ⟨b, 0 + i * 4 + k, none⟩ = (cellsX (atX ys i))[k]? := fun k hk => by
    rw [blk_cell h]
    have hl := flatX_length ys
    rw [List.getElem?_toArray, List.getElem?_append_left (by omega), Nat.zero_add]
    exact flatX_get hi k hk
  exact ⟨(hc 0 (by omega)).trans rfl, (hc 1 (by omega)).trans rfl, (hc 2 (by omega)).trans rfl, (hc 3 (by omega)).trans rfl⟩
theorem xadd_at {x : Addr} (hs : x.spot = none) (i : Nat) : x.add i = ⟨x.block, x.off + i, none⟩ := by
  obtain ⟨b, o, s⟩ := x
  subst hs
  unfold Addr.add
  split
  · rename_i h
    subst h
    rfl
  · rfl
theorem RdX.quiet {w w1 : World} {A : Option Addr} {ys : List S34} (h : RdX w A ys) (hb : Below w.heap.size w w1) : RdX w1 A ys := fun hp => by
  obtain ⟨b, o, e, hbs, hc⟩ := h hp
  refine ⟨b, o, e, Nat.lt_of_lt_of_le hbs hb.size, fun i hi => ?_⟩
  obtain ⟨a0, a1, a2, a3⟩ := hc i hi
  exact ⟨(hb.cell (p := ⟨b, o + i * 4, none⟩) hbs).trans a0, (hb.cell (p := ⟨b, o + i * 4 + 1, none⟩) hbs).trans a1, (hb.cell (p := ⟨b, o + i * 4 + 2, none⟩) hbs).trans a2, (hb.cell (p := ⟨b, o + i * 4 + 3, none⟩) hbs).trans a3⟩
theorem RdX.take {w : World} {b o : Nat} {ys : List S34} (h : RdX w (some ⟨b, o, none⟩) ys) (n : Nat) : RdX w (some ⟨b, o, none⟩) (ys.take n) := fun hp => by
  rw [List.length_take] at hp
  obtain ⟨b1, o1, e, hb, hc⟩ := h (by omega)
  refine ⟨b1, o1, e, hb, fun i hi => ?_⟩
  rw [List.length_take] at hi
  rw [atX_take (by omega)]
  exact hc i (by omega)
theorem atX_drop {xs : List S34} (k i : Nat) : atX (xs.drop k) i = atX xs (k + i) := by
  simp [atX, List.getD_eq_getElem?_getD, List.getElem?_drop]
theorem RdX.drop {w : World} {b o : Nat} {ys : List S34} (h : RdX w (some ⟨b, o, none⟩) ys) (k : Nat) : RdX w (some ⟨b, o + k * 4, none⟩) (ys.drop k) := fun hp => by
  rw [List.length_drop] at hp
  obtain ⟨b1, o1, e, hb, hc⟩ := h (by omega)
  injection e with e
  injection e with e1 e2
  subst e1 e2
  refine ⟨b, o + k * 4, rfl, hb, fun i hi => ?_⟩
  rw [List.length_drop] at hi
  rw [atX_drop, show o + k * 4 + i * 4 = o + (k + i) * 4 by omega]
  exact hc (k + i) (by omega)
theorem RdX.flatX {w : World} {ad : Addr} {ys : List S34} (h : RdX w (some ad) ys) : ∀ j u, (flatX ys)[j]? = some u → w.cell? (ad.add j) = some u := fun j u hu => by
  have hj := (List.getElem?_eq_some_iff.1 hu).1
  rw [flatX_length] at hj
  obtain ⟨b, o, e, _, hc⟩ := h (by omega)
  injection e with e
  subst e
  rw [xadd_at rfl]
  obtain ⟨c0, c1, c2, c3⟩ := hc (j / 4) (by omega)
  have hf := flatX_get (xs := ys) (i := j / 4) (by omega) (j % 4) (by omega)
  rw [show j / 4 * 4 + j % 4 = j by omega, hu] at hf
  have hm : j % 4 = 0 ∨ j % 4 = 1 ∨ j % 4 = 2 ∨ j % 4 = 3 := by omega
  have hd : j = j / 4 * 4 + j % 4 := by omega
  rcases hm with hm | hm | hm | hm
  · rw [hm] at hf hd
    rw [hf, show o + j = o + j / 4 * 4 by omega]
    exact c0
  · rw [hm] at hf hd
    rw [hf, show o + j = o + j / 4 * 4 + 1 by omega]
    exact c1
  · rw [hm] at hf hd
    rw [hf, show o + j = o + j / 4 * 4 + 2 by omega]
    exact c2
  · rw [hm] at hf hd
    rw [hf, show o + j = o + j / 4 * 4 + 3 by omega]
    exact c3
end Go.Proofs.Ytfgabafbcephaaa.My
