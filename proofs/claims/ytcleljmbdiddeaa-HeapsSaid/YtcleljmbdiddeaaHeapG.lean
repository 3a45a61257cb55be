/- The heap's 'awake': a run without inputs; it returns true. No statement of the seed is proved here. -/
import Derived.Test.YtcleljmbdiddeaaHeapF
namespace Go.Proofs.Ytcleljmbdiddeaa
open Go.RowKit HP PHeaps

theorem rd_blk {w : World} {b : Nat} {ys : List It} {sp : List Value} {T : TypeId} {fr : Nat × Nat} (h : w.heap[b]? = some (.cells (flat ys ++ sp).toArray T fr)) : Rd w (some ⟨b, 0, none⟩) ys := fun _ => by
  refine ⟨b, 0, rfl, blk_lt h, fun i hi => ?_⟩
  have hc : ∀ k, k < 4 → w.cell? ⟨b, 0 + i * 4 + k, none⟩ = (cells4 (at_ ys i))[k]? := fun k hk => by
    rw [blk_cell h]
    have hl := flat_length ys
    rw [List.getElem?_toArray, List.getElem?_append_left (by omega), Nat.zero_add]
    exact flat_get hi k hk
  exact ⟨(hc 0 (by omega)).trans rfl, (hc 1 (by omega)).trans rfl, (hc 2 (by omega)).trans rfl, (hc 3 (by omega)).trans rfl⟩

theorem aw1 : pushRes 3 [] [⟨0, 5, 2, 1⟩, ⟨0, 4, 3, 1⟩] = (0, [⟨0, 4, 3, 1⟩, ⟨0, 5, 2, 1⟩]) := by
  simp [pushRes, bad, may, pushAll, push, up, swap, at_, lt]
theorem aw2 : pushRes 3 [⟨0, 4, 3, 1⟩, ⟨0, 5, 2, 1⟩] [⟨0, 4, 1, 1⟩, ⟨0, 4, 9, 1⟩] = (1501, [⟨0, 4, 3, 1⟩, ⟨0, 5, 2, 1⟩]) := by
  simp [pushRes, bad, may]
theorem aw3 : popRes [⟨0, 4, 3, 1⟩, ⟨0, 5, 2, 1⟩] = (⟨0, 4, 3, 1⟩, 0, [⟨0, 5, 2, 1⟩]) := by
  simp [popRes, at_, pop, down, kid]
theorem aw4 : popRes [⟨0, 5, 2, 1⟩] = (⟨0, 5, 2, 1⟩, 0, []) := by
  simp [popRes, at_, pop, down, kid]
theorem aw5 : popRes [] = (⟨0, 0, 0, 0⟩, 1502, []) := by simp [popRes, z0]
theorem aw6 : pushRes 3 [] [⟨0, 0, 0, 0⟩] = (1500, []) := by simp [pushRes, bad, may]

set_option maxHeartbeats 2000000 in
set_option maxRecDepth 100000 in
theorem awake_any (w : World) : Calls Try.prog 19 #[] w fun e w' => e = .returned (.bool true) ∧ Below w.heap.size w w' := by
  go_enter Try.func19, Try.ntmps19
  go_wp2_with fail
  refine (new_ok 3 _ (by decide) (by decide)).mono ?_
  rintro e w1 ⟨rfl, rfl⟩
  have h0 := new_hs (w0 := w) (w := w) 3 (Below.refl _ _)
  generalize w.alloc (.cells #[.int .i64 3, .slice none 0 0] 54) = w1 at *
  generalize w.heap.size = g at *
  generalize Value.slice none 0 0 = v at *
  have H := Lib.hid h0
  clear h0
  go_wp2_with fail
  refine (new_no 0 _ (.inl (by decide))).mono ?_
  rintro e w' ⟨rfl, rfl⟩
  go_wp2_with fail
  refine (num_any _ _).mono ?_
  rintro e w' ⟨rfl, rfl⟩
  go_wp2_with fail
  refine (item_any _ _ _ _ _).mono ?_
  rintro e wa0 ⟨rfl, hb⟩
  have H0 := Lib.hid (H.out.quiet hb)
  clear hb H
  go_wp2_with fail
  refine (item_any _ _ _ _ _).mono ?_
  rintro e wa1 ⟨rfl, hb⟩
  have H1 := Lib.hid (H0.out.quiet hb)
  clear hb H0
  go_wp2_with fail
  have hr := rd_blk (ys := [⟨0, 5, 2, 1⟩, ⟨0, 4, 3, 1⟩]) (sp := []) (heap_alloc_new wa1 (.cells #[.int .i64 0, .int .i64 5, .int .i64 2, .int .i64 1, .int .i64 0, .int .i64 4, .int .i64 3, .int .i64 1] 34))
  have hn : ¬ own g v wa1.heap.size := fun h => by have := H1.out.lt _ h; omega
  have hb := (Below.refl wa1.heap.size wa1).alloc (Nat.le_refl _) (.cells #[.int .i64 0, .int .i64 5, .int .i64 2, .int .i64 1, .int .i64 0, .int .i64 4, .int .i64 3, .int .i64 1] 34)
  refine (push_hs [⟨0, 5, 2, 1⟩, ⟨0, 4, 3, 1⟩] _ 2 (H1.out.quiet hb) hr (fun b o e => by injection e with e; injection e with e; rw [← e]; exact hn) (by decide) (by decide) (by decide)).mono ?_
  clear hr hn hb
  rintro e wb ⟨rfl, v2, h4, -⟩
  rw [aw1] at h4 ⊢
  have I := Lib.hid h4
  clear h4 H1
  go_wp2_with fail
  refine (item_any _ _ _ _ _).mono ?_
  rintro e wc0 ⟨rfl, hb⟩
  have I0 := Lib.hid (I.out.quiet hb)
  clear hb I
  go_wp2_with fail
  refine (item_any _ _ _ _ _).mono ?_
  rintro e wc1 ⟨rfl, hb⟩
  have I1 := Lib.hid (I0.out.quiet hb)
  clear hb I0
  go_wp2_with fail
  have hr := rd_blk (ys := [⟨0, 4, 1, 1⟩, ⟨0, 4, 9, 1⟩]) (sp := []) (heap_alloc_new wc1 (.cells #[.int .i64 0, .int .i64 4, .int .i64 1, .int .i64 1, .int .i64 0, .int .i64 4, .int .i64 9, .int .i64 1] 34))
  have hn : ¬ own g v2 wc1.heap.size := fun h => by have := I1.out.lt _ h; omega
  have hb := (Below.refl wc1.heap.size wc1).alloc (Nat.le_refl _) (.cells #[.int .i64 0, .int .i64 4, .int .i64 1, .int .i64 1, .int .i64 0, .int .i64 4, .int .i64 9, .int .i64 1] 34)
  refine (push_hs [⟨0, 4, 1, 1⟩, ⟨0, 4, 9, 1⟩] _ 2 (I1.out.quiet hb) hr (fun b o e => by injection e with e; injection e with e; rw [← e]; exact hn) (by decide) (by decide) (by decide)).mono ?_
  clear hr hn hb
  rintro e wd ⟨rfl, v3, h4, -⟩
  rw [aw2] at h4 ⊢
  have J := Lib.hid h4
  clear h4 I1
  go_wp2_with fail
  refine (peek_hs J.out).mono ?_
  rintro e we ⟨rfl, hb⟩
  have J1 := Lib.hid (J.out.quiet hb)
  clear hb J
  rw [aw3]
  go_wp2_with fail
  have hb := (Below.refl we.heap.size we).alloc (Nat.le_refl _) (itObj ⟨0, 4, 3, 1⟩)
  have V7 := Lib.hid (Var.new J1.out ⟨0, 4, 3, 1⟩)
  have J2 := Lib.hid (J1.out.quiet hb)
  clear hb J1
  refine (pop_hs J2.out (by decide)).mono ?_
  rintro e wf ⟨rfl, v4, h4, hs⟩
  rw [aw3] at h4 ⊢
  replace V7 := Lib.hid (V7.out.step hs)
  have M := Lib.hid h4
  clear h4 hs J2
  go_wp2_with fail
  have hb := (Below.refl wf.heap.size wf).alloc (Nat.le_refl _) (itObj ⟨0, 4, 3, 1⟩)
  have V9 := Lib.hid (Var.new M.out ⟨0, 4, 3, 1⟩)
  have M1 := Lib.hid (M.out.quiet hb)
  replace V7 := Lib.hid (V7.out.quiet hb)
  clear hb M
  refine (pop_hs M1.out (by decide)).mono ?_
  rintro e wg ⟨rfl, v5, h4, hs⟩
  rw [aw4] at h4 ⊢
  replace V7 := Lib.hid (V7.out.step hs)
  replace V9 := Lib.hid (V9.out.step hs)
  have N := Lib.hid h4
  clear h4 hs M1
  go_wp2_with fail
  have hb := (Below.refl wg.heap.size wg).alloc (Nat.le_refl _) (itObj ⟨0, 5, 2, 1⟩)
  have V11 := Lib.hid (Var.new N.out ⟨0, 5, 2, 1⟩)
  have N1 := Lib.hid (N.out.quiet hb)
  replace V7 := Lib.hid (V7.out.quiet hb)
  replace V9 := Lib.hid (V9.out.quiet hb)
  clear hb N
  refine (pop_hs N1.out (by decide)).mono ?_
  rintro e wh ⟨rfl, v6, h4, hs⟩
  rw [aw5] at h4 ⊢
  replace V7 := Lib.hid (V7.out.step hs)
  replace V9 := Lib.hid (V9.out.step hs)
  replace V11 := Lib.hid (V11.out.step hs)
  have O := Lib.hid h4
  clear h4 hs N1
  go_wp2_with fail
  have hb := (Below.refl wh.heap.size wh).alloc (Nat.le_refl _) (itObj ⟨0, 0, 0, 0⟩)
  have V13 := Lib.hid (Var.new O.out ⟨0, 0, 0, 0⟩)
  have O1 := Lib.hid (O.out.quiet hb)
  replace V7 := Lib.hid (V7.out.quiet hb)
  replace V9 := Lib.hid (V9.out.quiet hb)
  replace V11 := Lib.hid (V11.out.quiet hb)
  clear hb O
  have hr := rd_blk (ys := [⟨0, 0, 0, 0⟩]) (sp := []) (heap_alloc_new (wh.alloc (itObj ⟨0, 0, 0, 0⟩)) (.cells #[.int .i64 0, .int .i64 0, .int .i64 0, .int .i64 0] 34))
  have hn : ¬ own g v6 (wh.alloc (itObj ⟨0, 0, 0, 0⟩)).heap.size := fun h => by have := O1.out.lt _ h; omega
  have hb := (Below.refl (wh.alloc (itObj ⟨0, 0, 0, 0⟩)).heap.size (wh.alloc (itObj ⟨0, 0, 0, 0⟩))).alloc (Nat.le_refl _) (.cells #[.int .i64 0, .int .i64 0, .int .i64 0, .int .i64 0] 34)
  have hsz : (wh.alloc (itObj ⟨0, 0, 0, 0⟩)).heap.size = wh.heap.size + 1 := by simp
  rw [hsz] at hr hn
  refine (push_hs [⟨0, 0, 0, 0⟩] _ 1 (O1.out.quiet hb) hr (fun b o e => by injection e with e; injection e with e; rw [← e]; exact hn) (by decide) (by decide) (by decide)).mono ?_
  rintro e wi ⟨rfl, v7, h4, hs⟩
  rw [aw6] at h4 ⊢
  replace V7 := Lib.hid ((V7.out.quiet hb).step hs)
  replace V9 := Lib.hid ((V9.out.quiet hb).step hs)
  replace V11 := Lib.hid ((V11.out.quiet hb).step hs)
  have P1 := Lib.hid h4
  clear h4 hs hr hn hb hsz O1 V13
  generalize we.heap.size = p7 at *
  generalize wf.heap.size = p9 at *
  generalize wg.heap.size = p11 at *
  generalize wh.heap.size = p13 at *
  obtain ⟨a0, a1, a2, a3, a4⟩ := it_facts V7.out.blk
  obtain ⟨b0, b1, b2, b3, b4⟩ := it_facts V9.out.blk
  obtain ⟨c0, c1, c2, c3, c4⟩ := it_facts V11.out.blk
  clear V7 V9 V11
  go_wp2_with fail
  refine Txt.wp_region_mix (by kernel_rfl) (by kernel_rfl) (fun HB => ?_)
  repeat (first
    | (refine Txt.mix_p (by rfl) rfl rfl (fun K hK => ?_); go_big_quiet_op; refine hK _ ?_; clear hK K)
    | (refine Txt.mix_re (by rfl) (by decide +kernel) (by rfl) (by rfl) (by go_simp) HB (fun K hK => ?_); go_big_quiet_op; refine hK _ ?_; clear hK K)
    | (refine Txt.mix_rl (by rfl) (by decide +kernel) (by rfl) (by rfl) (by go_simp) HB (fun K hK => ?_); go_big_quiet_op; refine hK _ ?_; clear hK K)
    | (refine Txt.mix_pass (by rfl) (by rfl) ?_; simp only [List.set_cons_succ, List.set_cons_zero]))
  refine Txt.mix_c (by rfl) (by decide +kernel) HB ?_
  intro w1 hw1 K hK
  replace HB := HB.trans hw1
  clear hw1
  go_wp2_with fail
  refine (num_any _ _).mono ?_
  rintro e w' ⟨rfl, rfl⟩
  refine hK _ _ ⟨Txt.Bw.refl _, ?_⟩
  clear hK K
  repeat (first
    | (refine Txt.mix_p (by rfl) rfl rfl (fun K hK => ?_); go_big_quiet_op; refine hK _ ?_; clear hK K)
    | (refine Txt.mix_re (by rfl) (by decide +kernel) (by rfl) (by rfl) (by go_simp) HB (fun K hK => ?_); go_big_quiet_op; refine hK _ ?_; clear hK K)
    | (refine Txt.mix_rl (by rfl) (by decide +kernel) (by rfl) (by rfl) (by go_simp) HB (fun K hK => ?_); go_big_quiet_op; refine hK _ ?_; clear hK K)
    | (refine Txt.mix_pass (by rfl) (by rfl) ?_; simp only [List.set_cons_succ, List.set_cons_zero]))
  refine Txt.mix_c (by rfl) (by decide +kernel) HB ?_
  intro w1 hw1 K hK
  replace HB := HB.trans hw1
  clear hw1
  go_wp2_with fail
  refine (num_any _ _).mono ?_
  rintro e w' ⟨rfl, rfl⟩
  refine hK _ _ ⟨Txt.Bw.refl _, ?_⟩
  clear hK K
  repeat (first
    | (refine Txt.mix_p (by rfl) rfl rfl (fun K hK => ?_); go_big_quiet_op; refine hK _ ?_; clear hK K)
    | (refine Txt.mix_re (by rfl) (by decide +kernel) (by rfl) (by rfl) (by go_simp) HB (fun K hK => ?_); go_big_quiet_op; refine hK _ ?_; clear hK K)
    | (refine Txt.mix_rl (by rfl) (by decide +kernel) (by rfl) (by rfl) (by go_simp) HB (fun K hK => ?_); go_big_quiet_op; refine hK _ ?_; clear hK K)
    | (refine Txt.mix_pass (by rfl) (by rfl) ?_; simp only [List.set_cons_succ, List.set_cons_zero]))
  refine Txt.mix_c (by rfl) (by decide +kernel) HB ?_
  intro w1 hw1 K hK
  replace HB := HB.trans hw1
  clear hw1
  go_wp2_with fail
  refine (num_any _ _).mono ?_
  rintro e w' ⟨rfl, rfl⟩
  refine hK _ _ ⟨Txt.Bw.refl _, ?_⟩
  clear hK K
  repeat (first
    | (refine Txt.mix_p (by rfl) rfl rfl (fun K hK => ?_); go_big_quiet_op; refine hK _ ?_; clear hK K)
    | (refine Txt.mix_re (by rfl) (by decide +kernel) (by rfl) (by rfl) (by go_simp) HB (fun K hK => ?_); go_big_quiet_op; refine hK _ ?_; clear hK K)
    | (refine Txt.mix_rl (by rfl) (by decide +kernel) (by rfl) (by rfl) (by go_simp) HB (fun K hK => ?_); go_big_quiet_op; refine hK _ ?_; clear hK K)
    | (refine Txt.mix_pass (by rfl) (by rfl) ?_; simp only [List.set_cons_succ, List.set_cons_zero]))
  refine Txt.mix_c (by rfl) (by decide +kernel) HB ?_
  intro w1 hw1 K hK
  replace HB := HB.trans hw1
  clear hw1
  go_wp2_with fail
  refine (item_any _ _ _ _ _).mono ?_
  rintro e w2 ⟨rfl, hb⟩
  refine hK _ _ ⟨hb, ?_⟩
  replace HB := HB.trans hb
  clear hb
  clear hK K
  repeat (first
    | (refine Txt.mix_p (by rfl) rfl rfl (fun K hK => ?_); go_big_quiet_op; refine hK _ ?_; clear hK K)
    | (refine Txt.mix_re (by rfl) (by decide +kernel) (by rfl) (by rfl) (by go_simp) HB (fun K hK => ?_); go_big_quiet_op; refine hK _ ?_; clear hK K)
    | (refine Txt.mix_rl (by rfl) (by decide +kernel) (by rfl) (by rfl) (by go_simp) HB (fun K hK => ?_); go_big_quiet_op; refine hK _ ?_; clear hK K)
    | (refine Txt.mix_pass (by rfl) (by rfl) ?_; simp only [List.set_cons_succ, List.set_cons_zero]))
  refine Txt.mix_c (by rfl) (by decide +kernel) HB ?_
  intro w1 hw1 K hK
  replace HB := HB.trans hw1
  clear hw1
  go_wp2_with fail
  refine (num_any _ _).mono ?_
  rintro e w' ⟨rfl, rfl⟩
  refine hK _ _ ⟨Txt.Bw.refl _, ?_⟩
  clear hK K
  repeat (first
    | (refine Txt.mix_p (by rfl) rfl rfl (fun K hK => ?_); go_big_quiet_op; refine hK _ ?_; clear hK K)
    | (refine Txt.mix_re (by rfl) (by decide +kernel) (by rfl) (by rfl) (by go_simp) HB (fun K hK => ?_); go_big_quiet_op; refine hK _ ?_; clear hK K)
    | (refine Txt.mix_rl (by rfl) (by decide +kernel) (by rfl) (by rfl) (by go_simp) HB (fun K hK => ?_); go_big_quiet_op; refine hK _ ?_; clear hK K)
    | (refine Txt.mix_pass (by rfl) (by rfl) ?_; simp only [List.set_cons_succ, List.set_cons_zero]))
  refine Txt.mix_c (by rfl) (by decide +kernel) HB ?_
  intro w1 hw1 K hK
  replace HB := HB.trans hw1
  clear hw1
  go_wp2_with fail
  refine (num_any _ _).mono ?_
  rintro e w' ⟨rfl, rfl⟩
  refine hK _ _ ⟨Txt.Bw.refl _, ?_⟩
  clear hK K
  repeat (first
    | (refine Txt.mix_p (by rfl) rfl rfl (fun K hK => ?_); go_big_quiet_op; refine hK _ ?_; clear hK K)
    | (refine Txt.mix_re (by rfl) (by decide +kernel) (by rfl) (by rfl) (by go_simp) HB (fun K hK => ?_); go_big_quiet_op; refine hK _ ?_; clear hK K)
    | (refine Txt.mix_rl (by rfl) (by decide +kernel) (by rfl) (by rfl) (by go_simp) HB (fun K hK => ?_); go_big_quiet_op; refine hK _ ?_; clear hK K)
    | (refine Txt.mix_pass (by rfl) (by rfl) ?_; simp only [List.set_cons_succ, List.set_cons_zero]))
  refine Txt.mix_c (by rfl) (by decide +kernel) HB ?_
  intro w1 hw1 K hK
  replace HB := HB.trans hw1
  clear hw1
  go_wp2_with fail
  refine (item_any _ _ _ _ _).mono ?_
  rintro e w2 ⟨rfl, hb⟩
  refine hK _ _ ⟨hb, ?_⟩
  replace HB := HB.trans hb
  clear hb
  clear hK K
  repeat (first
    | (refine Txt.mix_p (by rfl) rfl rfl (fun K hK => ?_); go_big_quiet_op; refine hK _ ?_; clear hK K)
    | (refine Txt.mix_re (by rfl) (by decide +kernel) (by rfl) (by rfl) (by go_simp) HB (fun K hK => ?_); go_big_quiet_op; refine hK _ ?_; clear hK K)
    | (refine Txt.mix_rl (by rfl) (by decide +kernel) (by rfl) (by rfl) (by go_simp) HB (fun K hK => ?_); go_big_quiet_op; refine hK _ ?_; clear hK K)
    | (refine Txt.mix_pass (by rfl) (by rfl) ?_; simp only [List.set_cons_succ, List.set_cons_zero]))
  refine Txt.mix_c (by rfl) (by decide +kernel) HB ?_
  intro w1 hw1 K hK
  replace HB := HB.trans hw1
  clear hw1
  go_wp2_with fail
  refine (num_any _ _).mono ?_
  rintro e w' ⟨rfl, rfl⟩
  refine hK _ _ ⟨Txt.Bw.refl _, ?_⟩
  clear hK K
  repeat (first
    | (refine Txt.mix_p (by rfl) rfl rfl (fun K hK => ?_); go_big_quiet_op; refine hK _ ?_; clear hK K)
    | (refine Txt.mix_re (by rfl) (by decide +kernel) (by rfl) (by rfl) (by go_simp) HB (fun K hK => ?_); go_big_quiet_op; refine hK _ ?_; clear hK K)
    | (refine Txt.mix_rl (by rfl) (by decide +kernel) (by rfl) (by rfl) (by go_simp) HB (fun K hK => ?_); go_big_quiet_op; refine hK _ ?_; clear hK K)
    | (refine Txt.mix_pass (by rfl) (by rfl) ?_; simp only [List.set_cons_succ, List.set_cons_zero]))
  refine Txt.mix_c (by rfl) (by decide +kernel) HB ?_
  intro w1 hw1 K hK
  replace HB := HB.trans hw1
  clear hw1
  go_wp2_with fail
  refine (num_any _ _).mono ?_
  rintro e w' ⟨rfl, rfl⟩
  refine hK _ _ ⟨Txt.Bw.refl _, ?_⟩
  clear hK K
  repeat (first
    | (refine Txt.mix_p (by rfl) rfl rfl (fun K hK => ?_); go_big_quiet_op; refine hK _ ?_; clear hK K)
    | (refine Txt.mix_re (by rfl) (by decide +kernel) (by rfl) (by rfl) (by go_simp) HB (fun K hK => ?_); go_big_quiet_op; refine hK _ ?_; clear hK K)
    | (refine Txt.mix_rl (by rfl) (by decide +kernel) (by rfl) (by rfl) (by go_simp) HB (fun K hK => ?_); go_big_quiet_op; refine hK _ ?_; clear hK K)
    | (refine Txt.mix_pass (by rfl) (by rfl) ?_; simp only [List.set_cons_succ, List.set_cons_zero]))
  refine Txt.mix_c (by rfl) (by decide +kernel) HB ?_
  intro w1 hw1 K hK
  replace HB := HB.trans hw1
  clear hw1
  go_wp2_with fail
  refine (num_any _ _).mono ?_
  rintro e w' ⟨rfl, rfl⟩
  refine hK _ _ ⟨Txt.Bw.refl _, ?_⟩
  clear hK K
  repeat (first
    | (refine Txt.mix_p (by rfl) rfl rfl (fun K hK => ?_); go_big_quiet_op; refine hK _ ?_; clear hK K)
    | (refine Txt.mix_re (by rfl) (by decide +kernel) (by rfl) (by rfl) (by go_simp) HB (fun K hK => ?_); go_big_quiet_op; refine hK _ ?_; clear hK K)
    | (refine Txt.mix_rl (by rfl) (by decide +kernel) (by rfl) (by rfl) (by go_simp) HB (fun K hK => ?_); go_big_quiet_op; refine hK _ ?_; clear hK K)
    | (refine Txt.mix_pass (by rfl) (by rfl) ?_; simp only [List.set_cons_succ, List.set_cons_zero]))
  refine Txt.mix_c (by rfl) (by decide +kernel) HB ?_
  intro w1 hw1 K hK
  replace HB := HB.trans hw1
  clear hw1
  go_wp2_with fail
  refine (len_hs (P1.out.quiet HB.undrew)).mono ?_
  rintro e w' ⟨rfl, rfl⟩
  refine hK _ _ ⟨Txt.Bw.refl _, ?_⟩
  clear hK K
  repeat (first
    | (refine Txt.mix_p (by rfl) rfl rfl (fun K hK => ?_); go_big_quiet_op; refine hK _ ?_; clear hK K)
    | (refine Txt.mix_re (by rfl) (by decide +kernel) (by rfl) (by rfl) (by go_simp) HB (fun K hK => ?_); go_big_quiet_op; refine hK _ ?_; clear hK K)
    | (refine Txt.mix_rl (by rfl) (by decide +kernel) (by rfl) (by rfl) (by go_simp) HB (fun K hK => ?_); go_big_quiet_op; refine hK _ ?_; clear hK K)
    | (refine Txt.mix_pass (by rfl) (by rfl) ?_; simp only [List.set_cons_succ, List.set_cons_zero]))
  refine Txt.mix_nil ?_
  go_wp2_with fail
  go_ret
  exact ⟨rfl, (P1.out.quiet HB.undrew).bel⟩
end Go.Proofs.Ytcleljmbdiddeaa
