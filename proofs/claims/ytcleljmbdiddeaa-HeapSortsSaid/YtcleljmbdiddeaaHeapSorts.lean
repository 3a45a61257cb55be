/- HeapSorts returns true: what is pushed comes out in its row, each once. No conditions. -/
import Derived.Test.YtcleljmbdiddeaaHeapVar
namespace Go.Proofs.Ytcleljmbdiddeaa
open Go.RowKit HP PHeaps

theorem and127 (x : Int) : 0 ≤ bits .and .i64 x 127 ∧ bits .and .i64 x 127 ≤ 127 := and_bound x 127 (by decide)
theorem and31 (x : Int) : 0 ≤ bits .and .i64 x 31 ∧ bits .and .i64 x 31 ≤ 31 := and_bound x 31 (by decide)

def Srt (y : It) : Prop := 0 ≤ y.s ∧ y.s ≤ 3 ∧ -60 ≤ y.t ∧ y.t ≤ 67 ∧ 1 ≤ y.q ∧ y.q ≤ 32 ∧ 0 ≤ y.v ∧ y.v ≤ 59
theorem srt_may {y : It} (h : Srt y) : may y = true := by
  unfold Srt at h
  unfold may
  rw [decide_eq_true_iff]
  omega

set_option maxHeartbeats 4000000 in
set_option maxRecDepth 100000 in
theorem sorts_any (A : Option Addr) (l : List Int) (c : Nat) (w : World) (hA : RdI w A l) (hl : l.length ≤ 140737488351232) :
    Calls Try.prog 5 #[.slice A l.length c] w fun e w' => e = .returned (.bool true) ∧ Below w.heap.size w w' := by
  have HA := Lib.hid hA
  clear hA
  go_enter Try.func5, Try.ntmps5
  go_wp2_with fail
  refine (awake_any _).mono ?_
  rintro e w0 ⟨rfl, hb0⟩
  go_wp2_with fail
  refine (new_ok 8192 _ (by decide) (by decide)).mono ?_
  rintro e w1 ⟨rfl, rfl⟩
  have h0 := new_hs (w0 := w) (w := w0) 8192 hb0
  generalize w0.alloc (.cells #[.int .i64 8192, .slice none 0 0] 54) = w1 at *
  clear hb0
  generalize w0.heap.size = g at *
  generalize Value.slice none 0 0 = v at *
  have H := Lib.hid h0
  clear h0
  go_wp2_with fail
  refine (num_any _ _).mono ?_
  rintro e w' ⟨rfl, rfl⟩
  go_wp2_with fail
  all_goals
    go_loopw [6, 7] (fun z i wr => ∃ (k : Nat) (n : Int), i = .int .i64 k ∧ z = .int .i64 n ∧ k ≤ l.length ∧ k ≤ 60 ∧ 0 ≤ n ∧ n ≤ 60 * k ∧ ∃ v xs, HS w wr g v 8192 xs ∧ Rel (xs.length = k ∧ total xs = n ∧ ∀ y ∈ xs, Srt y)) (fun _ i _ => l.length - (intOf i).toNat)
    case atStart => exact ⟨0, 0, rfl, rfl, by omega, by omega, by omega, by omega, v, [], H.out, rfl, rfl, fun y hy => absurd hy (by simp)⟩
    case round =>
      obtain ⟨k, n, rfl, rfl, hk, hk4, hn0, hn1, v1, xs, hs, hx⟩ := hrel
      have HX := Lib.hid hx
      have H1 := Lib.hid hs
      have HH := Lib.hid hs.heap
      clear hx hs
      by_cases hlt : k < l.length ∧ k < 60
      · obtain ⟨hk1, hk2⟩ := hlt
        obtain ⟨b, o, rfl, hbs, hcells⟩ := HA.out (by omega)
        have e0 := H1.out.bel.cell (p := ⟨b, o + k, none⟩) hbs
        rw [hcells k hk1] at e0
        clear hcells hbs
        generalize l.getD k 0 = p at *
        obtain ⟨m0, m1⟩ := and3 (k : Int)
        obtain ⟨m2, m3⟩ := and127 p
        obtain ⟨m4, m5⟩ := and31 (p / 128)
        go_wp2_with fail
        refine Txt.wp_region_text (by kernel_rfl) (by kernel_rfl) ?_
        repeat (first
          | (refine Txt.text_p (by rfl) rfl (fun K hK => ?_); go_big_quiet_op; refine hK _ ?_; clear hK K)
          | (refine Txt.text_r (by rfl) rfl (fun K hK => ?_); go_big_quiet_op; refine hK _ ?_; clear hK K)
          | (refine Txt.text_pass (by rfl) (by rfl) ?_; simp only [List.set_cons_succ, List.set_cons_zero]))
        refine Txt.text_a (by rfl) rfl (fun K hK => ?_)
        clear e0
        go_wp2_with fail
        refine (item_any _ _ _ _ _).mono ?_
        rintro e wa ⟨rfl, hb⟩
        have H2 := Lib.hid (H1.out.quiet (Below.trans ((Below.refl wr.heap.size wr).drew) hb))
        clear hb H1
        generalize hA1 : bits .and .i64 (k : Int) 3 = x1 at *
        generalize hA2 : bits .and .i64 p 127 = x2 at *
        generalize hA3 : bits .and .i64 (p / 128) 31 = x3 at *
        clear hA1 hA2 hA3
        go_wp2_with fail
        repeat (first
          | (refine Txt.text_p (by rfl) rfl (fun K hK => ?_); go_big_quiet_op; refine hK _ ?_; clear hK K)
          | (refine Txt.text_r (by rfl) rfl (fun K hK => ?_); go_big_quiet_op; refine hK _ ?_; clear hK K)
          | (refine Txt.text_pass (by rfl) (by rfl) ?_; simp only [List.set_cons_succ, List.set_cons_zero]))
        refine Txt.text_a (by rfl) rfl (fun K hK => ?_)
        go_wp2_with fail
        have hr := rd_blk (ys := [⟨x1, x2 - 60, 1 + x3, k⟩]) (sp := []) (heap_alloc_new wa (itObj ⟨x1, x2 - 60, 1 + x3, k⟩))
        have hn : ¬ own g v1 wa.heap.size := fun h => by have := H2.out.lt _ h; omega
        have hb := (Below.refl wa.heap.size wa).alloc (Nat.le_refl _) (itObj ⟨x1, x2 - 60, 1 + x3, k⟩)
        have ht : Srt ⟨x1, x2 - 60, 1 + x3, k⟩ := ⟨m0, m1, by simp only []; omega, by simp only []; omega, by simp only []; omega, by simp only []; omega, by simp only []; omega, by simp only []; omega⟩
        have hpr := pushRes_one (most := 8192) (xs := xs) (srt_may ht) (by have := HX.out.1; omega)
        have HR := Lib.hid hr
        have HN := Lib.hid hn
        have HB := Lib.hid hb
        have HT := Lib.hid ht
        have HP := Lib.hid hpr
        clear hr hn hb ht hpr
        refine Txt.text_a (by rfl) rfl (fun K hK => ?_)
        go_wp2_with fail
        refine (push_hs [⟨x1, x2 - 60, 1 + x3, k⟩] _ 1 (H2.out.quiet HB.out) HR.out (fun b o e => by injection e with e; injection e with e; rw [← e]; exact HN.out) (by decide) (by have := HX.out.1; omega) (by simp)).mono ?_
        rintro e wb ⟨rfl, v2, h4, -⟩
        rw [HP.out] at h4 ⊢
        have H3 := Lib.hid h4
        clear h4 HB HR HN H2
        go_wp2_with fail
        repeat (first
          | (refine Txt.text_p (by rfl) rfl (fun K hK => ?_); go_big_quiet_op; refine hK _ ?_; clear hK K)
          | (refine Txt.text_r (by rfl) rfl (fun K hK => ?_); go_big_quiet_op; refine hK _ ?_; clear hK K)
          | (refine Txt.text_pass (by rfl) (by rfl) ?_; simp only [List.set_cons_succ, List.set_cons_zero]))
        refine Txt.text_nil ?_
        go_wp2_with fail
        refine (num_any _ _).mono ?_
        rintro e w' ⟨rfl, rfl⟩
        go_wp2_with fail
        go_roundw
        case rel =>
          have hp := (push_spec HH.out ⟨x1, x2 - 60, 1 + x3, k⟩).2
          refine ⟨k + 1, n + k, by go_num, rfl, by omega, by omega, by omega, by omega, v2, _, H3.out, ?_, ?_, ?_⟩
          · have := push_length xs HH.out ⟨x1, x2 - 60, 1 + x3, k⟩
            rw [this, HX.out.1]
          · rw [total_perm hp, total_cons, HX.out.2.1]
            show (k : Int) + n = n + k
            omega
          · intro y hy
            rcases List.mem_cons.1 (hp.mem_iff.1 hy) with rfl | h
            · exact HT.out
            · exact HX.out.2.2 y h
        case measure => simp [intOf]; omega
      · have hk5 : (k = l.length ∨ k = 60) := by omega
        first
        | (have hd : decide ((k : Int) < 60) = false := decide_eq_false (by omega))
        | (have hd : decide (k < l.length) = false := decide_eq_false (by omega))
        go_wp2_with fail
        have h2 : HS w (wr.alloc (.cells #[.int .i64 0, .int .i64 0, .int .i64 0, .int .i64 0] 34)) g v1 8192 xs := H1.out.quiet ((Below.refl wr.heap.size wr).alloc (Nat.le_refl _) (itObj z0))
        have hv1 : Var g v1 (wr.alloc (.cells #[.int .i64 0, .int .i64 0, .int .i64 0, .int .i64 0] 34)) wr.heap.size z0 := Var.new H1.out z0
        have hL := H1.out.bel.size
        generalize wr.alloc (.cells #[.int .i64 0, .int .i64 0, .int .i64 0, .int .i64 0] 34) = w2 at *
        generalize wr.heap.size = lb at *
        have H2 := Lib.hid h2
        have V0 := Lib.hid hv1
        have HL := Lib.hid hL
        clear h2 hv1 hL H1
        go_loopw [6, 10] (fun z i wx => ∃ (j : Nat) (m : Int), i = .int .i64 j ∧ z = .int .i64 m ∧ j ≤ k ∧ 0 ≤ m ∧ m ≤ 3600 ∧ ∃ v xs y, HS w wx g v 8192 xs ∧ Var g v wx lb y ∧ Rel (xs.length = k - j ∧ total xs = m ∧ (∀ x ∈ xs, Srt x) ∧ (0 < j → ∀ x ∈ xs, lt x y = false))) (fun _ i _ => k - (intOf i).toNat)
        case atStart => exact ⟨0, n, rfl, rfl, by omega, by omega, by omega, v1, xs, z0, H2.out, V0.out, HX.out.1, HX.out.2.1, HX.out.2.2, fun h => absurd h (by omega)⟩
        case round =>
          obtain ⟨j, m, rfl, rfl, hj, hm0, hm1, v2, ys, y, hs2, hva, hy2⟩ := hrel
          have HY := Lib.hid hy2
          have H4 := Lib.hid hs2
          have VA := Lib.hid hva
          clear hs2 hy2 hva
          by_cases hjk : j < k
          · have hpos : 0 < ys.length := by have := HY.out.1; omega
            have hmem : at_ ys 0 ∈ ys := by rw [at_eq hpos]; exact List.getElem_mem hpos
            obtain ⟨ht0, ht1, ht2, ht3, ht4, ht5, ht6, ht7⟩ := HY.out.2.2.1 _ hmem
            have hps := pop_spec H4.out.heap hpos
            have htot : total ys = (at_ ys 0).v + total (pop ys) := by rw [← total_perm hps.2, total_cons]
            have htp : 0 ≤ total (pop ys) := total_pos (fun x hx => (HY.out.2.2.1 x (hps.2.mem_iff.1 (List.mem_cons_of_mem _ hx))).2.2.2.2.2.2.1)
            rw [HY.out.2.1] at htot
            have HP := Lib.hid (popRes_some hpos)
            have HPS := Lib.hid hps
            have HLE := Lib.hid (fun y hy => heap_head_le H4.out.heap (x := y) hy)
            have HBE := Lib.hid (fun (h : 0 < j) => HY.out.2.2.2 h _ hmem)
            clear hpos hmem ht0 ht1 ht2 ht3 ht4 ht5 hps
            go_wp2_with fail
            refine (pop_hs H4.out (by have := HY.out.1; omega)).mono ?_
            rintro e wb ⟨rfl, v3, h5, hst⟩
            rw [HP.out] at h5 ⊢
            have h6 : HS w (wb.alloc (.cells #[.int .i64 (at_ ys 0).s, .int .i64 (at_ ys 0).t, .int .i64 (at_ ys 0).q, .int .i64 (at_ ys 0).v] 34)) g v3 8192 (pop ys) := h5.quiet ((Below.refl wb.heap.size wb).alloc (Nat.le_refl _) (itObj (at_ ys 0)))
            have hv2 : Var g v3 (wb.alloc (.cells #[.int .i64 (at_ ys 0).s, .int .i64 (at_ ys 0).t, .int .i64 (at_ ys 0).q, .int .i64 (at_ ys 0).v] 34)) wb.heap.size (at_ ys 0) := Var.new h5 (at_ ys 0)
            have hv3 : Var g v3 (wb.alloc (.cells #[.int .i64 (at_ ys 0).s, .int .i64 (at_ ys 0).t, .int .i64 (at_ ys 0).q, .int .i64 (at_ ys 0).v] 34)) lb y := (VA.out.step hst).quiet ((Below.refl wb.heap.size wb).alloc (Nat.le_refl _) (itObj (at_ ys 0)))
            have hne : wb.heap.size ≠ lb := fun e => by have := blk_lt (VA.out.step hst).blk; omega
            have H5 := Lib.hid h6
            have V2 := Lib.hid hv2
            have V3 := Lib.hid hv3
            have HNE := Lib.hid hne
            clear h5 h6 hv2 hv3 hne hst
            go_wp2_with fail
            generalize wb.alloc (.cells #[.int .i64 (at_ ys 0).s, .int .i64 (at_ ys 0).t, .int .i64 (at_ ys 0).q, .int .i64 (at_ ys 0).v] 34) = wc at *
            generalize wb.heap.size = xb at *
            refine (num_any _ _).mono ?_
            rintro e w' ⟨rfl, rfl⟩
            have hxl : xb ≠ lb := HNE.out
            rcases Nat.eq_zero_or_pos j with hj0 | hj0
            · obtain ⟨a0, a1, a2, a3, a4⟩ := it_facts V2.out.blk
              obtain ⟨b0, b1, b2, b3, b4⟩ := it_facts V3.out.blk
              have hfz := blk_free V3.out.blk
              have hd : decide (0 < j) = false := decide_eq_false (by omega)
              go_wp2_with fail
              go_roundw
              case rel =>
                refine ⟨j + 1, total (pop ys), by go_num, by go_num, by omega, by omega, by omega, v3, pop ys, at_ ys 0, H5.out.put V3.out.apart HL.out (at_ ys 0), V3.out.put (at_ ys 0), ?_, rfl, ?_, fun _ => ?_⟩
                · have := HPS.out.2.length_eq
                  simp only [List.length_cons] at this
                  have := HY.out.1
                  omega
                · exact fun x hx => HY.out.2.2.1 x (HPS.out.2.mem_iff.1 (List.mem_cons_of_mem _ hx))
                · exact fun x hx => HLE.out x (HPS.out.2.mem_iff.1 (List.mem_cons_of_mem _ hx))
              case measure => simp [intOf]; omega
            · have hd : decide (0 < j) = true := decide_eq_true hj0
              obtain ⟨a0, a1, a2, a3, a4⟩ := it_facts V2.out.blk
              obtain ⟨b0, b1, b2, b3, b4⟩ := it_facts V3.out.blk
              go_wp2_with fail
              refine (before_no (at_ ys 0) y _ (HBE.out hj0)).mono ?_
              rintro e wd ⟨rfl, hb⟩
              have H6 := Lib.hid (H5.out.quiet hb)
              have V5 := Lib.hid (V2.out.quiet hb)
              have V6 := Lib.hid (V3.out.quiet hb)
              clear hb H5 V2 V3 a0 a1 a2 a3 a4 b0 b1 b2 b3 b4
              obtain ⟨a0, a1, a2, a3, a4⟩ := it_facts V5.out.blk
              obtain ⟨b0, b1, b2, b3, b4⟩ := it_facts V6.out.blk
              have hfz := blk_free V6.out.blk
              go_wp2_with fail
              go_roundw
              case rel =>
                refine ⟨j + 1, total (pop ys), by go_num, by go_num, by omega, by omega, by omega, v3, pop ys, at_ ys 0, H6.out.put V6.out.apart HL.out (at_ ys 0), V6.out.put (at_ ys 0), ?_, rfl, ?_, fun _ => ?_⟩
                · have := HPS.out.2.length_eq
                  simp only [List.length_cons] at this
                  have := HY.out.1
                  omega
                · exact fun x hx => HY.out.2.2.1 x (HPS.out.2.mem_iff.1 (List.mem_cons_of_mem _ hx))
                · exact fun x hx => HLE.out x (HPS.out.2.mem_iff.1 (List.mem_cons_of_mem _ hx))
              case measure => simp [intOf]; omega
          · have hz : ys = [] := List.eq_nil_of_length_eq_zero (by have := HY.out.1; omega)
            subst hz
            have hm : m = 0 := HY.out.2.1.symm
            subst hm
            go_wp2_with fail
            refine (len_hs H4.out).mono ?_
            rintro e w' ⟨rfl, rfl⟩
            go_wp2_with fail
            go_ret
            exact ⟨rfl, H4.out.bel⟩
theorem sorts_walk (A : Option Addr) (l : List Int) (c : Nat) (w : World) (hA : RdI w A l) (hl : l.length * 8 ≤ 140737488351232) (_ : ∀ n ∈ l, (Lit.int .i64 n).wf = true) :
    Calls Try.prog 5 #[.slice A l.length c] w fun e w' => e = .returned (.bool true) ∧ Below w.heap.size w w' := sorts_any A l c w hA (by omega)
end Go.Proofs.Ytcleljmbdiddeaa
