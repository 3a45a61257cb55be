/- What is known together: Join, walked. No statement of the seed is proved here. -/
import Derived.Test.YtggaefklcpbfnaaAccH
namespace Go.Proofs.Ytggaefklcpbfnaa.My
open Go.RowKit Pa Go.Proofs.YtggaefklcpbfnaaW.PrintWords
attribute [local go_sem high] eqA26

theorem wp_make_ints {ops : Array Oper} {rest : List Oper} {o : Oper} {a : Act} {Q : Exit → Act → World → Prop} {w : World} (hg : o.guard = none) (l c : Operand) (hop : o.op = Op.makeSlice 22 l c) (n : Nat) (hn : n ≤ 1000) (L : Int) (hl : a.eval l = .int .i64 L) (hc : a.eval c = .int .i64 L) (hL : L = n)
    (hK : wpList Try.prog ops Q rest (a.put o.dst (.slice (some ⟨w.heap.size, 0, none⟩) n n)) (w.alloc (.cells (Array.replicate n (.int .i64 0)) 3))) : wpList Try.prog ops Q (o :: rest) a w := by
  refine wpList_plain hg fun K hK' => ?_
  subst hL
  unfold Oper.wp
  simp [execOp, hop, hl, hc, make_ints n hn w, Result.andThen]
  exact hK' _ _ hK

theorem allm_bm {bs : List Int} : ∀ {xs : List S28} {f : Int}, allm bs f xs = true → bmay bs = true
  | [], _, h => h
  | a :: r, f, h => by
    unfold allm at h
    by_cases ha : amay a bs = true
    · rw [if_pos ha] at h
      by_cases h0 : 0 < a.f0
      · rw [if_pos h0] at h
        by_cases h1 : 0 ≤ f ∧ a.f4.f0 ≠ f
        · rw [if_pos h1] at h
          cases h
        · rw [if_neg h1] at h
          exact allm_bm h
      · rw [if_neg h0] at h
        exact allm_bm h
    · rw [if_neg ha] at h
      cases h

set_option maxHeartbeats 8000000 in
set_option maxRecDepth 100000 in
theorem join_any (bs : List Int) (xs : List S28) (A1 : Option Addr) (c1 : Nat) (A : Option Addr) (c : Nat) (w : World) (hr : RdI w A1 bs) (hc : bs.length ≤ c1) (ha : RdA w A xs) (hl : xs.length ≤ 4398046511104) :
    Calls Try.prog 30 #[.slice A1 bs.length c1, .slice A xs.length c] w fun e w' => ∃ v, e = .returned (.tuple #[acV (joinRes bs xs).1 v, .int .i64 (joinRes bs xs).2]) ∧ Own w' w.heap.size v (joinRes bs xs).1.f6 ∧ Below w.heap.size w w' := by
  have hB : Below w.heap.size w (w.alloc (acO z28 (.slice none 0 0))) := (Below.refl w.heap.size w).alloc (Nat.le_refl _) _
  have hz : (w.alloc (acO z28 (.slice none 0 0))).heap[w.heap.size]? = some (acO z28 (.slice none 0 0)) := heap_alloc_new w _
  have HR := Lib.hid hr
  have HC := Lib.hid hc
  have HA := Lib.hid ha
  have HB := Lib.hid hB
  have HZ := Lib.hid hz
  clear hr hc ha hB hz
  go_enter Try.func30, Try.ntmps30
  go_wp2_with fail
  show Calls _ _ _ (w.alloc (acO z28 (.slice none 0 0))) _
  generalize w.alloc (acO z28 (.slice none 0 0)) = w1 at *
  refine (allmay_any bs xs A1 c1 A c _ (Kd.C_below HR.out HB.out) HC.out (HA.out.below HB.out) hl).mono ?_
  rintro e w2 ⟨rfl, hb⟩
  replace HZ := Lib.hid (blk_below HZ.out hb)
  replace HB := Lib.hid (HB.out.trans (hb.mono HB.out.size))
  clear hb
  by_cases h1 : allm bs (-1) xs = true
  · have hall := allm_all h1
    have hbm := allm_bm h1
    have H1 := Lib.hid h1
    have HALL := Lib.hid hall
    have HBM := Lib.hid hbm
    have hb8 := bmay_len hbm
    rw [h1]
    clear h1 hall hbm
    go_wp2_with fail
    go_loopw [6, 18] (fun s i wr => ∃ k : Nat, i = .int .i64 k ∧ s = .int .i64 (cnt (xs.take k)) ∧ k ≤ xs.length ∧ Below w.heap.size w wr ∧ wr.heap[w.heap.size]? = some (acO z28 (.slice none 0 0))) (fun _ i _ => xs.length - (intOf i).toNat)
    case atStart => exact ⟨0, rfl, by simp [cnt], by omega, HB.out, HZ.out⟩
    case round =>
      obtain ⟨k, rfl, rfl, hk, hb, hz⟩ := hrel
      have HB1 := Lib.hid hb
      have HZ1 := Lib.hid hz
      clear hb hz HB HZ
      obtain ⟨hc1, hc2, hc3⟩ := cnt_take HALL.out k
      by_cases hlt : k < xs.length
      · obtain ⟨b, o, rfl, hbs, hcells⟩ := HA.out (by omega)
        obtain ⟨Ah, ch, e0, e1, e2, e3, e4, e5, e6, e7, e8, e9, e10, e11, e12, hlh, hrh⟩ := (hcells k hlt).below HB1.out
        obtain ⟨f1, f2⟩ := (amay_fit (HALL.out _ (getD_mem28 hlt))).c
        have hsn := cnt_snoc hlt
        have HSN := Lib.hid hsn
        clear hsn
        generalize xs.getD k z28 = x at *
        generalize cnt (xs.take k) = s at *
        have hal : Below wr.heap.size wr (wr.alloc (acO x (.slice Ah x.f6.length ch))) := (Below.refl wr.heap.size wr).alloc (Nat.le_refl _) _
        have hv : (wr.alloc (acO x (.slice Ah x.f6.length ch))).heap[wr.heap.size]? = some (acO x (.slice Ah x.f6.length ch)) := heap_alloc_new wr _
        obtain ⟨a0, a1, a2, a3, a4, a5, a6, a7, a8, a9, a10, a11, a12, al⟩ := acO_facts hv
        have HB2 := Lib.hid (HB1.out.trans (hal.mono HB1.out.size))
        have HZ2 := Lib.hid (blk_below HZ1.out hal)
        clear hal hv hcells HB1 HZ1 hrh
        unfold acO at a0 a1 a2 a3 a4 a5 a6 a7 a8 a9 a10 a11 a12 al
        go_wp2_with fail
        exact ⟨⟨k + 1, by go_num, by rw [HSN.out], by omega, HB2.out, HZ2.out⟩, by simp [intOf]; omega⟩
      · obtain rfl : k = xs.length := by omega
        have hsum : cnt (xs.take xs.length) = cnt xs := by rw [List.take_length]
        rw [hsum] at hc1 hc3 ⊢
        clear hsum hc2
        by_cases h8 : 8192 < cnt xs
        · have hres : joinRes bs xs = (z28, 101) := by unfold joinRes; rw [if_pos H1.out, if_pos h8]
          have HRES := Lib.hid hres
          have hd : decide (8192 < cnt xs) = true := decide_eq_true h8
          clear hres h8
          obtain ⟨z0, z1, z2, z3, z4, z5, z6, z7, z8, z9, z10, z11, z12, zl⟩ := acO_facts HZ1.out
          have hf := fun j => blk_free HZ1.out j
          go_wp2_with fail
          show bodyPost _ _ _ _ _ (putA wr w.heap.size z28 (.slice none 0 0))
          have hz2 := putA_blk (a := z28) (v := .slice none 0 0) HZ1.out
          have hch := putA_chg wr w.heap.size z28 (.slice none 0 0)
          refine bodyPost_ret (results_acc rfl _ _ w.heap.size z28 (.slice none 0 0) rfl hz2) rfl ?_
          refine ⟨.slice none 0 0, ?_, ?_, ?_⟩
          · rw [HRES.out]; rfl
          · rw [HRES.out]; exact Own.nil _ _
          · exact Chg.base HB1.out hch HB1.out.size (fun i hi => by omega)
        · have hres : joinRes bs xs = (joinA bs xs, 0) := by unfold joinRes; rw [if_pos H1.out, if_neg h8]
          have HRES := Lib.hid hres
          have hd : decide (8192 < cnt xs) = false := decide_eq_false h8
          have H8 := Lib.hid (show cnt xs ≤ 8192 by omega)
          clear hres h8
          go_wp2_with (refine wp_make_ints rfl _ _ rfl (bs.length + 1) (by omega) _ rfl rfl (by omega) ?_)
          have hlj : (join0 bs).f6.length = bs.length + 1 := by simp [join0]
          generalize wr = wb at *
          have hal1 : Below wb.heap.size wb ((wb.alloc (.cells (Array.replicate (bs.length + 1) (.int .i64 0)) 3)).alloc (acO (join0 bs) (.slice (some ⟨wb.heap.size, 0, none⟩) (bs.length + 1) (bs.length + 1)))) := ((Below.refl wb.heap.size wb).alloc (Nat.le_refl _) _).alloc (by simp) _
          have hrow := blk_below (heap_alloc_new wb (.cells (Array.replicate (bs.length + 1) (.int .i64 0)) 3)) ((Below.refl (wb.alloc (.cells (Array.replicate (bs.length + 1) (.int .i64 0)) 3)).heap.size (wb.alloc (.cells (Array.replicate (bs.length + 1) (.int .i64 0)) 3))).alloc (Nat.le_refl _) (acO (join0 bs) (.slice (some ⟨wb.heap.size, 0, none⟩) (bs.length + 1) (bs.length + 1))))
          have hblk : ((wb.alloc (.cells (Array.replicate (bs.length + 1) (.int .i64 0)) 3)).alloc (acO (join0 bs) (.slice (some ⟨wb.heap.size, 0, none⟩) (bs.length + 1) (bs.length + 1)))).heap[wb.heap.size + 1]? = some (acO (join0 bs) (.slice (some ⟨wb.heap.size, 0, none⟩) (bs.length + 1) (bs.length + 1))) := by
            have := heap_alloc_new (wb.alloc (.cells (Array.replicate (bs.length + 1) (.int .i64 0)) 3)) (acO (join0 bs) (.slice (some ⟨wb.heap.size, 0, none⟩) (bs.length + 1) (bs.length + 1)))
            simpa using this
          have hout : OutAt wb ((wb.alloc (.cells (Array.replicate (bs.length + 1) (.int .i64 0)) 3)).alloc (acO (join0 bs) (.slice (some ⟨wb.heap.size, 0, none⟩) (bs.length + 1) (bs.length + 1)))) (wb.heap.size + 1) wb.heap.size (bs.length + 1) (join0 bs) := by
            refine ⟨by rw [hlj]; exact hblk, ?_, hal1, by omega⟩
            rw [hlj]
            exact made_own (bs.length + 1) (by omega) _ wb.heap.size hrow wb.heap.size (Nat.le_refl _)
          show Code.wp _ _ _ _ ((wb.alloc (.cells (Array.replicate (bs.length + 1) (.int .i64 0)) 3)).alloc (acO (join0 bs) (.slice (some ⟨wb.heap.size, 0, none⟩) (bs.length + 1) (bs.length + 1))))
          have HOUT := Lib.hid hout
          clear hal1 hrow hblk hout hlj hd
          generalize (wb.alloc (.cells (Array.replicate (bs.length + 1) (.int .i64 0)) 3)).alloc (acO (join0 bs) (.slice (some ⟨wb.heap.size, 0, none⟩) (bs.length + 1) (bs.length + 1))) = w5 at *
          go_loopw [37] (fun i wx => ∃ k : Nat, i = .int .i64 k ∧ k ≤ xs.length ∧ OutAt wb wx (wb.heap.size + 1) wb.heap.size (bs.length + 1) (joinA bs (xs.take k))) (fun i _ => xs.length - (intOf i).toNat)
          case atStart => exact ⟨0, rfl, by omega, HOUT.out⟩
          case round =>
            obtain ⟨k, rfl, hk, hoo⟩ := hrel
            have HOO := Lib.hid hoo
            clear hoo HOUT
            by_cases hlt : k < xs.length
            · obtain ⟨b, o, rfl, hbs, hcells⟩ := HA.out (by omega)
              have hx := (hcells k hlt).below HB1.out
              obtain ⟨Ah, ch, e0, _⟩ := hx.below HOO.out.bel
              have hfx := amay_fit (HALL.out _ (getD_mem28 hlt))
              have hfo := (join_fit HBM.out HALL.out H8.out k hk).1
              have hlen := hfo.len
              have HSN := Lib.hid (join_snoc (bs := bs) hlt)
              have HX := Lib.hid hx
              have HOK := Lib.hid (fit_ok hfo hfx)
              generalize xs.getD k z28 = x at *
              generalize joinA bs (xs.take k) = oj at *
              have h9 : oj.f6.length ≤ 9 := by omega
              clear hcells hx hfx hfo hlen
              by_cases h0 : 0 < x.f0
              · have hd : decide (0 < x.f0) = true := decide_eq_true h0
                have hst : stepA oj x = addA oj x := if_pos h0
                rw [hst] at HSN
                clear h0 hst
                go_wp2_with fail
                refine (add_any oj x wb _ _ _ _ b (o + k * 13) HOO.out HX.out HOK.out h9).mono ?_
                rintro e w6 ⟨rfl, ho6⟩
                have HO6 := Lib.hid ho6
                clear ho6 HOO
                go_wp2_with fail
                exact ⟨⟨k + 1, by go_num, by omega, by rw [HSN.out]; exact HO6.out⟩, by simp [intOf]; omega⟩
              · have hd : decide (0 < x.f0) = false := decide_eq_false h0
                have hst : stepA oj x = oj := if_neg h0
                rw [hst] at HSN
                clear h0 hst
                go_wp2_with fail
                exact ⟨⟨k + 1, by go_num, by omega, by rw [HSN.out]; exact HOO.out⟩, by simp [intOf]; omega⟩
            · obtain rfl : k = xs.length := by omega
              have hoo := HOO.out
              rw [List.take_length] at hoo
              generalize joinA bs xs = oj at *
              have hzr := blk_below HZ1.out hoo.bel
              have hres := blk_lt HZ1.out
              obtain ⟨a0, a1, a2, a3, a4, a5, a6, a7, a8, a9, a10, a11, a12, al⟩ := acO_facts hoo.blk
              obtain ⟨z0, z1, z2, z3, z4, z5, z6, z7, z8, z9, z10, z11, z12, zl⟩ := acO_facts hzr
              have hf := fun j => blk_free hzr j
              have HOF := Lib.hid hoo
              have HZR := Lib.hid hzr
              clear hoo hzr HOO
              go_wp2_with fail
              show bodyPost _ _ _ _ _ (putA wr w.heap.size oj (.slice (some ⟨wb.heap.size, 0, none⟩) oj.f6.length (bs.length + 1)))
              have hz2 := putA_blk (a := oj) (v := .slice (some ⟨wb.heap.size, 0, none⟩) oj.f6.length (bs.length + 1)) HZR.out
              have hch := putA_chg wr w.heap.size oj (.slice (some ⟨wb.heap.size, 0, none⟩) oj.f6.length (bs.length + 1))
              refine bodyPost_ret (results_acc rfl _ _ w.heap.size oj (.slice (some ⟨wb.heap.size, 0, none⟩) oj.f6.length (bs.length + 1)) rfl hz2) rfl ?_
              refine ⟨.slice (some ⟨wb.heap.size, 0, none⟩) oj.f6.length (bs.length + 1), ?_, ?_, ?_⟩
              · rw [HRES.out]; rfl
              · rw [HRES.out]
                refine own_weaken (HOF.out.row.keep hch (fun k hk e => ?_)) (by omega)
                have e1 : wb.heap.size = k := by simpa [Value.ownBlock] using hk
                omega
              · have hb2 := HB1.out.trans (HOF.out.bel.mono HB1.out.size)
                exact Chg.base hb2 hch hb2.size (fun i hi => by omega)
  · have h1' := bne_ h1
    have hres : joinRes bs xs = (z28, 100) := by unfold joinRes; rw [if_neg h1]
    have HRES := Lib.hid hres
    rw [h1']
    clear hres h1 h1'
    obtain ⟨z0, z1, z2, z3, z4, z5, z6, z7, z8, z9, z10, z11, z12, zl⟩ := acO_facts HZ.out
    have hf := fun j => blk_free HZ.out j
    go_wp2_with fail
    show bodyPost _ _ _ _ _ (putA w2 w.heap.size z28 (.slice none 0 0))
    have hz2 := putA_blk (a := z28) (v := .slice none 0 0) HZ.out
    have hch := putA_chg w2 w.heap.size z28 (.slice none 0 0)
    refine bodyPost_ret (results_acc rfl _ _ w.heap.size z28 (.slice none 0 0) rfl hz2) rfl ?_
    refine ⟨.slice none 0 0, ?_, ?_, ?_⟩
    · rw [HRES.out]; rfl
    · rw [HRES.out]; exact Own.nil _ _
    · exact Chg.base HB.out hch HB.out.size (fun i hi => by omega)
end Go.Proofs.Ytggaefklcpbfnaa.My
