/- HeapTies returns true: of like times the lesser number comes first, of like ones of these the lesser series, then the value. No conditions. -/
import Derived.Test.YtcleljmbdiddeaaHeapRow
namespace Go.Proofs.Ytcleljmbdiddeaa
open Go.RowKit HP PHeaps

theorem pushRes_one {most : Int} {xs : List It} {y : It} (hy : may y = true) (ho : (xs.length : Int) + 1 ≤ most) : pushRes most xs [y] = (0, push xs y) := by
  unfold pushRes bad
  rw [if_neg (by simp [hy]), if_neg (by simp; omega)]
  simp [pushAll]
theorem popRes_some {xs : List It} (h : 0 < xs.length) : popRes xs = (at_ xs 0, 0, pop xs) := by
  unfold popRes
  rw [if_neg (by intro e; rw [e] at h; simp at h)]

def Tie (y : It) : Prop := y.t = 0 ∧ 1 ≤ y.q ∧ y.q ≤ 2 ∧ 0 ≤ y.s ∧ y.s ≤ 1 ∧ 0 ≤ y.v ∧ y.v ≤ 3
def keyOf (y : It) : Int := y.q * 100 + y.s * 10 + y.v
theorem tie_may {y : It} (h : Tie y) : may y = true := by
  unfold Tie at h
  unfold may
  rw [decide_eq_true_iff]
  omega
theorem tie_le {x y : It} (hx : Tie x) (hy : Tie y) (h : lt y x = false) : keyOf x ≤ keyOf y := by
  unfold Tie at hx hy
  rw [nlt_iff] at h
  unfold keyOf
  omega

set_option maxHeartbeats 2000000 in
set_option maxRecDepth 100000 in
theorem ties_any (A : Option Addr) (l : List Int) (c : Nat) (w : World) (hA : RdI w A l) (hl : l.length ≤ 140737488351232) :
    Calls Try.prog 7 #[.slice A l.length c] w fun e w' => e = .returned (.bool true) ∧ Below w.heap.size w w' := by
  have HA := Lib.hid hA
  clear hA
  go_enter Try.func7, Try.ntmps7
  go_wp2_with fail
  refine (awake_any _).mono ?_
  rintro e w0 ⟨rfl, hb0⟩
  go_wp2_with fail
  refine (new_ok 100 _ (by decide) (by decide)).mono ?_
  rintro e w1 ⟨rfl, rfl⟩
  have h0 := new_hs (w0 := w) (w := w0) 100 hb0
  generalize w0.alloc (.cells #[.int .i64 100, .slice none 0 0] 54) = w1 at *
  clear hb0
  generalize w0.heap.size = g at *
  generalize Value.slice none 0 0 = v at *
  have H := Lib.hid h0
  clear h0
  go_wp2_with fail
  refine (num_any _ _).mono ?_
  rintro e w' ⟨rfl, rfl⟩
  go_wp2_with fail
  all_goals
    go_loopw [6] (fun i wr => ∃ k : Nat, i = .int .i64 k ∧ k ≤ l.length ∧ k ≤ 40 ∧ ∃ v xs, HS w wr g v 100 xs ∧ Rel (xs.length = k ∧ ∀ y ∈ xs, Tie y)) (fun i _ => l.length - (intOf i).toNat)
    case atStart => exact ⟨0, rfl, by omega, by omega, v, [], H.out, rfl, fun y hy => absurd hy (by simp)⟩
    case round =>
      obtain ⟨k, rfl, hk, hk4, v1, xs, hs, hx⟩ := hrel
      have HX := Lib.hid hx
      have H1 := Lib.hid hs
      have HH := Lib.hid hs.heap
      clear hx hs
      by_cases hlt : k < l.length ∧ k < 40
      · obtain ⟨hk1, hk2⟩ := hlt
        obtain ⟨b, o, rfl, hbs, hcells⟩ := HA.out (by omega)
        have e0 := H1.out.bel.cell (p := ⟨b, o + k, none⟩) hbs
        rw [hcells k hk1] at e0
        clear hcells hbs
        generalize l.getD k 0 = p at *
        obtain ⟨m0, m1⟩ := and1 p
        obtain ⟨m2, m3⟩ := and1 (p / 2)
        obtain ⟨m4, m5⟩ := and3 (p / 4)
        go_wp2_with fail
        refine Txt.wp_region_text (by kernel_rfl) (by kernel_rfl) ?_
        repeat (first
          | (refine Txt.text_p (by rfl) rfl (fun K hK => ?_); go_big_quiet_op; refine hK _ ?_; clear hK K)
          | (refine Txt.text_r (by rfl) rfl (fun K hK => ?_); go_big_quiet_op; refine hK _ ?_; clear hK K)
          | (refine Txt.text_pass (by rfl) (by rfl) ?_; simp only [List.set_cons_succ, List.set_cons_zero]))
        refine Txt.text_a (by rfl) rfl (fun K hK => ?_)
        clear e0
        go_wp2_with fail
        refine (item_any _ _ _ _ _).mono ?_
        rintro e wa ⟨rfl, hb⟩
        have H2 := Lib.hid (H1.out.quiet (Below.trans ((Below.refl wr.heap.size wr).drew) hb))
        clear hb H1
        generalize hA1 : bits .and .i64 p 1 = x1 at *
        generalize hA2 : bits .and .i64 (p / 2) 1 = x2 at *
        generalize hA3 : bits .and .i64 (p / 4) 3 = x3 at *
        clear hA1 hA2 hA3
        go_wp2_with fail
        repeat (first
          | (refine Txt.text_p (by rfl) rfl (fun K hK => ?_); go_big_quiet_op; refine hK _ ?_; clear hK K)
          | (refine Txt.text_r (by rfl) rfl (fun K hK => ?_); go_big_quiet_op; refine hK _ ?_; clear hK K)
          | (refine Txt.text_pass (by rfl) (by rfl) ?_; simp only [List.set_cons_succ, List.set_cons_zero]))
        refine Txt.text_a (by rfl) rfl (fun K hK => ?_)
        go_wp2_with fail
        have hr := rd_blk (ys := [⟨x1, 0, 1 + x2, x3⟩]) (sp := []) (heap_alloc_new wa (itObj ⟨x1, 0, 1 + x2, x3⟩))
        have hn : ¬ own g v1 wa.heap.size := fun h => by have := H2.out.lt _ h; omega
        have hb := (Below.refl wa.heap.size wa).alloc (Nat.le_refl _) (itObj ⟨x1, 0, 1 + x2, x3⟩)
        have ht : Tie ⟨x1, 0, 1 + x2, x3⟩ := ⟨rfl, by simp only []; omega, by simp only []; omega, m0, m1, m4, m5⟩
        have hpr := pushRes_one (most := 100) (xs := xs) (tie_may ht) (by have := HX.out.1; omega)
        have HR := Lib.hid hr
        have HN := Lib.hid hn
        have HB := Lib.hid hb
        have HT := Lib.hid ht
        have HP := Lib.hid hpr
        clear hr hn hb ht hpr
        refine Txt.text_a (by rfl) rfl (fun K hK => ?_)
        go_wp2_with fail
        refine (push_hs [⟨x1, 0, 1 + x2, x3⟩] _ 1 (H2.out.quiet HB.out) HR.out (fun b o e => by injection e with e; injection e with e; rw [← e]; exact HN.out) (by decide) (by have := HX.out.1; omega) (by simp)).mono ?_
        rintro e wb ⟨rfl, v2, h4, -⟩
        rw [HP.out] at h4 ⊢
        have H3 := Lib.hid h4
        clear h4 HB HR HN H2
        go_wp2_with fail
        repeat (first
          | (refine Txt.text_p (by rfl) rfl (fun K hK => ?_); go_big_quiet_op; refine hK _ ?_; clear hK K)
          | (refine Txt.text_r (by rfl) rfl (fun K hK => ?_); go_big_quiet_op; refine hK _ ?_; clear hK K)
          | (refine Txt.text_pass (by rfl) (by rfl) ?_; simp only [List.set_cons_succ, List.set_cons_zero]))
        refine Txt.text_nil ?_
        go_wp2_with fail
        refine (num_any _ _).mono ?_
        rintro e w' ⟨rfl, rfl⟩
        go_wp2_with fail
        go_roundw
        case rel =>
          refine ⟨k + 1, by go_num, by omega, by omega, v2, _, H3.out, ?_, ?_⟩
          · have := push_length xs HH.out ⟨x1, 0, 1 + x2, x3⟩
            rw [this, HX.out.1]
          · intro y hy
            have := (push_spec HH.out ⟨x1, 0, 1 + x2, x3⟩).2.mem_iff.1 hy
            rcases List.mem_cons.1 this with rfl | h
            · exact HT.out
            · exact HX.out.2 y h
        case measure => simp [intOf]; omega
      · have hk5 : (k = l.length ∨ k = 40) := by omega
        first
        | (have hd : decide ((k : Int) < 40) = false := decide_eq_false (by omega))
        | (have hd : decide (k < l.length) = false := decide_eq_false (by omega))
        go_wp2_with fail
        go_loopw [8, 9] (fun z i wx => ∃ (j : Nat) (n : Int), i = .int .i64 j ∧ z = .int .i64 n ∧ j ≤ k ∧ -1 ≤ n ∧ n ≤ 1000 ∧ ∃ v xs, HS w wx g v 100 xs ∧ Rel (xs.length = k - j ∧ ∀ y ∈ xs, Tie y ∧ n ≤ keyOf y)) (fun _ i _ => k - (intOf i).toNat)
        case atStart => exact ⟨0, -1, rfl, rfl, by omega, by omega, by omega, v1, xs, H1.out, HX.out.1, fun y hy => ⟨HX.out.2 y hy, by have := HX.out.2 y hy; unfold Tie at this; unfold keyOf; omega⟩⟩
        case round =>
          obtain ⟨j, n, rfl, rfl, hj, hn1, hn2, v2, ys, hs2, hy2⟩ := hrel
          have HY := Lib.hid hy2
          have H4 := Lib.hid hs2
          clear hs2 hy2
          by_cases hjk : j < k
          · have hpos : 0 < ys.length := by have := HY.out.1; omega
            have hmem : at_ ys 0 ∈ ys := by rw [at_eq hpos]; exact List.getElem_mem hpos
            obtain ⟨⟨ht0, ht1, ht2, ht3, ht4, ht5, ht6⟩, hkey⟩ := HY.out.2 _ hmem
            have HT := Lib.hid (HY.out.2 _ hmem)
            have HP := Lib.hid (popRes_some hpos)
            have HPS := Lib.hid (pop_spec H4.out.heap hpos)
            have HLE := Lib.hid (fun y hy => heap_head_le H4.out.heap (x := y) hy)
            unfold keyOf at hkey
            clear hpos hmem ht0
            go_wp2_with fail
            refine (pop_hs H4.out (by have := HY.out.1; omega)).mono ?_
            rintro e wb ⟨rfl, v3, h5, -⟩
            rw [HP.out] at h5 ⊢
            have hb := (Below.refl wb.heap.size wb).alloc (Nat.le_refl _) (itObj (at_ ys 0))
            have H5 := Lib.hid (h5.quiet hb)
            clear h5 hb
            go_wp2_with fail
            refine (num_any _ _).mono ?_
            rintro e w' ⟨rfl, rfl⟩
            go_wp2_with fail
            go_roundw
            case rel =>
              refine ⟨j + 1, keyOf (at_ ys 0), by go_num, rfl, by omega, ?_, ?_, v3, _, H5.out, ?_, ?_⟩
              · unfold keyOf; omega
              · unfold keyOf; omega
              · have := HPS.out.2.length_eq
                simp only [List.length_cons] at this
                have := HY.out.1
                omega
              · intro y hy
                have hy' : y ∈ ys := HPS.out.2.mem_iff.1 (List.mem_cons_of_mem _ hy)
                exact ⟨(HY.out.2 y hy').1, tie_le HT.out.1 (HY.out.2 y hy').1 (HLE.out y hy')⟩
            case measure => simp [intOf]; omega
          · have hz : ys.length = 0 := by have := HY.out.1; omega
            have HZ := Lib.hid hz
            clear hz
            go_wp2_with fail
            refine (len_hs H4.out).mono ?_
            rintro e w' ⟨rfl, rfl⟩
            rw [HZ.out]
            go_wp2_with fail
            go_ret
            exact ⟨rfl, H4.out.bel⟩
theorem ties_walk (A : Option Addr) (l : List Int) (c : Nat) (w : World) (hA : RdI w A l) (hl : l.length * 8 ≤ 140737488351232) (_ : ∀ n ∈ l, (Lit.int .i64 n).wf = true) :
    Calls Try.prog 7 #[.slice A l.length c] w fun e w' => e = .returned (.bool true) ∧ Below w.heap.size w w' := ties_any A l c w hA (by omega)
end Go.Proofs.Ytcleljmbdiddeaa
