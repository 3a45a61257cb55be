/- The law's memory: like items are told as like; what was lent is as it was. No statement of the seed is proved here. -/
import Derived.Test.YtcleljmbdiddeaaHeapLend
namespace Go.Proofs.Ytcleljmbdiddeaa
open Go.RowKit HP PHeaps
attribute [local go_sem high] eqA34

set_option maxHeartbeats 2000000 in
set_option maxRecDepth 100000 in
theorem same_any (A B : Option Addr) (c d : Nat) (ys : List It) (w : World) (hA : Rd w A ys) (hB : Rd w B ys) (hn : ys.length ≤ 4000000000000) :
    Calls Try.prog 38 #[.slice A ys.length c, .slice B ys.length d] w fun e w' => e = .returned (.bool true) ∧ Below w.heap.size w w' := by
  have HA := Lib.hid hA
  have HB := Lib.hid hB
  clear hA hB
  go_enter Try.func38, Try.ntmps38
  go_wp2_with fail
  go_loopw [5] (fun i wr => ∃ k : Nat, i = .int .i64 k ∧ k ≤ ys.length ∧ Below w.heap.size w wr) (fun i _ => ys.length - (intOf i).toNat)
  case atStart => exact ⟨0, rfl, Nat.zero_le _, Below.refl _ _⟩
  case round =>
    obtain ⟨k, rfl, hk, hb⟩ := hrel
    have HL := Lib.hid hb
    clear hb
    by_cases hlt : k < ys.length
    · obtain ⟨b, o, rfl, hbs, hcells⟩ := (HA.out.quiet HL.out) (by omega)
      obtain ⟨a0, a1, a2, a3⟩ := hcells k hlt
      obtain ⟨b2, o2, rfl, hbs2, hcells2⟩ := (HB.out.quiet HL.out) (by omega)
      obtain ⟨b0, b1, b2, b3⟩ := hcells2 k hlt
      clear hcells hcells2
      go_wp2_with fail
      refine Txt.wp_region_text (by kernel_rfl) (by kernel_rfl) ?_
      repeat (first
        | (refine Txt.text_p (by rfl) rfl (fun K hK => ?_); go_big_quiet_op; refine hK _ ?_; clear hK K)
        | (refine Txt.text_r (by rfl) rfl (fun K hK => ?_); go_big_quiet_op; refine hK _ ?_; clear hK K)
        | (refine Txt.text_pass (by rfl) (by rfl) ?_; simp only [List.set_cons_succ, List.set_cons_zero]))
      refine Txt.text_nil ?_
      go_wp2_with fail
      exact ⟨⟨k + 1, by go_num, by omega, HL.out.drew⟩, by simp [intOf]; omega⟩
    · obtain rfl : k = ys.length := by omega
      go_wp2_with fail
      go_ret
      exact ⟨rfl, HL.out⟩

set_option maxHeartbeats 2000000 in
set_option maxRecDepth 100000 in
theorem kept_any (b n cap : Nat) (B : Option Addr) (d : Nat) (ys : List It) (w : World) (h : w.ownsRow 0 34 4 (.slice (some ⟨b, 0, none⟩) (n + 2) cap) (n + 2) (flat (ys ++ [mark, mark]))) (hB : Rd w B ys) (hn : ys.length = n) (hn2 : n ≤ 4000000000000) :
    Calls Try.prog 25 #[.slice (some ⟨b, 0, none⟩) n cap, .slice B n d] w fun e w' => e = .returned (.bool true) ∧ Below w.heap.size w w' := by
  have HR := Lib.hid h
  have HB := Lib.hid hB
  obtain ⟨hc1, hc2⟩ := row_cap h
  clear h hB
  go_enter Try.func25, Try.ntmps25
  go_wp2_with fail
  have hrd : Rd w (some ⟨b, 0, none⟩) ys := by
    have h2 : Rd w (some ⟨b, 0, none⟩) (ys ++ [mark, mark]) := row_rd (c := cap) (by rw [show (ys ++ [mark, mark]).length = n + 2 by simp [hn]]; exact HR.out)
    have h3 := h2.take n
    rw [← hn, List.take_left] at h3
    exact h3
  have hp := same_any (some ⟨b, 0, none⟩) B cap d ys w hrd HB.out (by omega)
  rw [hn] at hp
  refine hp.mono ?_
  rintro e w1 ⟨rfl, hb⟩
  have hr1 := row_keep (S := fun _ => False) HR.out (Chg.of_below hb) (fun _ _ h => h)
  obtain ⟨a0, a1, a2, a3⟩ := row_get (i := n) hr1 (by simp; omega)
  obtain ⟨b0, b1, b2, b3⟩ := row_get (i := n + 1) hr1 (by simp; omega)
  have m0 : at_ (ys ++ [mark, mark]) n = mark := by simp [at_, ← hn]
  have m1 : at_ (ys ++ [mark, mark]) (n + 1) = mark := by simp [at_, ← hn, List.getD_eq_getElem?_getD]
  rw [m0] at a0 a1 a2 a3
  rw [m1] at b0 b1 b2 b3
  simp only [mark] at a0 a1 a2 a3 b0 b1 b2 b3
  obtain ⟨cur, hcur⟩ := row_blk hr1
  have hbl := blk_lt hcur
  have HX := Lib.hid hb
  clear hp hr1 hcur hb hrd m0 m1
  go_wp2_with fail
  go_ret
  exact ⟨rfl, HX.out⟩
end Go.Proofs.Ytcleljmbdiddeaa
