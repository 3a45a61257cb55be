/- The law's memory: what was lent is written over; nothing else is. No statement of the seed is proved here. -/
import Derived.Test.YtcleljmbdiddeaaHeapKept
namespace Go.Proofs.Ytcleljmbdiddeaa
open Go.RowKit HP PHeaps

set_option maxHeartbeats 2000000 in
set_option maxRecDepth 100000 in
theorem spoil_any (b n m cap : Nat) (ys : List It) (w : World) (h : w.ownsRow 0 34 4 (.slice (some ⟨b, 0, none⟩) m cap) m (flat ys)) (hn : n ≤ m) (hm : m ≤ 4000000000000) :
    Calls Try.prog 26 #[.slice (some ⟨b, 0, none⟩) n cap] w fun e w' => e = .returned (.tuple #[]) ∧ Chg (fun k => k = b) w w' := by
  have HR := Lib.hid h
  clear h
  go_enter Try.func26, Try.ntmps26
  go_wp2_with fail
  go_loopw [2] (fun i wr => ∃ k : Nat, i = .int .i64 k ∧ k ≤ n ∧ ∃ zs, wr.ownsRow 0 34 4 (.slice (some ⟨b, 0, none⟩) m cap) m (flat zs) ∧ Chg (fun k => k = b) w wr) (fun i _ => n - (intOf i).toNat)
  case atStart => exact ⟨0, rfl, Nat.zero_le _, ys, HR.out, Chg.refl _ _⟩
  case round =>
    obtain ⟨k, rfl, hk, zs, hr, hc⟩ := hrel
    have H1 := Lib.hid hr
    have HC := Lib.hid hc
    have hzl : zs.length = m := by have := hr.1; rw [flat_length] at this; omega
    clear hc
    by_cases hlt : k < n
    · obtain ⟨a0, a1, a2, a3⟩ := row_get hr (i := k) (by omega)
      obtain ⟨cur, hcur⟩ := row_blk hr
      have hf := blk_free hcur
      have hbl := blk_lt hcur
      clear hcur hr
      go_wp2_with fail
      refine ⟨⟨k + 1, by go_num, by omega, zs.set k (setq (at_ zs k) (bits .xor .i64 (at_ zs k).q 90)), ?_, HC.out.setCell (p := ⟨b, k * 4 + 2, none⟩) (.inl rfl) _⟩, by simp [intOf]; omega⟩
      rw [flat_setq _ (by omega)]
      exact (H1.out.stored _ _).1
    · obtain rfl : k = n := by omega
      go_wp2_with fail
      exact bodyPost_end (results_none rfl _ _ _) rfl ⟨rfl, HC.out⟩
end Go.Proofs.Ytcleljmbdiddeaa
