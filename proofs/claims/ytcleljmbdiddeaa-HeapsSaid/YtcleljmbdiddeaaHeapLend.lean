/- The law's memory: items are copied, lent with two marked ones behind them. No statement of the seed is proved here. -/
import Derived.Test.YtcleljmbdiddeaaHeapRefQ
namespace Go.Proofs.Ytcleljmbdiddeaa
open Go.RowKit HP PHeaps

set_option maxHeartbeats 2000000 in
set_option maxRecDepth 100000 in
theorem copy_any (A : Option Addr) (c : Nat) (ys : List It) (w : World) (hA : Rd w A ys) (hn : ys.length ≤ 4000000000000) (h0 : A = none → c = 0) :
    Calls Try.prog 33 #[.slice A ys.length c] w fun e w' => ∃ v', e = .returned v' ∧ w'.ownsRow 0 34 4 v' ys.length (flat ys) ∧ Below w.heap.size w w' ∧ ∀ k, v'.ownBlock = some k → w.heap.size ≤ k := by
  have HA := Lib.hid hA
  clear hA
  go_enter Try.func33, Try.ntmps33
  go_wp2_with (at_builtin; refine at_append _ _ _ rfl ?_)
  have hal := (Below.refl w.heap.size w).alloc (Nat.le_refl _) (.cells #[] 34)
  refine cat_any (.tmp 3) (.tmp 4) rfl rfl (fresh_row w) rfl A ys ys.length c rfl rfl (HA.out.quiet hal) h0 (by simp <;> omega) ?_
  rintro v1 w4 row1 hgr1 hat1
  rw [List.nil_append] at row1
  have own1 : ∀ k, v1.ownBlock = some k → w.heap.size ≤ k := fun k hk => by
    rcases hat1 with e | e
    · rw [hk] at e
      have e1 : k = w.heap.size := by simpa [Value.ownBlock] using e
      omega
    · rw [hk] at e
      have e1 : k = w.heap.size + 1 := by simpa using e
      omega
  have hb4 := below_grown hal hgr1 hal.size (fun k hk => by
    have e1 : w.heap.size = k := by simpa [Value.ownBlock] using hk
    omega)
  simp only [Act.put, List.setIfInBounds_toArray, List.set_cons_succ, List.set_cons_zero]
  go_wp2_with fail
  go_ret
  exact ⟨_, rfl, row1, hb4, own1⟩

def mark : It := ⟨0, 0, 77777, 0⟩

set_option maxHeartbeats 2000000 in
set_option maxRecDepth 100000 in
theorem lend_any (A : Option Addr) (c : Nat) (ys : List It) (w : World) (hA : Rd w A ys) (hn : ys.length ≤ 4000000000000) (h0 : A = none → c = 0) :
    Calls Try.prog 22 #[.slice A ys.length c] w fun e w' => ∃ b cap, e = .returned (.slice (some ⟨b, 0, none⟩) ys.length cap) ∧ w'.ownsRow 0 34 4 (.slice (some ⟨b, 0, none⟩) (ys.length + 2) cap) (ys.length + 2) (flat (ys ++ [mark, mark])) ∧ Below w.heap.size w w' ∧ w.heap.size ≤ b := by
  have HA := Lib.hid hA
  clear hA
  go_enter Try.func22, Try.ntmps22
  go_wp2_with fail
  refine (copy_any A c ys w HA.out hn h0).mono ?_
  rintro e w1 ⟨v1, rfl, row1, hb1, own1⟩
  go_wp2_with (at_builtin; refine at_append _ _ _ rfl ?_)
  have hal := (Below.refl w1.heap.size w1).alloc (Nat.le_refl _) (.cells (flat [mark, mark]).toArray 34)
  have rowe := row_keep (S := fun _ => False) row1 (Chg.of_below hal) (fun _ _ h => h)
  refine cat_any (.tmp 5) (.tmp 8) rfl rfl rowe rfl (some ⟨w1.heap.size, 0, none⟩) [mark, mark] 2 2 rfl rfl (rd_blk (ys := [mark, mark]) (sp := []) (heap_alloc_new w1 _)) (fun e => by cases e) (by omega) ?_
  rintro v2 w4 row2 hgr2 hat2
  have hbe := hb1.trans (hal.mono hb1.size)
  have hb4 := below_grown hbe hgr2 hbe.size own1
  have own2 : ∀ k, v2.ownBlock = some k → w.heap.size ≤ k := fun k hk => by
    rcases hat2 with e | e
    · exact own1 k (e.symm.trans hk)
    · rw [hk] at e
      have e1 : k = w1.heap.size + 1 := by simpa using e
      have := hb1.size
      omega
  have hl2 : (ys ++ [mark, mark]).length = ys.length + 2 := by simp
  rw [hl2] at row2
  obtain ⟨b, cap, rfl, _, _⟩ := row2.form (by omega)
  obtain ⟨hc1, hc2⟩ := row_cap row2
  have ROW := Lib.hid row2
  clear row2 rowe row1 hgr2 hat2 hal
  simp only [Act.put, List.setIfInBounds_toArray, List.set_cons_succ, List.set_cons_zero]
  go_wp2_with fail
  go_ret
  exact ⟨b, cap, rfl, ROW.out, hb4, own2 b rfl⟩
end Go.Proofs.Ytcleljmbdiddeaa
