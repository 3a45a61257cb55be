/- The heap's functions, walked: an item sinks. No statement of the seed is proved here. -/
import Derived.Test.YtcleljmbdiddeaaHeapA
import Derived.Deep.DeepCutAuto
import Derived.Deep.CutBlock
namespace Go.Proofs.Ytcleljmbdiddeaa
open Go.RowKit HP PHeaps

theorem kid_yes {ys : List It} {k : Nat} (h1 : 2 * k + 1 + 1 < ys.length) (h2 : lt (at_ ys (2 * k + 1 + 1)) (at_ ys (2 * k + 1)) = true) : kid ys k = 2 * k + 1 + 1 := by unfold kid; rw [if_pos ⟨h1, h2⟩]
theorem kid_no {ys : List It} {k : Nat} (h2 : lt (at_ ys (2 * k + 1 + 1)) (at_ ys (2 * k + 1)) = false) : kid ys k = 2 * k + 1 := by unfold kid; rw [if_neg (fun h => by rw [h2] at h; exact absurd h.2 (by simp))]
theorem kid_last {ys : List It} {k : Nat} (h1 : ¬ 2 * k + 1 + 1 < ys.length) : kid ys k = 2 * k + 1 := by unfold kid; rw [if_neg (fun h => h1 h.1)]

set_option maxHeartbeats 2000000 in
set_option maxRecDepth 100000 in
theorem down_any (S : Nat → Prop) (g b n cap i : Nat) (most : Int) (xs : List It) (w0 w : World) (hn : n ≤ 10000) (hi : i ≤ n) (hm : Mid S w0 w g b n cap most xs) :
    Calls Try.prog 32 #[.pointer (some ⟨g, 0, none⟩), .int .i64 i] w fun e w' => e = .returned (.tuple #[]) ∧ Mid S w0 w' g b n cap most (down xs i) := by
  go_enter Try.func32, Try.ntmps32
  go_wp2
  go_loopw [1, 4] (fun j _ wr => ∃ k : Nat, j = .int .i64 k ∧ k ≤ n ∧ ∃ ys, Mid S w0 wr g b n cap most ys ∧ Rel (down ys k = down xs i)) (fun j _ wr => n - (intOf j).toNat)
  case atStart => exact ⟨i, rfl, hi, xs, hm, rfl⟩
  case round =>
    obtain ⟨k, rfl, hk, ys, hy, hr⟩ := hrel
    go_upto_region 3 with fail
    go_cut [33] from 5 to 87 (fun c wc => ∃ yes : Bool, c = .bool yes ∧ Rel (kid ys k = if yes = true then 2 * k + 1 + 1 else 2 * k + 1) ∧ Mid S w0 wc g b n cap most ys)
    case first =>
      by_cases h2 : 2 * k + 1 + 1 < n
      · obtain ⟨c1, hg, hb⟩ := hy.facts
        obtain ⟨a0, a1, a2, a3⟩ := hy.get h2
        obtain ⟨b0, b1, b2, b3⟩ := hy.get (show 2 * k + 1 < n by omega)
        have hd : decide (2 * (k : Int) + 1 + 1 < n) = true := decide_eq_true (by omega)
        by_cases hlt : lt (at_ ys (2 * k + 1 + 1)) (at_ ys (2 * k + 1)) = true
        · have H := Lib.hid hlt
          clear hlt
          go_wp2_with fail
          refine Txt.wp_region_text (by kernel_rfl) (by kernel_rfl) ?_
          repeat (first
            | (refine Txt.text_p (by rfl) rfl (fun K hK => ?_); go_big_quiet_op; refine hK _ ?_; clear hK K)
            | (refine Txt.text_r (by rfl) rfl (fun K hK => ?_); go_big_quiet_op; refine hK _ ?_; clear hK K)
            | (refine Txt.text_pass (by rfl) (by rfl) ?_; simp only [List.set_cons_succ, List.set_cons_zero]))
          refine Txt.text_a (by rfl) rfl (fun K hK => ?_)
          clear c1 a0 a1 a2 a3 b0 b1 b2 b3 hg hb
          go_wp2_with fail
          refine (less_yes (at_ ys (2 * k + 1 + 1)) (at_ ys (2 * k + 1)) _ H.out).mono ?_
          rintro e w1 ⟨rfl, hb1⟩
          have hy1 := hy.drew.below hb1
          clear hy hb1
          go_wp2_with fail
          repeat (first
            | (refine Txt.text_p (by rfl) rfl (fun K hK => ?_); go_big_quiet_op; refine hK _ ?_; clear hK K)
            | (refine Txt.text_r (by rfl) rfl (fun K hK => ?_); go_big_quiet_op; refine hK _ ?_; clear hK K)
            | (refine Txt.text_pass (by rfl) (by rfl) ?_; simp only [List.set_cons_succ, List.set_cons_zero]))
          refine Txt.text_nil ?_
          go_wp2_with fail
          go_meet
          exact ⟨true, rfl, kid_yes (by rw [hy1.len]; exact h2) H.out, hy1⟩
        · have H := Lib.hid (show lt (at_ ys (2 * k + 1 + 1)) (at_ ys (2 * k + 1)) = false by simpa using hlt)
          clear hlt
          go_wp2_with fail
          refine Txt.wp_region_text (by kernel_rfl) (by kernel_rfl) ?_
          repeat (first
            | (refine Txt.text_p (by rfl) rfl (fun K hK => ?_); go_big_quiet_op; refine hK _ ?_; clear hK K)
            | (refine Txt.text_r (by rfl) rfl (fun K hK => ?_); go_big_quiet_op; refine hK _ ?_; clear hK K)
            | (refine Txt.text_pass (by rfl) (by rfl) ?_; simp only [List.set_cons_succ, List.set_cons_zero]))
          refine Txt.text_a (by rfl) rfl (fun K hK => ?_)
          clear c1 a0 a1 a2 a3 b0 b1 b2 b3 hg hb
          go_wp2_with fail
          refine (less_no (at_ ys (2 * k + 1 + 1)) (at_ ys (2 * k + 1)) _ H.out).mono ?_
          rintro e w1 ⟨rfl, hb1⟩
          have hy1 := hy.drew.below hb1
          clear hy hb1
          go_wp2_with fail
          repeat (first
            | (refine Txt.text_p (by rfl) rfl (fun K hK => ?_); go_big_quiet_op; refine hK _ ?_; clear hK K)
            | (refine Txt.text_r (by rfl) rfl (fun K hK => ?_); go_big_quiet_op; refine hK _ ?_; clear hK K)
            | (refine Txt.text_pass (by rfl) (by rfl) ?_; simp only [List.set_cons_succ, List.set_cons_zero]))
          refine Txt.text_nil ?_
          go_wp2_with fail
          go_meet
          exact ⟨false, rfl, kid_no H.out, hy1⟩
      · obtain ⟨c1, hg, hb⟩ := hy.facts
        have hd : decide (2 * (k : Int) + 1 + 1 < n) = false := decide_eq_false (by omega)
        go_wp2_with fail
        refine Txt.wp_region_text (by kernel_rfl) (by kernel_rfl) ?_
        repeat (first
          | (refine Txt.text_p (by rfl) rfl (fun K hK => ?_); go_big_quiet_op; refine hK _ ?_; clear hK K)
          | (refine Txt.text_r (by rfl) rfl (fun K hK => ?_); go_big_quiet_op; refine hK _ ?_; clear hK K)
          | (refine Txt.text_pass (by rfl) (by rfl) ?_; simp only [List.set_cons_succ, List.set_cons_zero]))
        refine Txt.text_nil ?_
        go_wp2_with fail
        go_meet
        exact ⟨false, rfl, kid_last (by rw [hy.len]; exact h2), hy.drew⟩
    case rest =>
      obtain ⟨yes, rfl, hkid, hy⟩ := hcut
      have hgo : kid ys k < ys.length → lt (at_ ys (kid ys k)) (at_ ys k) = true → down ys k = down (swap ys k (kid ys k)) (kid ys k) := down_go
      have hend : ¬ (kid ys k < ys.length ∧ lt (at_ ys (kid ys k)) (at_ ys k) = true) → down ys k = ys := down_end
      rw [show kid ys k = _ from hkid] at hgo hend
      have HG := Lib.hid hgo
      have HE := Lib.hid hend
      have HL := Lib.hid hy.len
      clear hgo hend hkid
      obtain ⟨m, hm, hk2⟩ : ∃ m : Nat, (if yes = true then 2 * k + 1 + 1 else 2 * k + 1) = m ∧ k < m := ⟨_, rfl, by split <;> omega⟩
      rw [hm] at HG HE
      have hmi : (if yes = true then (2 : Int) * k + 1 + 1 else 2 * k + 1) = m := by rw [← hm]; split <;> rfl
      have HM := Lib.hid hmi
      clear hm hmi
      cases yes
      all_goals
        obtain ⟨c1, hg, hb⟩ := hy.facts
        go_wp2_with fail
        first | rw [show (2 : Int) * k + 1 = m from HM.out] | rw [show (2 : Int) * k + 1 + 1 = m from HM.out]
        by_cases hmn : m < n
        · have hd : decide (n ≤ m) = false := decide_eq_false (by omega)
          by_cases hlt : lt (at_ ys m) (at_ ys k) = true
          · have H := Lib.hid hlt
            clear hlt
            obtain ⟨a0, a1, a2, a3⟩ := hy.get hmn
            obtain ⟨b0, b1, b2, b3⟩ := hy.get (show k < n by omega)
            go_wp2_with fail
            refine Txt.wp_region_text (by kernel_rfl) (by kernel_rfl) ?_
            repeat (first
              | (refine Txt.text_p (by rfl) rfl (fun K hK => ?_); go_big_quiet_op; refine hK _ ?_; clear hK K)
              | (refine Txt.text_r (by rfl) rfl (fun K hK => ?_); go_big_quiet_op; refine hK _ ?_; clear hK K)
              | (refine Txt.text_pass (by rfl) (by rfl) ?_; simp only [List.set_cons_succ, List.set_cons_zero]))
            refine Txt.text_a (by rfl) rfl (fun K hK => ?_)
            clear c1 a0 a1 a2 a3 b0 b1 b2 b3 hg hb
            go_wp2_with fail
            refine (less_yes (at_ ys m) (at_ ys k) _ H.out).mono ?_
            rintro e w1 ⟨rfl, hb1⟩
            have hy1 := hy.drew.below hb1
            clear hy hb1
            obtain ⟨c1, hg, hb⟩ := hy1.facts
            obtain ⟨a0, a1, a2, a3⟩ := hy1.get hmn
            obtain ⟨b0, b1, b2, b3⟩ := hy1.get (show k < n by omega)
            have hgb := hy1.ne
            have hfz := hy1.free
            go_wp2_with fail
            repeat (first
              | (refine Txt.text_p (by rfl) rfl (fun K hK => ?_); go_big_quiet_op; refine hK _ ?_; clear hK K)
              | (refine Txt.text_r (by rfl) rfl (fun K hK => ?_); go_big_quiet_op; refine hK _ ?_; clear hK K)
              | (refine Txt.text_pass (by rfl) (by rfl) ?_; simp only [List.set_cons_succ, List.set_cons_zero]))
            refine Txt.text_nil ?_
            go_wp2_with fail
            refine Txt.wp_region_text (by kernel_rfl) (by kernel_rfl) ?_
            repeat (first
              | (refine Txt.text_p (by rfl) rfl (fun K hK => ?_); go_big_quiet_op; refine hK _ ?_; clear hK K)
              | (refine Txt.text_r (by rfl) rfl (fun K hK => ?_); go_big_quiet_op; refine hK _ ?_; clear hK K)
              | (refine Txt.text_pass (by rfl) (by rfl) ?_; simp only [List.set_cons_succ, List.set_cons_zero]))
            refine Txt.text_a (by rfl) rfl (fun K hK => ?_)
            go_wp2_with fail
            show Txt.wpText _ _ _ _ _ (put4 w1.drew b k (at_ ys m))
            have hy2 := hy1.drew.put (show k < n by omega) (at_ ys m)
            generalize put4 w1.drew b k (at_ ys m) = w2 at hy2 ⊢
            clear a0 a1 a2 a3 b0 b1 b2 b3 hfz c1
            obtain ⟨b0, b1, b2, b3⟩ := hy2.get hmn
            have hfz := hy2.free
            repeat (first
              | (refine Txt.text_p (by rfl) rfl (fun K hK => ?_); go_big_quiet_op; refine hK _ ?_; clear hK K)
              | (refine Txt.text_r (by rfl) rfl (fun K hK => ?_); go_big_quiet_op; refine hK _ ?_; clear hK K)
              | (refine Txt.text_pass (by rfl) (by rfl) ?_; simp only [List.set_cons_succ, List.set_cons_zero]))
            refine Txt.text_a (by rfl) rfl (fun K hK => ?_)
            go_wp2_with fail
            show Txt.wpText _ _ _ _ _ (put4 w2 b m (at_ ys k))
            have hy3 := hy2.put hmn (at_ ys k)
            generalize put4 w2 b m (at_ ys k) = w3 at hy3 ⊢
            clear b0 b1 b2 b3 hfz
            refine Txt.text_nil ?_
            go_wp2_with fail
            go_roundw
            case rel => exact ⟨m, rfl, by omega, swap ys k m, hy3, by rw [← HG.out (by rw [HL.out]; exact hmn) H.out]; exact hr⟩
            case measure => simp [intOf]; omega
          · have H := Lib.hid (show lt (at_ ys m) (at_ ys k) = false by simpa using hlt)
            clear hlt
            obtain ⟨a0, a1, a2, a3⟩ := hy.get hmn
            obtain ⟨b0, b1, b2, b3⟩ := hy.get (show k < n by omega)
            go_wp2_with fail
            refine Txt.wp_region_text (by kernel_rfl) (by kernel_rfl) ?_
            repeat (first
              | (refine Txt.text_p (by rfl) rfl (fun K hK => ?_); go_big_quiet_op; refine hK _ ?_; clear hK K)
              | (refine Txt.text_r (by rfl) rfl (fun K hK => ?_); go_big_quiet_op; refine hK _ ?_; clear hK K)
              | (refine Txt.text_pass (by rfl) (by rfl) ?_; simp only [List.set_cons_succ, List.set_cons_zero]))
            refine Txt.text_a (by rfl) rfl (fun K hK => ?_)
            clear c1 a0 a1 a2 a3 b0 b1 b2 b3 hg hb
            go_wp2_with fail
            refine (less_no (at_ ys m) (at_ ys k) _ H.out).mono ?_
            rintro e w1 ⟨rfl, hb1⟩
            have hy1 := hy.drew.below hb1
            clear hy hb1
            go_wp2_with fail
            repeat (first
              | (refine Txt.text_p (by rfl) rfl (fun K hK => ?_); go_big_quiet_op; refine hK _ ?_; clear hK K)
              | (refine Txt.text_r (by rfl) rfl (fun K hK => ?_); go_big_quiet_op; refine hK _ ?_; clear hK K)
              | (refine Txt.text_pass (by rfl) (by rfl) ?_; simp only [List.set_cons_succ, List.set_cons_zero]))
            refine Txt.text_nil ?_
            go_wp2_with fail
            (try simp only [Exit.inBlock, Exit.then])
            refine bodyPost_ret (results_none rfl _ _ _) rfl ?_
            exact ⟨rfl, by rw [← hr, HE.out (fun h => by rw [H.out] at h; exact absurd h.2 (by simp))]; exact hy1⟩
        · have hd : decide (n ≤ m) = true := decide_eq_true (by omega)
          go_wp2_with fail
          refine Txt.wp_region_text (by kernel_rfl) (by kernel_rfl) ?_
          repeat (first
            | (refine Txt.text_p (by rfl) rfl (fun K hK => ?_); go_big_quiet_op; refine hK _ ?_; clear hK K)
            | (refine Txt.text_r (by rfl) rfl (fun K hK => ?_); go_big_quiet_op; refine hK _ ?_; clear hK K)
            | (refine Txt.text_pass (by rfl) (by rfl) ?_; simp only [List.set_cons_succ, List.set_cons_zero]))
          refine Txt.text_nil ?_
          go_wp2_with fail
          (try simp only [Exit.inBlock, Exit.then])
          refine bodyPost_ret (results_none rfl _ _ _) rfl ?_
          exact ⟨rfl, by rw [← hr, HE.out (fun h => by rw [HL.out] at h; exact absurd h.1 hmn)]; exact hy.drew⟩
end Go.Proofs.Ytcleljmbdiddeaa
