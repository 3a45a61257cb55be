/- The heap's functions, walked: an item's order; an item rises. No statement of the seed is proved here. -/
import Derived.Test.YtcleljmbdiddeaaHeapMem
import Derived.Test.YtcleljmbdiddeaaPHeapsx2
import Derived.Test.YtcleljmbdiddeaaText
import Derived.BigQuiet
import Derived.Deep.LoopGhost
import Derived.Lib.Hide
namespace Go.Proofs.Ytcleljmbdiddeaa
open Go.RowKit HP PHeaps

theorem ite3 (a b : Int) : cmp_Compare_int.f a b = some (if a < b then -1 else if b < a then 1 else 0) := by
  unfold cmp_Compare_int.f cmp_isNaN_int.f
  by_cases h1 : a < b
  · simp [h1]
  · by_cases h2 : b < a <;> simp [h1, h2]

theorem or2 (a b : Int) : cmp_Or_int.f 9 [a, b] = some (if a = 0 then b else a) := by
  unfold cmp_Or_int.f
  by_cases h1 : a = 0 <;> by_cases h2 : b = 0 <;> simp [cmp_Or_int.l0, Go.Proofs.YtcleljmbdiddeaaW.PrintWords.rd, h1, h2, wrap64]

theorem or3 (a b c : Int) : cmp_Or_int.f 9 [a, b, c] = some (if a = 0 then (if b = 0 then c else b) else a) := by
  unfold cmp_Or_int.f
  by_cases h1 : a = 0 <;> by_cases h2 : b = 0 <;> by_cases h3 : c = 0 <;> simp [cmp_Or_int.l0, Go.Proofs.YtcleljmbdiddeaaW.PrintWords.rd, h1, h2, h3, wrap64]

theorem less_f (a b : It) : heap_less.f 9 a.s a.t a.q a.v b.s b.t b.q b.v = some (lt a b) := by
  unfold heap_less.f acc_Order.f
  simp only [ite3, or2, or3, Option.bind_some, Option.some.injEq]
  unfold lt
  rw [decide_eq_decide]
  split <;> (try split) <;> (try split) <;> (try split) <;> (try split) <;> (try split) <;> omega

theorem less_any (a b : It) (w : World) :
    Calls Try.prog 39 #[.agg #[.int .i64 a.s, .int .i64 a.t, .int .i64 a.q, .int .i64 a.v], .agg #[.int .i64 b.s, .int .i64 b.t, .int .i64 b.q, .int .i64 b.v]] w fun e w' => e = .returned (.bool (lt a b)) ∧ Below w.heap.size w w' :=
  heap_less.calls 9 _ _ _ _ _ _ _ _ _ w (less_f a b)

theorem less_yes (a b : It) (w : World) (h : lt a b = true) :
    Calls Try.prog 39 #[.agg #[.int .i64 a.s, .int .i64 a.t, .int .i64 a.q, .int .i64 a.v], .agg #[.int .i64 b.s, .int .i64 b.t, .int .i64 b.q, .int .i64 b.v]] w fun e w' => e = .returned (.bool true) ∧ Below w.heap.size w w' := by
  rw [← h]
  exact less_any a b w

theorem less_no (a b : It) (w : World) (h : lt a b = false) :
    Calls Try.prog 39 #[.agg #[.int .i64 a.s, .int .i64 a.t, .int .i64 a.q, .int .i64 a.v], .agg #[.int .i64 b.s, .int .i64 b.t, .int .i64 b.q, .int .i64 b.v]] w fun e w' => e = .returned (.bool false) ∧ Below w.heap.size w w' := by
  rw [← h]
  exact less_any a b w

/-- The heap's two blocks while an item moves. -/
structure Mid (S : Nat → Prop) (w0 w : World) (g b n cap : Nat) (most : Int) (ys : List It) : Prop where
  head : w.heap[g]? = some (.cells #[.int .i64 most, .slice (some ⟨b, 0, none⟩) n cap] 54 (0, 0))
  row : w.ownsRow 0 34 4 (.slice (some ⟨b, 0, none⟩) n cap) n (flat ys)
  chg : Chg S w0 w
  inb : S b
  len : ys.length = n

theorem Mid.ne {S : Nat → Prop} {w0 w : World} {g b n cap : Nat} {most : Int} {ys : List It} (h : Mid S w0 w g b n cap most ys) : g ≠ b := by
  rintro rfl
  obtain ⟨cur, hb⟩ := row_blk h.row
  rw [h.head] at hb
  injection hb with hb
  injection hb with _ ht
  exact absurd ht (by decide)

theorem Mid.below {S : Nat → Prop} {w0 w w1 : World} {g b n cap : Nat} {most : Int} {ys : List It} (h : Mid S w0 w g b n cap most ys) (hb : Below w.heap.size w w1) : Mid S w0 w1 g b n cap most ys := by
  have hc : Chg (fun _ => False) w w1 := Chg.of_below hb
  exact ⟨hc.obj h.head (fun h => h), row_keep h.row hc (fun _ _ h => h), h.chg.below hb, h.inb, h.len⟩

theorem Mid.drew {S : Nat → Prop} {w0 w : World} {g b n cap : Nat} {most : Int} {ys : List It} (h : Mid S w0 w g b n cap most ys) : Mid S w0 w.drew g b n cap most ys := h.below ((Below.refl _ _).drew)

theorem Mid.put {S : Nat → Prop} {w0 w : World} {g b n cap : Nat} {most : Int} {ys : List It} (h : Mid S w0 w g b n cap most ys) {i : Nat} (hi : i < n) (x : It) :
    Mid S w0 (put4 w b i x) g b n cap most (ys.set i x) := by
  have hn := h.ne
  unfold put4
  refine ⟨blk_far (blk_far (blk_far (blk_far h.head hn _) hn _) hn _) hn _, row_set h.row (by rw [h.len]; exact hi) x, (((h.chg.setCell (.inl h.inb) _).setCell (.inl h.inb) _).setCell (.inl h.inb) _).setCell (.inl h.inb) _, h.inb, by rw [List.length_set]; exact h.len⟩

theorem Mid.facts {S : Nat → Prop} {w0 w : World} {g b n cap : Nat} {most : Int} {ys : List It} (h : Mid S w0 w g b n cap most ys) :
    w.cell? ⟨g, 1, none⟩ = some (.slice (some ⟨b, 0, none⟩) n cap) ∧ g < w.heap.size ∧ b < w.heap.size := by
  obtain ⟨cur, hb⟩ := row_blk h.row
  exact ⟨(blk_cell h.head 1).trans rfl, blk_lt h.head, blk_lt hb⟩

theorem Mid.get {S : Nat → Prop} {w0 w : World} {g b n cap : Nat} {most : Int} {ys : List It} (h : Mid S w0 w g b n cap most ys) {i : Nat} (hi : i < n) :
    w.cell? ⟨b, i * 4, none⟩ = some (.int .i64 (at_ ys i).s) ∧ w.cell? ⟨b, i * 4 + 1, none⟩ = some (.int .i64 (at_ ys i).t) ∧ w.cell? ⟨b, i * 4 + 2, none⟩ = some (.int .i64 (at_ ys i).q) ∧ w.cell? ⟨b, i * 4 + 3, none⟩ = some (.int .i64 (at_ ys i).v) :=
  row_get h.row (by rw [h.len]; exact hi)

/-- None of the row's cells is frozen. -/
theorem Mid.free {S : Nat → Prop} {w0 w : World} {g b n cap : Nat} {most : Int} {ys : List It} (h : Mid S w0 w g b n cap most ys) (j : Nat) : w.frozen? ⟨b, j, none⟩ = false := by
  obtain ⟨cur, hb⟩ := row_blk h.row
  exact blk_free hb j

def Rel (P : Prop) : Prop := P

set_option maxHeartbeats 4000000 in
set_option maxRecDepth 100000 in
theorem up_any (S : Nat → Prop) (g b n cap i : Nat) (most : Int) (xs : List It) (w0 w : World) (hn : n ≤ 10000) (hi : i < n) (hm : Mid S w0 w g b n cap most xs) :
    Calls Try.prog 35 #[.pointer (some ⟨g, 0, none⟩), .int .i64 i] w fun e w' => e = .returned (.tuple #[]) ∧ Mid S w0 w' g b n cap most (up xs i) := by
  go_enter Try.func35, Try.ntmps35
  go_wp2
  go_loopw [1] (fun j wr => ∃ k : Nat, j = .int .i64 k ∧ k < n ∧ ∃ ys, Mid S w0 wr g b n cap most ys ∧ Rel (up ys k = up xs i)) (fun j wr => (intOf j).toNat)
  case atStart => exact ⟨i, rfl, hi, xs, hm, rfl⟩
  case round =>
    obtain ⟨k, rfl, hk, ys, hy, hr⟩ := hrel
    by_cases h0 : 0 < k
    · by_cases hlt : lt (at_ ys k) (at_ ys ((k - 1) / 2)) = true
      · have H := Lib.hid hlt
        clear hlt
        have hd : decide (0 < k) = true := decide_eq_true h0
        obtain ⟨c1, hg, hb⟩ := hy.facts
        obtain ⟨a0, a1, a2, a3⟩ := hy.get hk
        obtain ⟨b0, b1, b2, b3⟩ := hy.get (show (k - 1) / 2 < n by omega)
        go_wp2_with fail
        refine Txt.wp_region_text (by kernel_rfl) (by kernel_rfl) ?_
        repeat (first
          | (refine Txt.text_p (by rfl) rfl (fun K hK => ?_); go_big_quiet_op; refine hK _ ?_; clear hK K)
          | (refine Txt.text_r (by rfl) rfl (fun K hK => ?_); go_big_quiet_op; refine hK _ ?_; clear hK K)
          | (refine Txt.text_pass (by rfl) (by rfl) ?_; simp only [List.set_cons_succ, List.set_cons_zero]))
        refine Txt.text_a (by rfl) rfl (fun K hK => ?_)
        clear c1 a0 a1 a2 a3 b0 b1 b2 b3 hg hb
        go_wp2_with fail
        refine (less_yes (at_ ys k) (at_ ys ((k - 1) / 2)) _ H.out).mono ?_
        rintro e w1 ⟨rfl, hb1⟩
        have hy1 := hy.drew.below hb1
        clear hy hb1
        obtain ⟨c1, hg, hb⟩ := hy1.facts
        obtain ⟨a0, a1, a2, a3⟩ := hy1.get hk
        obtain ⟨b0, b1, b2, b3⟩ := hy1.get (show (k - 1) / 2 < n by omega)
        have hgb := hy1.ne
        have hfz := hy1.free
        go_wp2_with fail
        repeat (first
          | (refine Txt.text_p (by rfl) rfl (fun K hK => ?_); go_big_quiet_op; refine hK _ ?_; clear hK K)
          | (refine Txt.text_r (by rfl) rfl (fun K hK => ?_); go_big_quiet_op; refine hK _ ?_; clear hK K)
          | (refine Txt.text_pass (by rfl) (by rfl) ?_; simp only [List.set_cons_succ, List.set_cons_zero]))
        refine Txt.text_nil ?_
        go_wp2_with fail
        refine Txt.wp_region_text (by kernel_rfl) (by kernel_rfl) ?_
        repeat (first
          | (refine Txt.text_p (by rfl) rfl (fun K hK => ?_); go_big_quiet_op; refine hK _ ?_; clear hK K)
          | (refine Txt.text_r (by rfl) rfl (fun K hK => ?_); go_big_quiet_op; refine hK _ ?_; clear hK K)
          | (refine Txt.text_pass (by rfl) (by rfl) ?_; simp only [List.set_cons_succ, List.set_cons_zero]))
        refine Txt.text_a (by rfl) rfl (fun K hK => ?_)
        go_wp2_with fail
        show Txt.wpText _ _ _ _ _ (put4 w1.drew b k (at_ ys ((k - 1) / 2)))
        have hy2 := hy1.drew.put hk (at_ ys ((k - 1) / 2))
        generalize put4 w1.drew b k (at_ ys ((k - 1) / 2)) = w2 at hy2 ⊢
        clear a0 a1 a2 a3 b0 b1 b2 b3 hfz c1
        obtain ⟨b0, b1, b2, b3⟩ := hy2.get (show (k - 1) / 2 < n by omega)
        have hfz := hy2.free
        repeat (first
          | (refine Txt.text_p (by rfl) rfl (fun K hK => ?_); go_big_quiet_op; refine hK _ ?_; clear hK K)
          | (refine Txt.text_r (by rfl) rfl (fun K hK => ?_); go_big_quiet_op; refine hK _ ?_; clear hK K)
          | (refine Txt.text_pass (by rfl) (by rfl) ?_; simp only [List.set_cons_succ, List.set_cons_zero]))
        refine Txt.text_a (by rfl) rfl (fun K hK => ?_)
        go_wp2_with fail
        show Txt.wpText _ _ _ _ _ (put4 w2 b ((k - 1) / 2) (at_ ys k))
        have hy3 := hy2.put (show (k - 1) / 2 < n by omega) (at_ ys k)
        generalize put4 w2 b ((k - 1) / 2) (at_ ys k) = w3 at hy3 ⊢
        clear b0 b1 b2 b3 hfz
        refine Txt.text_nil ?_
        go_wp2_with fail
        go_roundw
        case rel => exact ⟨(k - 1) / 2, by go_num, by omega, swap ys k ((k - 1) / 2), hy3, by rw [← up_go h0 H.out]; exact hr⟩
        case measure => simp [intOf]; omega
      · have H := Lib.hid (show lt (at_ ys k) (at_ ys ((k - 1) / 2)) = false by simpa using hlt)
        clear hlt
        have hd : decide (0 < k) = true := decide_eq_true h0
        obtain ⟨c1, hg, hb⟩ := hy.facts
        obtain ⟨a0, a1, a2, a3⟩ := hy.get hk
        obtain ⟨b0, b1, b2, b3⟩ := hy.get (show (k - 1) / 2 < n by omega)
        go_wp2_with fail
        refine Txt.wp_region_text (by kernel_rfl) (by kernel_rfl) ?_
        repeat (first
          | (refine Txt.text_p (by rfl) rfl (fun K hK => ?_); go_big_quiet_op; refine hK _ ?_; clear hK K)
          | (refine Txt.text_r (by rfl) rfl (fun K hK => ?_); go_big_quiet_op; refine hK _ ?_; clear hK K)
          | (refine Txt.text_pass (by rfl) (by rfl) ?_; simp only [List.set_cons_succ, List.set_cons_zero]))
        refine Txt.text_a (by rfl) rfl (fun K hK => ?_)
        clear c1 a0 a1 a2 a3 b0 b1 b2 b3 hg hb
        go_wp2_with fail
        refine (less_no (at_ ys k) (at_ ys ((k - 1) / 2)) _ H.out).mono ?_
        rintro e w1 ⟨rfl, hb1⟩
        have hy1 := hy.drew.below hb1
        clear hy hb1
        go_wp2_with fail
        repeat (first
          | (refine Txt.text_p (by rfl) rfl (fun K hK => ?_); go_big_quiet_op; refine hK _ ?_; clear hK K)
          | (refine Txt.text_r (by rfl) rfl (fun K hK => ?_); go_big_quiet_op; refine hK _ ?_; clear hK K)
          | (refine Txt.text_pass (by rfl) (by rfl) ?_; simp only [List.set_cons_succ, List.set_cons_zero]))
        refine Txt.text_nil ?_
        go_wp2_with fail
        go_end0
        exact ⟨rfl, by rw [← hr, up_end (fun h => by rw [H.out] at h; exact absurd h.2 (by simp))]; exact hy1⟩
    · have hd : decide (0 < k) = false := decide_eq_false h0
      go_wp2_with fail
      refine Txt.wp_region_text (by kernel_rfl) (by kernel_rfl) ?_
      repeat (first
        | (refine Txt.text_p (by rfl) rfl (fun K hK => ?_); go_big_quiet_op; refine hK _ ?_; clear hK K)
        | (refine Txt.text_r (by rfl) rfl (fun K hK => ?_); go_big_quiet_op; refine hK _ ?_; clear hK K)
        | (refine Txt.text_pass (by rfl) (by rfl) ?_; simp only [List.set_cons_succ, List.set_cons_zero]))
      refine Txt.text_nil ?_
      go_wp2_with fail
      go_end0
      exact ⟨rfl, by rw [← hr, up_end (fun h => by omega)]; exact hy.drew⟩
end Go.Proofs.Ytcleljmbdiddeaa
