/- What may be known: the buckets, the bare one. No statement of the seed is proved here. -/
import Derived.Test.YtggaefklcpbfnaaAccU
namespace Go.Proofs.Ytggaefklcpbfnaa.My
open Go.RowKit Pa Go.Proofs.YtggaefklcpbfnaaW.PrintWords
attribute [local go_sem high] eqA26

/-- A relation kept as it stands. -/
def Rel (p : Prop) : Prop := p
theorem bne_ {b : Bool} (h : ¬ b = true) : b = false := by
  cases b
  · rfl
  · exact absurd rfl h
theorem RdI.at_ {w : World} {A : Option Addr} {h : List Int} (hr : RdI w A h) {i : Nat} (hi : i < h.length) : ∃ ad, A = some ad ∧ w.cell? (ad.add i) = some (.int .i64 (h.getD i 0)) := by
  obtain ⟨ad, e, hc⟩ := hr.2.2 (by omega)
  obtain ⟨c, hl, hR, hu⟩ := hc i (h.getD i 0) (by rw [List.getD_eq_getElem?_getD]; simp [hi])
  have hR' : c = [.int .i64 (h.getD i 0)] := hR
  subst hR'
  have := hu 0 _ rfl
  rw [show i * (Kd.int .i64).sz + 0 = i from Nat.mul_one i] at this
  exact ⟨ad, e, this⟩
theorem RdI.below {w w1 : World} {A : Option Addr} {h : List Int} (hr : RdI w A h) (hb : Below w.heap.size w w1) : RdI w1 A h := Kd.C_below hr hb

def nok (n : Int) : Bool := decide (0 ≤ n ∧ n ≤ 8192)
/-- May a row of buckets be, beside so many bounds, of so many items? -/
def hmay (h : List Int) (nb : Nat) (c : Int) : Bool := h.all nok && decide (h.length = nb + 1) && decide (h.sum = c)
theorem sum_take (h : List Int) {k : Nat} (hk : k < h.length) : (h.take (k + 1)).sum = (h.take k).sum + h.getD k 0 := by
  rw [List.take_succ_eq_append_getElem hk, List.sum_append]
  simp [List.getD_eq_getElem?_getD, hk]
theorem nok_sum {h : List Int} (ha : ∀ x ∈ h, nok x = true) : 0 ≤ h.sum ∧ h.sum ≤ 8192 * h.length := by
  induction h with
  | nil => simp
  | cons x r ih =>
    have h1 := ih (fun y hy => ha y (List.mem_cons_of_mem _ hy))
    have h2 := ha x (List.mem_cons_self ..)
    unfold nok at h2
    rw [decide_eq_true_eq] at h2
    rw [List.sum_cons, List.length_cons]
    omega
theorem mem_take_lt {h : List Int} {k : Nat} (hs : ∀ j, j < k → nok (h.getD j 0) = true) : ∀ x ∈ h.take k, nok x = true := fun x hx => by
  obtain ⟨i, hi, e⟩ := List.mem_iff_getElem.1 hx
  rw [List.length_take] at hi
  rw [List.getElem_take] at e
  have := hs i (by omega)
  rw [List.getD_eq_getElem?_getD, List.getElem?_eq_getElem (by omega), Option.getD_some, e] at this
  exact this
theorem all_nok {h : List Int} (hs : ∀ j, j < h.length → nok (h.getD j 0) = true) : h.all nok = true := by
  rw [List.all_eq_true]
  have := mem_take_lt (h := h) (k := h.length) hs
  rwa [List.take_length] at this
theorem all_nok_no {h : List Int} {j : Nat} (hj : j < h.length) (hs : nok (h.getD j 0) = false) : h.all nok = false := by
  rw [List.all_eq_false]
  refine ⟨h[j], List.getElem_mem hj, ?_⟩
  rw [List.getD_eq_getElem?_getD, List.getElem?_eq_getElem hj, Option.getD_some] at hs
  rw [hs]
  simp

set_option maxHeartbeats 2000000 in
set_option maxRecDepth 100000 in
theorem hist_any (a : S28) (g : Nat) (Ah : Option Addr) (ch : Nat) (A1 : Option Addr) (c1 nb : Nat) (w : World) (h : w.heap[g]? = some (acO a (.slice Ah a.f6.length ch))) (hr : RdI w Ah a.f6) (hl : a.f6.length ≤ 9) (hn : nb ≤ 8) :
    Calls Try.prog 54 #[.pointer (some ⟨g, 0, none⟩), .slice A1 nb c1] w fun e w' => e = .returned (.bool (hmay a.f6 nb a.f0)) ∧ Below w.heap.size w w' := by
  have HH := Lib.hid h
  have HR := Lib.hid hr
  clear h hr
  obtain ⟨a0, a1, a2, a3, a4, a5, a6, a7, a8, a9, a10, a11, a12, al⟩ := acO_facts HH.out
  go_enter Try.func54, Try.ntmps54
  go_wp2_with fail
  go_loopw [5, 13] (fun s i wr => ∃ k : Nat, i = .int .i64 k ∧ s = .int .i64 (a.f6.take k).sum ∧ k ≤ a.f6.length ∧ wr = w ∧ Rel (∀ j, j < k → nok (a.f6.getD j 0) = true)) (fun _ i _ => a.f6.length - (intOf i).toNat)
  case atStart => exact ⟨0, rfl, by simp, by omega, rfl, fun j hj => absurd hj (by omega)⟩
  case round =>
    obtain ⟨k, rfl, rfl, hk, rfl, hx⟩ := hrel
    have HX := Lib.hid hx
    clear hx
    have hs := nok_sum (mem_take_lt HX.out)
    rw [List.length_take] at hs
    obtain ⟨hs1, hs2⟩ := hs
    have HS := Lib.hid (show (a.f6.take k).sum = (a.f6.take k).sum from rfl)
    generalize hse : (a.f6.take k).sum = s at *
    have HSE := Lib.hid hse
    clear hse
    by_cases hlt : k < a.f6.length
    · obtain ⟨ad, rfl, e0⟩ := HR.out.at_ hlt
      have hst := sum_take a.f6 hlt
      generalize hn : a.f6.getD k 0 = n at *
      have HN := Lib.hid hn
      have HST := Lib.hid hst
      clear hn hst
      by_cases h1 : nok n = true
      · have h2 := h1
        unfold nok at h2
        rw [decide_eq_true_eq] at h2
        obtain ⟨h3, h4⟩ := h2
        have H1 := Lib.hid h1
        have hd1 : decide (n < 0) = false := decide_eq_false (by omega)
        have hd2 : decide (8192 < n) = false := decide_eq_false (by omega)
        clear h1
        go_wp2_with fail
        refine ⟨⟨k + 1, by go_num, ?_, by omega, by first | rfl | trivial, fun j hj => ?_⟩, by simp [intOf]; omega⟩
        · rw [HST.out, HSE.out]
        · by_cases hjk : j = k
          · rw [hjk, HN.out]; exact H1.out
          · exact HX.out j (by omega)
      · have h1' := bne_ h1
        have hres : hmay a.f6 nb a.f0 = false := by
          unfold hmay
          rw [all_nok_no hlt (by rw [HN.out]; exact h1')]
          rfl
        have h2 := h1'
        unfold nok at h2
        rw [decide_eq_false_iff_not] at h2
        have HRES := Lib.hid hres
        clear hres h1 h1'
        by_cases h3 : n < 0
        · have hd1 : decide (n < 0) = true := decide_eq_true h3
          go_wp2_with fail
          go_ret
          exact ⟨by rw [HRES.out]; rfl, Below.refl _ _⟩
        · have hd1 : decide (n < 0) = false := decide_eq_false h3
          have hd2 : decide (8192 < n) = true := decide_eq_true (by omega)
          go_wp2_with fail
          go_ret
          exact ⟨by rw [HRES.out]; rfl, Below.refl _ _⟩
    · obtain rfl : k = a.f6.length := by omega
      have hall := all_nok HX.out
      rw [List.take_length] at HSE
      have hres : hmay a.f6 nb a.f0 = (decide (a.f6.length = nb + 1) && decide (s = a.f0)) := by
        unfold hmay
        rw [hall, HSE.out]
        rfl
      have HRES := Lib.hid hres
      clear hall hres
      by_cases h1 : a.f6.length = nb + 1
      · have hd1 : ((a.f6.length : Int) == (nb : Int) + 1) = true := by rw [beq_iff_eq]; omega
        have H1 := Lib.hid h1
        clear h1
        by_cases h2 : s = a.f0
        · have hd2 : (s == a.f0) = true := by rw [beq_iff_eq]; exact h2
          have H2 := Lib.hid h2
          clear h2
          go_wp2_with fail
          go_ret
          refine ⟨?_, Below.refl _ _⟩
          rw [HRES.out, decide_eq_true H1.out, decide_eq_true H2.out]
          rfl
        · have hd2 : (s == a.f0) = false := beq_eq_false_iff_ne.2 h2
          go_wp2_with fail
          go_ret
          refine ⟨?_, Below.refl _ _⟩
          rw [HRES.out, decide_eq_true H1.out, decide_eq_false h2]
          rfl
      · have hd1 : ((a.f6.length : Int) == (nb : Int) + 1) = false := beq_eq_false_iff_ne.2 (by omega)
        go_wp2_with fail
        go_ret
        refine ⟨?_, Below.refl _ _⟩
        rw [HRES.out, decide_eq_false h1]
        rfl

def isz (x : S26) : Bool := x.f0 == 0 && (x.f1 == 0 && (x.f2 == 0 && x.f3 == 0))
/-- Is all but the buckets zero? -/
def bareB (a : S28) : Bool := a.f1 == 0 && (a.f2 == 0 && (a.f3 == 0 && (isz a.f4 && isz a.f5)))
theorem isz_yes {x : S26} (h : isz x = true) : x = ⟨0, 0, 0, 0⟩ := by
  unfold isz at h
  simp only [Bool.and_eq_true, beq_iff_eq] at h
  obtain ⟨h1, h2, h3, h4⟩ := h
  cases x
  simp_all
theorem bare_no {a : S28} (h : a.f1 ≠ 0 ∨ a.f2 ≠ 0 ∨ a.f3 ≠ 0 ∨ isz a.f4 = false ∨ isz a.f5 = false) : bareB a = false := by
  unfold bareB
  rcases h with h | h | h | h | h
  · rw [beq_eq_false_iff_ne.2 h]; rfl
  · rw [beq_eq_false_iff_ne.2 h]; simp
  · rw [beq_eq_false_iff_ne.2 h]; simp
  · rw [h]; simp
  · rw [h]; simp
theorem isz_no {x : S26} (h : isz x = false) : (x.f0 == 0 && (x.f1 == 0 && (x.f2 == 0 && x.f3 == 0))) = false := h

set_option maxHeartbeats 4000000 in
set_option maxRecDepth 100000 in
theorem bare_any (a : S28) (g : Nat) (v : Value) (w : World) (h : w.heap[g]? = some (acO a v)) :
    Calls Try.prog 55 #[.pointer (some ⟨g, 0, none⟩)] w fun e w' => e = .returned (.bool (bareB a)) ∧ Below w.heap.size w w' := by
  have hz : (w.alloc (.cells #[.int .i64 0, .int .i64 0, .int .i64 0, .int .i64 0] 26)).heap[w.heap.size]? = some (itO ⟨0, 0, 0, 0⟩) := heap_alloc_new w _
  have hb : Below w.heap.size w (w.alloc (.cells #[.int .i64 0, .int .i64 0, .int .i64 0, .int .i64 0] 26)) := (Below.refl w.heap.size w).alloc (Nat.le_refl _) _
  obtain ⟨z0, z1, z2, z3, zl⟩ := itO_facts hz
  obtain ⟨a0, a1, a2, a3, a4, a5, a6, a7, a8, a9, a10, a11, a12, al⟩ := acO_facts (blk_below h hb)
  simp only at z0 z1 z2 z3
  have HB := Lib.hid hb
  clear h hz hb
  go_enter Try.func55, Try.ntmps55
  go_wp2_with fail
  generalize w.alloc (.cells #[.int .i64 0, .int .i64 0, .int .i64 0, .int .i64 0] 26) = w1 at *
  by_cases h1 : a.f1 = 0
  · by_cases h2 : a.f2 = 0
    · by_cases h3 : a.f3 = 0
      · by_cases h4 : isz a.f4 = true
        · by_cases h5 : isz a.f5 = true
          · have hres : bareB a = true := by unfold bareB; rw [h1, h2, h3, h4, h5]; rfl
            have HRES := Lib.hid hres
            have e4 := isz_yes h4
            have e5 := isz_yes h5
            rw [h1] at a1
            rw [h2] at a2
            rw [h3] at a3
            rw [e4] at a4 a5 a6 a7
            rw [e5] at a8 a9 a10 a11
            simp only at a4 a5 a6 a7 a8 a9 a10 a11
            clear e4 e5 h1 h2 h3 h4 h5 hres
            refine Txt.wp_region_text (by kernel_rfl) (by kernel_rfl) ?_
            repeat (first
              | (refine Txt.text_p (by rfl) rfl (fun K hK => ?_); go_big_quiet_op; refine hK _ ?_; clear hK K)
              | (refine Txt.text_r (by rfl) rfl (fun K hK => ?_); go_big_quiet_op; refine hK _ ?_; clear hK K)
              | (refine Txt.text_pass (by rfl) (by rfl) ?_; simp only [List.set_cons_succ, List.set_cons_zero]))
            refine Txt.text_nil ?_
            go_wp2_with fail
            go_ret
            exact ⟨by rw [HRES.out]; rfl, HB.out.drew⟩
          · have h5' := bne_ h5
            have hres := bare_no (a := a) (.inr (.inr (.inr (.inr h5'))))
            have HRES := Lib.hid hres
            have e4 := isz_yes h4
            have e5 := isz_no h5'
            rw [h1] at a1
            rw [h2] at a2
            rw [h3] at a3
            rw [e4] at a4 a5 a6 a7
            simp only at a4 a5 a6 a7
            clear e4 h1 h2 h3 h4 h5 hres h5'
            refine Txt.wp_region_text (by kernel_rfl) (by kernel_rfl) ?_
            repeat (first
              | (refine Txt.text_p (by rfl) rfl (fun K hK => ?_); go_big_quiet_op; refine hK _ ?_; clear hK K)
              | (refine Txt.text_r (by rfl) rfl (fun K hK => ?_); go_big_quiet_op; refine hK _ ?_; clear hK K)
              | (refine Txt.text_pass (by rfl) (by rfl) ?_; simp only [List.set_cons_succ, List.set_cons_zero]))
            refine Txt.text_nil ?_
            go_wp2_with fail
            go_ret
            exact ⟨by rw [HRES.out]; rfl, HB.out.drew⟩
        · have h4' := bne_ h4
          have hres := bare_no (a := a) (.inr (.inr (.inr (.inl h4'))))
          have HRES := Lib.hid hres
          have e4 := isz_no h4'
          rw [h1] at a1
          rw [h2] at a2
          rw [h3] at a3
          clear h1 h2 h3 h4 hres h4'
          refine Txt.wp_region_text (by kernel_rfl) (by kernel_rfl) ?_
          repeat (first
            | (refine Txt.text_p (by rfl) rfl (fun K hK => ?_); go_big_quiet_op; refine hK _ ?_; clear hK K)
            | (refine Txt.text_r (by rfl) rfl (fun K hK => ?_); go_big_quiet_op; refine hK _ ?_; clear hK K)
            | (refine Txt.text_pass (by rfl) (by rfl) ?_; simp only [List.set_cons_succ, List.set_cons_zero]))
          refine Txt.text_nil ?_
          go_wp2_with fail
          go_ret
          exact ⟨by rw [HRES.out]; rfl, HB.out.drew⟩
      · have hres := bare_no (a := a) (.inr (.inr (.inl h3)))
        have HRES := Lib.hid hres
        have e3 : (a.f3 == 0) = false := beq_eq_false_iff_ne.2 h3
        rw [h1] at a1
        rw [h2] at a2
        clear h1 h2 h3 hres
        refine Txt.wp_region_text (by kernel_rfl) (by kernel_rfl) ?_
        repeat (first
          | (refine Txt.text_p (by rfl) rfl (fun K hK => ?_); go_big_quiet_op; refine hK _ ?_; clear hK K)
          | (refine Txt.text_r (by rfl) rfl (fun K hK => ?_); go_big_quiet_op; refine hK _ ?_; clear hK K)
          | (refine Txt.text_pass (by rfl) (by rfl) ?_; simp only [List.set_cons_succ, List.set_cons_zero]))
        refine Txt.text_nil ?_
        go_wp2_with fail
        go_ret
        exact ⟨by rw [HRES.out]; rfl, HB.out.drew⟩
    · have hres := bare_no (a := a) (.inr (.inl h2))
      have HRES := Lib.hid hres
      have e3 : (a.f2 == 0) = false := beq_eq_false_iff_ne.2 h2
      rw [h1] at a1
      clear h1 h2 hres
      refine Txt.wp_region_text (by kernel_rfl) (by kernel_rfl) ?_
      repeat (first
        | (refine Txt.text_p (by rfl) rfl (fun K hK => ?_); go_big_quiet_op; refine hK _ ?_; clear hK K)
        | (refine Txt.text_r (by rfl) rfl (fun K hK => ?_); go_big_quiet_op; refine hK _ ?_; clear hK K)
        | (refine Txt.text_pass (by rfl) (by rfl) ?_; simp only [List.set_cons_succ, List.set_cons_zero]))
      refine Txt.text_nil ?_
      go_wp2_with fail
      go_ret
      exact ⟨by rw [HRES.out]; rfl, HB.out.drew⟩
  · have hres := bare_no (a := a) (.inl h1)
    have HRES := Lib.hid hres
    have e3 : (a.f1 == 0) = false := beq_eq_false_iff_ne.2 h1
    clear h1 hres
    refine Txt.wp_region_text (by kernel_rfl) (by kernel_rfl) ?_
    repeat (first
      | (refine Txt.text_p (by rfl) rfl (fun K hK => ?_); go_big_quiet_op; refine hK _ ?_; clear hK K)
      | (refine Txt.text_r (by rfl) rfl (fun K hK => ?_); go_big_quiet_op; refine hK _ ?_; clear hK K)
      | (refine Txt.text_pass (by rfl) (by rfl) ?_; simp only [List.set_cons_succ, List.set_cons_zero]))
    refine Txt.text_nil ?_
    go_wp2_with fail
    go_ret
    exact ⟨by rw [HRES.out]; rfl, HB.out.drew⟩
end Go.Proofs.Ytggaefklcpbfnaa.My
