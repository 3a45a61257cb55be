/- What is known together: may all be? No statement of the seed is proved here. -/
import Derived.Test.YtggaefklcpbfnaaAccE
namespace Go.Proofs.Ytggaefklcpbfnaa.My
open Go.RowKit Pa Go.Proofs.YtggaefklcpbfnaaW.PrintWords
attribute [local go_sem high] eqA26

/-- An aggregate that lies at a place and is read. -/
def AccAt (w : World) (b p : Nat) (x : S28) : Prop := ∃ (Ah : Option Addr) (ch : Nat), w.cell? ⟨b, p, none⟩ = some (.int .i64 x.f0) ∧ w.cell? ⟨b, p + 1, none⟩ = some (.int .i64 x.f1) ∧ w.cell? ⟨b, p + 2, none⟩ = some (.int .i64 x.f2) ∧ w.cell? ⟨b, p + 3, none⟩ = some (.int .i64 x.f3) ∧ w.cell? ⟨b, p + 4, none⟩ = some (.int .i64 x.f4.f0) ∧ w.cell? ⟨b, p + 5, none⟩ = some (.int .i64 x.f4.f1) ∧ w.cell? ⟨b, p + 6, none⟩ = some (.int .i64 x.f4.f2) ∧ w.cell? ⟨b, p + 7, none⟩ = some (.int .i64 x.f4.f3) ∧ w.cell? ⟨b, p + 8, none⟩ = some (.int .i64 x.f5.f0) ∧ w.cell? ⟨b, p + 9, none⟩ = some (.int .i64 x.f5.f1) ∧ w.cell? ⟨b, p + 10, none⟩ = some (.int .i64 x.f5.f2) ∧ w.cell? ⟨b, p + 11, none⟩ = some (.int .i64 x.f5.f3) ∧ w.cell? ⟨b, p + 12, none⟩ = some (.slice Ah x.f6.length ch) ∧ x.f6.length ≤ ch ∧ RdI w Ah x.f6
theorem AccAt.below {w w1 : World} {b p : Nat} {x : S28} (h : AccAt w b p x) (hb : Below w.heap.size w w1) : AccAt w1 b p x := by
  obtain ⟨Ah, ch, h0, h1, h2, h3, h4, h5, h6, h7, h8, h9, h10, h11, h12, hl, hr⟩ := h
  exact ⟨Ah, ch, pw_cell_below hb h0, pw_cell_below hb h1, pw_cell_below hb h2, pw_cell_below hb h3, pw_cell_below hb h4, pw_cell_below hb h5, pw_cell_below hb h6, pw_cell_below hb h7, pw_cell_below hb h8, pw_cell_below hb h9, pw_cell_below hb h10, pw_cell_below hb h11, pw_cell_below hb h12, hl, Kd.C_below hr hb⟩
theorem AccAt.blk {w : World} {b : Nat} {x : S28} {Ah : Option Addr} {ch : Nat} (h : w.heap[b]? = some (acO x (.slice Ah x.f6.length ch))) (hl : x.f6.length ≤ ch) (hr : RdI w Ah x.f6) : AccAt w b 0 x := by
  obtain ⟨a0, a1, a2, a3, a4, a5, a6, a7, a8, a9, a10, a11, a12, _⟩ := acO_facts h
  exact ⟨Ah, ch, a0, a1, a2, a3, a4, a5, a6, a7, a8, a9, a10, a11, a12, hl, hr⟩
/-- A slice of aggregates that is read. -/
def RdA (w : World) (A : Option Addr) (xs : List S28) : Prop := 0 < xs.length → ∃ b o, A = some ⟨b, o, none⟩ ∧ b < w.heap.size ∧ ∀ i, i < xs.length → AccAt w b (o + i * 13) (xs.getD i z28)
theorem RdA.below {w w1 : World} {A : Option Addr} {xs : List S28} (h : RdA w A xs) (hb : Below w.heap.size w w1) : RdA w1 A xs := fun hp => by
  obtain ⟨b, o, e, hbs, hc⟩ := h hp
  exact ⟨b, o, e, Nat.lt_of_lt_of_le hbs hb.size, fun i hi => (hc i hi).below hb⟩

/-- May all be, of one series? -/
def allm (bs : List Int) : Int → List S28 → Bool
  | _, [] => bmay bs
  | f, a :: r => if amay a bs = true then (if 0 < a.f0 then (if 0 ≤ f ∧ a.f4.f0 ≠ f then false else allm bs a.f4.f0 r) else allm bs f r) else false
theorem drop_cons {xs : List S28} {k : Nat} (hk : k < xs.length) : xs.drop k = xs.getD k z28 :: xs.drop (k + 1) := by
  rw [List.drop_eq_getElem_cons hk, List.getD_eq_getElem?_getD, List.getElem?_eq_getElem hk, Option.getD_some]

set_option maxHeartbeats 8000000 in
set_option maxRecDepth 100000 in
theorem allmay_any (bs : List Int) (xs : List S28) (A1 : Option Addr) (c1 : Nat) (A : Option Addr) (c : Nat) (w : World) (hr : RdI w A1 bs) (hc : bs.length ≤ c1) (ha : RdA w A xs) (hl : xs.length ≤ 4398046511104) :
    Calls Try.prog 50 #[.slice A1 bs.length c1, .slice A xs.length c] w fun e w' => e = .returned (.bool (allm bs (-1) xs)) ∧ Below w.heap.size w w' := by
  have HR := Lib.hid hr
  have HC := Lib.hid hc
  have HA := Lib.hid ha
  clear hr hc ha
  go_enter Try.func50, Try.ntmps50
  go_wp2_with fail
  go_loopw [5, 10] (fun s i wr => ∃ (k : Nat) (f : Int), i = .int .i64 k ∧ s = .int .i64 f ∧ k ≤ xs.length ∧ Below w.heap.size w wr ∧ Rel (allm bs (-1) xs = allm bs f (xs.drop k))) (fun _ i _ => xs.length - (intOf i).toNat)
  case atStart => exact ⟨0, -1, rfl, rfl, by omega, Below.refl _ _, rfl⟩
  case round =>
    obtain ⟨k, f, rfl, rfl, hk, hb, hx⟩ := hrel
    have HX := Lib.hid hx
    have HB := Lib.hid hb
    clear hx hb
    by_cases hlt : k < xs.length
    · obtain ⟨b, o, rfl, hbs, hcells⟩ := HA.out (by omega)
      obtain ⟨Ah, ch, e0, e1, e2, e3, e4, e5, e6, e7, e8, e9, e10, e11, e12, hlh, hrh⟩ := (hcells k hlt).below HB.out
      have hx := HX.out
      unfold Rel at hx
      rw [drop_cons hlt, allm] at hx
      generalize xs.getD k z28 = x at *
      have hal : Below wr.heap.size wr (wr.alloc (acO x (.slice Ah x.f6.length ch))) := (Below.refl wr.heap.size wr).alloc (Nat.le_refl _) _
      have hv : (wr.alloc (acO x (.slice Ah x.f6.length ch))).heap[wr.heap.size]? = some (acO x (.slice Ah x.f6.length ch)) := heap_alloc_new wr _
      obtain ⟨a0, a1, a2, a3, a4, a5, a6, a7, a8, a9, a10, a11, a12, al⟩ := acO_facts hv
      have HY := Lib.hid hx
      have HRH := Lib.hid (Kd.C_below hrh hal)
      have HLH := Lib.hid hlh
      have HV := Lib.hid hv
      have HB2 := Lib.hid (HB.out.trans (hal.mono HB.out.size))
      clear hx hal hv hrh hlh hcells HB
      unfold acO at a0 a1 a2 a3 a4 a5 a6 a7 a8 a9 a10 a11 a12 al
      go_wp2_with fail
      show Calls _ _ _ (wr.alloc (acO x (.slice Ah x.f6.length ch))) _
      clear a0 a1 a2 a3 a4 a5 a6 a7 a8 a9 a10 a11 a12 al e0 e1 e2 e3 e4 e5 e6 e7 e8 e9 e10 e11 e12
      generalize wr.alloc (acO x (.slice Ah x.f6.length ch)) = wa at *
      generalize wr.heap.size = xb at *
      refine (may_any x bs Ah ch A1 c1 _ HRH.out (Kd.C_below HR.out HB2.out) HC.out).mono ?_
      rintro e w2 ⟨rfl, hb⟩
      obtain ⟨a0, a1, a2, a3, a4, a5, a6, a7, a8, a9, a10, a11, a12, al⟩ := acO_facts (blk_below HV.out hb)
      have HB3 := Lib.hid (HB2.out.trans (hb.mono HB2.out.size))
      have hy := HY.out
      clear hb HV HB2 HRH HLH HX HY
      by_cases hm : amay x bs = true
      · rw [if_pos hm] at hy
        rw [hm]
        clear hm
        by_cases h0 : 0 < x.f0
        · rw [if_pos h0] at hy
          have hd0 : decide (0 < x.f0) = true := decide_eq_true h0
          clear h0
          by_cases hs : 0 ≤ f ∧ x.f4.f0 ≠ f
          · rw [if_pos hs] at hy
            obtain ⟨hs1, hs2⟩ := hs
            have hd1 : decide (0 ≤ f) = true := decide_eq_true hs1
            have hd2 : (x.f4.f0 == f) = false := beq_eq_false_iff_ne.2 hs2
            have HZ := Lib.hid hy
            clear hy hs1 hs2
            go_wp2_with fail
            go_ret
            exact ⟨by rw [HZ.out]; rfl, HB3.out⟩
          · rw [if_neg hs] at hy
            have HZ := Lib.hid hy
            by_cases h1 : 0 ≤ f
            · have hd1 : decide (0 ≤ f) = true := decide_eq_true h1
              have hd2 : (x.f4.f0 == f) = true := by
                rw [beq_iff_eq]
                exact Classical.byContradiction fun hn => hs ⟨h1, hn⟩
              clear hy hs h1
              go_wp2_with fail
              exact ⟨⟨k + 1, x.f4.f0, by go_num, rfl, by omega, HB3.out, HZ.out⟩, by simp [intOf]; omega⟩
            · have hd1 : decide (0 ≤ f) = false := decide_eq_false h1
              clear hy hs h1
              go_wp2_with fail
              exact ⟨⟨k + 1, x.f4.f0, by go_num, rfl, by omega, HB3.out, HZ.out⟩, by simp [intOf]; omega⟩
        · rw [if_neg h0] at hy
          have hd0 : decide (0 < x.f0) = false := decide_eq_false h0
          have HZ := Lib.hid hy
          clear h0 hy
          go_wp2_with fail
          exact ⟨⟨k + 1, f, by go_num, rfl, by omega, HB3.out, HZ.out⟩, by simp [intOf]; omega⟩
      · have hm' := bne_ hm
        rw [if_neg hm] at hy
        rw [hm']
        have HZ := Lib.hid hy
        clear hm hm' hy
        go_wp2_with fail
        go_ret
        exact ⟨by rw [HZ.out]; rfl, HB3.out⟩
    · obtain rfl : k = xs.length := by omega
      go_wp2_with fail
      refine (bm_any bs A1 c1 _ (Kd.C_below HR.out HB.out) HC.out).mono ?_
      rintro e w2 ⟨rfl, hb⟩
      have hx := HX.out
      unfold Rel at hx
      rw [List.drop_length, allm] at hx
      have HY := Lib.hid hx
      have HB2 := Lib.hid (HB.out.trans (hb.mono HB.out.size))
      clear hx hb
      go_wp2_with fail
      go_ret
      exact ⟨by rw [HY.out]; rfl, HB2.out⟩
end Go.Proofs.Ytggaefklcpbfnaa.My
