/- What is known together: one is added to another one. No statement of the seed is proved here. -/
import Derived.Test.YtggaefklcpbfnaaAccF
namespace Go.Proofs.Ytggaefklcpbfnaa.My
open Go.RowKit Pa Go.Proofs.YtggaefklcpbfnaaW.PrintWords Go.Proofs.YtggaefklcpbfnaaW.PrintMore
attribute [local go_sem high] eqA26
attribute [local go_sem] max2_int min2_int max_two min_two

/-- One that is not empty is added. -/
def fst_ (o x : S28) : S28 := if o.f0 = 0 then ⟨o.f0, o.f1, x.f2, x.f3, x.f4, x.f5, o.f6⟩ else o
def add3 (o x : S28) : S28 := ⟨o.f0 + x.f0, o.f1 + x.f1, if x.f2 < o.f2 then x.f2 else o.f2, if o.f3 < x.f3 then x.f3 else o.f3, o.f4, o.f5, o.f6⟩
def add4 (o x : S28) : S28 := if ord x.f4 o.f4 < 0 then ⟨o.f0, o.f1, o.f2, o.f3, x.f4, o.f5, o.f6⟩ else o
def add5 (o x : S28) : S28 := if 0 ≤ ord x.f5 o.f5 then ⟨o.f0, o.f1, o.f2, o.f3, o.f4, x.f5, o.f6⟩ else o
def add6 (o : S28) (h : List Int) : S28 := ⟨o.f0, o.f1, o.f2, o.f3, o.f4, o.f5, h⟩
def hadd (h n : List Int) : List Int := List.zipWith (· + ·) h n
def addA (o x : S28) : S28 := add6 (add5 (add4 (add3 (fst_ o x) x) x) x) (hadd o.f6 x.f6)

/-- One that is built up: its block, its own row. -/
structure OutAt (w0 w : World) (g hb cap : Nat) (o : S28) : Prop where
  blk : w.heap[g]? = some (acO o (.slice (some ⟨hb, 0, none⟩) o.f6.length cap))
  row : Own w w0.heap.size (.slice (some ⟨hb, 0, none⟩) o.f6.length cap) o.f6
  bel : Below w0.heap.size w0 w
  newg : w0.heap.size ≤ g
section
variable {w0 w w1 : World} {g hb cap : Nat} {o o1 : S28}
theorem OutAt.ne (h : OutAt w0 w g hb cap o) : hb ≠ g := fun e => by
  obtain ⟨cur, hc⟩ := row_blk h.row
  rw [e, h.blk] at hc
  injection hc with hc
  injection hc with _ ht
  exact absurd ht (by decide)
theorem OutAt.newh (h : OutAt w0 w g hb cap o) : w0.heap.size ≤ hb := own_base h.row hb rfl
theorem OutAt.put (h : OutAt w0 w g hb cap o) (hg : w1.heap[g]? = some (acO o1 (.slice (some ⟨hb, 0, none⟩) o.f6.length cap))) (hc : Chg (fun k => k = g) w w1) (e : o1.f6 = o.f6) : OutAt w0 w1 g hb cap o1 :=
  ⟨by rw [e]; exact hg, by
    rw [e]
    exact h.row.keep hc (fun k hk e1 => h.ne (by
      have e2 : hb = k := by simpa [Value.ownBlock] using hk
      rw [e2, e1])), Chg.base h.bel hc h.bel.size (fun i hi => by have := h.newg; omega), h.newg⟩
theorem OutAt.quiet (h : OutAt w0 w g hb cap o) (hb1 : Below w.heap.size w w1) : OutAt w0 w1 g hb cap o :=
  ⟨blk_below h.blk hb1, h.row.below hb1, h.bel.trans (hb1.mono h.bel.size), h.newg⟩
end
def put4c (w : World) (g j : Nat) (x : S26) : World := (((w.setCell ⟨g, j, none⟩ (.int .i64 x.f0)).setCell ⟨g, j + 1, none⟩ (.int .i64 x.f1)).setCell ⟨g, j + 2, none⟩ (.int .i64 x.f2)).setCell ⟨g, j + 3, none⟩ (.int .i64 x.f3)
theorem put4c_chg {w w1 : World} {g : Nat} (h : Chg (fun k => k = g) w w1) (j : Nat) (x : S26) : Chg (fun k => k = g) w (put4c w1 g j x) :=
  (((h.setCell (p := ⟨g, j, none⟩) (.inl rfl) _).setCell (p := ⟨g, j + 1, none⟩) (.inl rfl) _).setCell (p := ⟨g, j + 2, none⟩) (.inl rfl) _).setCell (p := ⟨g, j + 3, none⟩) (.inl rfl) _
theorem blk_put4 {w : World} {g : Nat} {cs : Array Value} {t : TypeId} {fr : Nat × Nat} (h : w.heap[g]? = some (.cells cs t fr)) (j : Nat) (x : S26) : (put4c w g j x).heap[g]? = some (.cells ((((cs.setIfInBounds j (.int .i64 x.f0)).setIfInBounds (j + 1) (.int .i64 x.f1)).setIfInBounds (j + 2) (.int .i64 x.f2)).setIfInBounds (j + 3) (.int .i64 x.f3)) t fr) :=
  blk_set (blk_set (blk_set (blk_set h j _) (j + 1) _) (j + 2) _) (j + 3) _

structure AddOk (o x : S28) : Prop where
  c1 : 0 ≤ o.f0 ∧ o.f0 ≤ 8192
  c2 : 0 ≤ x.f0 ∧ x.f0 ≤ 8192
  s1 : -90071992547409920 ≤ o.f1 ∧ o.f1 ≤ 90071992547409920
  s2 : -90071992547409920 ≤ x.f1 ∧ x.f1 ≤ 90071992547409920
  len : x.f6.length = o.f6.length
  h1 : ∀ i, i < o.f6.length → 0 ≤ o.f6.getD i 0 ∧ o.f6.getD i 0 ≤ 8192
  h2 : ∀ i, i < o.f6.length → 0 ≤ x.f6.getD i 0 ∧ x.f6.getD i 0 ≤ 8192

theorem AddOk.fst {o x : S28} (h : AddOk o x) : AddOk (fst_ o x) x := by
  unfold fst_
  split
  · exact ⟨h.c1, h.c2, h.s1, h.s2, h.len, h.h1, h.h2⟩
  · exact h
theorem fst_yes {o x : S28} (h : o.f0 = 0) : fst_ o x = ⟨o.f0, o.f1, x.f2, x.f3, x.f4, x.f5, o.f6⟩ := if_pos h
theorem fst_no {o x : S28} (h : ¬ o.f0 = 0) : fst_ o x = o := if_neg h

theorem hadd_ext : ∀ {o h n : List Int}, h.length = o.length → n.length = o.length → (∀ j, j < o.length → h.getD j 0 = o.getD j 0 + n.getD j 0) → h = hadd o n
  | [], h, n, l1, l2, _ => by
    have := List.eq_nil_of_length_eq_zero l1
    subst this
    rfl
  | a :: o, h, n, l1, l2, hj => by
    cases h with
    | nil => simp at l1
    | cons b h =>
      cases n with
      | nil => simp at l2
      | cons c n =>
        have h0 := hj 0 (by simp)
        simp at h0
        have ih := hadd_ext (o := o) (h := h) (n := n) (by simpa using l1) (by simpa using l2) (fun j hj' => by
          have := hj (j + 1) (by simpa using hj')
          simpa using this)
        rw [h0, ih]
        rfl
theorem acc13 {w0 : World} {b p : Nat} {x : S28} (h : AccAt w0 b p x) : ∃ (Ah : Option Addr) (ch : Nat), (∀ w, Below w0.heap.size w0 w → w.cell? ⟨b, p, none⟩ = some (.int .i64 x.f0) ∧ w.cell? ⟨b, p + 1, none⟩ = some (.int .i64 x.f1) ∧ w.cell? ⟨b, p + 2, none⟩ = some (.int .i64 x.f2) ∧ w.cell? ⟨b, p + 3, none⟩ = some (.int .i64 x.f3) ∧ w.cell? ⟨b, p + 4, none⟩ = some (.int .i64 x.f4.f0) ∧ w.cell? ⟨b, p + 5, none⟩ = some (.int .i64 x.f4.f1) ∧ w.cell? ⟨b, p + 6, none⟩ = some (.int .i64 x.f4.f2) ∧ w.cell? ⟨b, p + 7, none⟩ = some (.int .i64 x.f4.f3) ∧ w.cell? ⟨b, p + 8, none⟩ = some (.int .i64 x.f5.f0) ∧ w.cell? ⟨b, p + 9, none⟩ = some (.int .i64 x.f5.f1) ∧ w.cell? ⟨b, p + 10, none⟩ = some (.int .i64 x.f5.f2) ∧ w.cell? ⟨b, p + 11, none⟩ = some (.int .i64 x.f5.f3) ∧ w.cell? ⟨b, p + 12, none⟩ = some (.slice Ah x.f6.length ch)) ∧ x.f6.length ≤ ch ∧ RdI w0 Ah x.f6 := by
  obtain ⟨Ah, ch, h0, h1, h2, h3, h4, h5, h6, h7, h8, h9, h10, h11, h12, hl, hr⟩ := h
  exact ⟨Ah, ch, fun w hb => ⟨pw_cell_below hb h0, pw_cell_below hb h1, pw_cell_below hb h2, pw_cell_below hb h3, pw_cell_below hb h4, pw_cell_below hb h5, pw_cell_below hb h6, pw_cell_below hb h7, pw_cell_below hb h8, pw_cell_below hb h9, pw_cell_below hb h10, pw_cell_below hb h11, pw_cell_below hb h12⟩, hl, hr⟩
theorem Own.cell {w : World} {base hb cap : Nat} {h : List Int} (ho : Own w base (.slice (some ⟨hb, 0, none⟩) h.length cap) h) {k : Nat} (hk : k < h.length) : w.cell? ⟨hb, k, none⟩ = some (.int .i64 (h.getD k 0)) := by
  have h1 := World.ownsRow.cells ho (g := hb) rfl k (.int .i64 (h.getD k 0)) (by rw [List.getElem?_map, List.getD_eq_getElem?_getD, List.getElem?_eq_getElem hk]; rfl)
  rwa [add_plain] at h1
theorem OutAt.hset {w0 w : World} {g hb cap : Nat} {o : S28} {h : List Int} (ho : OutAt w0 w g hb cap (add6 o h)) (k : Nat) (v : Int) : OutAt w0 (w.setCell ⟨hb, k, none⟩ (.int .i64 v)) g hb cap (add6 o (h.set k v)) := by
  have hch := (Chg.refl (fun k => k = hb) w).setCell (p := ⟨hb, k, none⟩) (.inl rfl) (.int .i64 v)
  have e : (add6 o (h.set k v)).f6.length = (add6 o h).f6.length := List.length_set ..
  refine ⟨?_, ?_, Chg.base ho.bel hch ho.bel.size (fun i hi => by have := ho.newh; omega), ho.newg⟩
  · rw [e]
    exact hch.obj ho.blk (fun e => ho.ne e.symm)
  · have h1 := (World.ownsRow.stored ho.row k (.int .i64 v)).1
    unfold Own
    rw [e]
    have e2 : (add6 o (h.set k v)).f6.map (Value.int .i64) = ((add6 o h).f6.map (Value.int .i64)).set k (.int .i64 v) := List.map_set ..
    rw [e2]
    exact h1

set_option maxHeartbeats 8000000 in
set_option maxRecDepth 100000 in
theorem add_any (o x : S28) (w0 w : World) (g hb cap b p : Nat) (ho : OutAt w0 w g hb cap o) (hx : AccAt w0 b p x) (hk : AddOk o x) (hl : o.f6.length ≤ 9) :
    Calls Try.prog 51 #[.pointer (some ⟨g, 0, none⟩), .pointer (some ⟨b, p, none⟩)] w fun e w' => e = .returned (.tuple #[]) ∧ OutAt w0 w' g hb cap (addA o x) := by
  have HO := Lib.hid ho
  have HX := Lib.hid hx
  have HK := Lib.hid hk
  clear ho hx hk
  obtain ⟨Ah, ch, hxc, hlh, hrh⟩ := acc13 HX.out
  have HXC := Lib.hid hxc
  have HRH := Lib.hid hrh
  clear hxc hrh
  obtain ⟨a0, a1, a2, a3, a4, a5, a6, a7, a8, a9, a10, a11, a12, al⟩ := acO_facts HO.out.blk
  obtain ⟨e0, e1, e2, e3, e4, e5, e6, e7, e8, e9, e10, e11, e12⟩ := HXC.out _ HO.out.bel
  have hf := fun j => blk_free HO.out.blk j
  go_enter Try.func51, Try.ntmps51
  by_cases hz : o.f0 = 0
  focus
    have hzb : (o.f0 == 0) = true := by rw [beq_iff_eq]; exact hz
    have HZ := Lib.hid hz
    clear hz
    go_wp2_with fail
    refine Txt.wp_region_text (by kernel_rfl) (by kernel_rfl) ?_
    repeat (first
      | (refine Txt.text_p (by rfl) rfl (fun K hK => ?_); go_big_quiet_op; refine hK _ ?_; clear hK K)
      | (refine Txt.text_r (by rfl) rfl (fun K hK => ?_); go_big_quiet_op; refine hK _ ?_; clear hK K)
      | (refine Txt.text_pass (by rfl) (by rfl) ?_; simp only [List.set_cons_succ, List.set_cons_zero]))
    refine Txt.text_a (by rfl) rfl (fun K hK => ?_)
    go_wp2_with fail
    repeat (first
      | (refine Txt.text_p (by rfl) rfl (fun K hK => ?_); go_big_quiet_op; refine hK _ ?_; clear hK K)
      | (refine Txt.text_r (by rfl) rfl (fun K hK => ?_); go_big_quiet_op; refine hK _ ?_; clear hK K)
      | (refine Txt.text_pass (by rfl) (by rfl) ?_; simp only [List.set_cons_succ, List.set_cons_zero]))
    refine Txt.text_a (by rfl) rfl (fun K hK => ?_)
    go_wp2_with fail
    repeat (first
      | (refine Txt.text_p (by rfl) rfl (fun K hK => ?_); go_big_quiet_op; refine hK _ ?_; clear hK K)
      | (refine Txt.text_r (by rfl) rfl (fun K hK => ?_); go_big_quiet_op; refine hK _ ?_; clear hK K)
      | (refine Txt.text_pass (by rfl) (by rfl) ?_; simp only [List.set_cons_succ, List.set_cons_zero]))
    refine Txt.text_a (by rfl) rfl (fun K hK => ?_)
    go_wp2_with fail
    repeat (first
      | (refine Txt.text_p (by rfl) rfl (fun K hK => ?_); go_big_quiet_op; refine hK _ ?_; clear hK K)
      | (refine Txt.text_r (by rfl) rfl (fun K hK => ?_); go_big_quiet_op; refine hK _ ?_; clear hK K)
      | (refine Txt.text_pass (by rfl) (by rfl) ?_; simp only [List.set_cons_succ, List.set_cons_zero]))
    refine Txt.text_a (by rfl) rfl (fun K hK => ?_)
    go_wp2_with fail
    refine Txt.text_nil ?_
    show Exit.then _ _ _ _ (World.drew (put4c (put4c ((w.setCell ⟨g, 2, none⟩ (.int .i64 x.f2)).setCell ⟨g, 3, none⟩ (.int .i64 x.f3)) g 4 x.f4) g 8 x.f5))
    have hbk := blk_put4 (blk_put4 (blk_set (blk_set HO.out.blk 2 (.int .i64 x.f2)) 3 (.int .i64 x.f3)) 4 x.f4) 8 x.f5
    simp only [List.setIfInBounds_toArray, List.set_cons_zero, List.set_cons_succ] at hbk
    have hch := put4c_chg (put4c_chg (((Chg.refl (fun k => k = g) w).setCell (p := ⟨g, 2, none⟩) (.inl rfl) (.int .i64 x.f2)).setCell (p := ⟨g, 3, none⟩) (.inl rfl) (.int .i64 x.f3)) 4 x.f4) 8 x.f5
    have ho1 : OutAt w0 (World.drew (put4c (put4c ((w.setCell ⟨g, 2, none⟩ (.int .i64 x.f2)).setCell ⟨g, 3, none⟩ (.int .i64 x.f3)) g 4 x.f4) g 8 x.f5)) g hb cap (fst_ o x) := by
      rw [fst_yes HZ.out]
      exact (HO.out.put (o1 := ⟨o.f0, o.f1, x.f2, x.f3, x.f4, x.f5, o.f6⟩) hbk hch rfl).quiet (Below.refl _ _).drew
    clear hbk hch a0 a1 a2 a3 a4 a5 a6 a7 a8 a9 a10 a11 a12 al e0 e1 e2 e3 e4 e5 e6 e7 e8 e9 e10 e11 e12 hf HO hzb HZ
    generalize World.drew (put4c (put4c ((w.setCell ⟨g, 2, none⟩ (.int .i64 x.f2)).setCell ⟨g, 3, none⟩ (.int .i64 x.f3)) g 4 x.f4) g 8 x.f5) = w1 at *
    go_wp2_with fail
  rotate_left 1
  focus
    have hzb : (o.f0 == 0) = false := beq_eq_false_iff_ne.2 hz
    have ho1 : OutAt w0 w g hb cap (fst_ o x) := by
      rw [fst_no hz]
      exact HO.out
    clear hz
    go_wp2_with fail
    clear a0 a1 a2 a3 a4 a5 a6 a7 a8 a9 a10 a11 a12 al e0 e1 e2 e3 e4 e5 e6 e7 e8 e9 e10 e11 e12 hf HO hzb
    generalize w = w1 at *
  all_goals
    have hk1 := HK.out.fst
    have hl1 : (fst_ o x).f6.length ≤ 9 := by unfold fst_; split <;> exact hl
    have HF := Lib.hid (show (fst_ o x).f6 = o.f6 by unfold fst_; split <;> rfl)
    obtain ⟨o1, he1⟩ : ∃ o1, o1 = fst_ o x := ⟨_, rfl⟩
    rw [← he1] at ho1 hk1 hl1 HF
    have HE1 := Lib.hid he1
    have HO1 := Lib.hid ho1
    clear he1 ho1
    obtain ⟨a0, a1, a2, a3, a4, a5, a6, a7, a8, a9, a10, a11, a12, al⟩ := acO_facts HO1.out.blk
    obtain ⟨e0, e1, e2, e3, e4, e5, e6, e7, e8, e9, e10, e11, e12⟩ := HXC.out _ HO1.out.bel
    have hf := fun j => blk_free HO1.out.blk j
    obtain ⟨hc1, hc2⟩ := hk1.c1
    obtain ⟨hc3, hc4⟩ := hk1.c2
    obtain ⟨hs1, hs2⟩ := hk1.s1
    obtain ⟨hs3, hs4⟩ := hk1.s2
    have HK1 := Lib.hid hk1
    clear hk1
    have hbg : b ≠ g := by
      obtain ⟨_, _, h0, _⟩ := HX.out
      have h1 := World.block_lt_of_cell? w0 _ h0
      have h2 := HO1.out.newg
      intro e
      simp only at h1
      omega
    have hgb : g ≠ b := fun e => hbg e.symm
    obtain ⟨m2, hm2⟩ : ∃ m, (if x.f2 < o1.f2 then x.f2 else o1.f2) = m := ⟨_, rfl⟩
    obtain ⟨m3, hm3⟩ : ∃ m, (if o1.f3 < x.f3 then x.f3 else o1.f3) = m := ⟨_, rfl⟩
    refine Txt.wp_region_text (by kernel_rfl) (by kernel_rfl) ?_
    repeat (first
      | (refine Txt.text_p (by rfl) rfl (fun K hK => ?_); go_big_quiet_op; refine hK _ ?_; clear hK K)
      | (refine Txt.text_r (by rfl) rfl (fun K hK => ?_); go_big_quiet_op; refine hK _ ?_; clear hK K)
      | (refine Txt.text_pass (by rfl) (by rfl) ?_; simp only [List.set_cons_succ, List.set_cons_zero]))
    refine Txt.text_a (by rfl) rfl (fun K hK => ?_)
    go_wp2_with fail
    refine Txt.text_nil ?_
    go_wp2_with fail
    refine Txt.wp_region_text (by kernel_rfl) (by kernel_rfl) ?_
    repeat (first
      | (refine Txt.text_p (by rfl) rfl (fun K hK => ?_); go_big_quiet_op; refine hK _ ?_; clear hK K)
      | (refine Txt.text_r (by rfl) rfl (fun K hK => ?_); go_big_quiet_op; refine hK _ ?_; clear hK K)
      | (refine Txt.text_pass (by rfl) (by rfl) ?_; simp only [List.set_cons_succ, List.set_cons_zero]))
    refine Txt.text_a (by rfl) rfl (fun K hK => ?_)
    go_wp2_with fail
    refine Txt.text_nil ?_
    go_wp2_with fail
    refine Txt.wp_region_text (by kernel_rfl) (by kernel_rfl) ?_
    repeat (first
      | (refine Txt.text_p (by rfl) rfl (fun K hK => ?_); go_big_quiet_op; refine hK _ ?_; clear hK K)
      | (refine Txt.text_r (by rfl) rfl (fun K hK => ?_); go_big_quiet_op; refine hK _ ?_; clear hK K)
      | (refine Txt.text_pass (by rfl) (by rfl) ?_; simp only [List.set_cons_succ, List.set_cons_zero]))
    refine Txt.text_a (by rfl) rfl (fun K hK => ?_)
    go_wp2_with fail
    repeat (first
      | (refine Txt.text_p (by rfl) rfl (fun K hK => ?_); go_big_quiet_op; refine hK _ ?_; clear hK K)
      | (refine Txt.text_r (by rfl) rfl (fun K hK => ?_); go_big_quiet_op; refine hK _ ?_; clear hK K)
      | (refine Txt.text_pass (by rfl) (by rfl) ?_; simp only [List.set_cons_succ, List.set_cons_zero]))
    refine Txt.text_a (by rfl) rfl (fun K hK => ?_)
    go_wp2_with fail
    refine Txt.text_nil ?_
    show Exit.then _ _ _ _ (World.drew (World.drew (World.drew ((((w1.setCell ⟨g, 0, none⟩ (.int .i64 (o1.f0 + x.f0))).setCell ⟨g, 1, none⟩ (.int .i64 (o1.f1 + x.f1))).setCell ⟨g, 2, none⟩ (.int .i64 m2)).setCell ⟨g, 3, none⟩ (.int .i64 m3)))))
    have hbk := blk_set (blk_set (blk_set (blk_set HO1.out.blk 0 (.int .i64 (o1.f0 + x.f0))) 1 (.int .i64 (o1.f1 + x.f1))) 2 (.int .i64 m2)) 3 (.int .i64 m3)
    simp only [List.setIfInBounds_toArray, List.set_cons_zero, List.set_cons_succ] at hbk
    have hch := ((((Chg.refl (fun k => k = g) w1).setCell (p := ⟨g, 0, none⟩) (.inl rfl) (.int .i64 (o1.f0 + x.f0))).setCell (p := ⟨g, 1, none⟩) (.inl rfl) (.int .i64 (o1.f1 + x.f1))).setCell (p := ⟨g, 2, none⟩) (.inl rfl) (.int .i64 m2)).setCell (p := ⟨g, 3, none⟩) (.inl rfl) (.int .i64 m3)
    have ho3 : OutAt w0 (World.drew (World.drew (World.drew ((((w1.setCell ⟨g, 0, none⟩ (.int .i64 (o1.f0 + x.f0))).setCell ⟨g, 1, none⟩ (.int .i64 (o1.f1 + x.f1))).setCell ⟨g, 2, none⟩ (.int .i64 m2)).setCell ⟨g, 3, none⟩ (.int .i64 m3))))) g hb cap (add3 o1 x) := (HO1.out.put (o1 := add3 o1 x) (by unfold acO add3; simp only [hm2, hm3]; exact hbk) hch rfl).quiet ((Below.refl _ _).drew.drew.drew)
    clear hbk hch a0 a1 a2 a3 a4 a5 a6 a7 a8 a9 a10 a11 a12 al e0 e1 e2 e3 e4 e5 e6 e7 e8 e9 e10 e11 e12 hf hm2 hm3
    generalize World.drew (World.drew (World.drew ((((w1.setCell ⟨g, 0, none⟩ (.int .i64 (o1.f0 + x.f0))).setCell ⟨g, 1, none⟩ (.int .i64 (o1.f1 + x.f1))).setCell ⟨g, 2, none⟩ (.int .i64 m2)).setCell ⟨g, 3, none⟩ (.int .i64 m3)))) = w3 at *
    obtain ⟨o3, he3⟩ : ∃ o3, o3 = add3 o1 x := ⟨_, rfl⟩
    have HF3 := Lib.hid (show o3.f6 = o.f6 by rw [he3]; exact HF.out)
    rw [← he3] at ho3
    have HE3 := Lib.hid he3
    have HO3 := Lib.hid ho3
    clear he3 ho3 HF HK1 HO1 hc1 hc2 hc3 hc4 hs1 hs2 hs3 hs4 hl1
    obtain ⟨a0, a1, a2, a3, a4, a5, a6, a7, a8, a9, a10, a11, a12, al⟩ := acO_facts HO3.out.blk
    obtain ⟨e0, e1, e2, e3, e4, e5, e6, e7, e8, e9, e10, e11, e12⟩ := HXC.out _ HO3.out.bel
    have hf := fun j => blk_free HO3.out.blk j
    go_wp2_with fail
    refine Txt.wp_region_text (by kernel_rfl) (by kernel_rfl) ?_
    repeat (first
      | (refine Txt.text_p (by rfl) rfl (fun K hK => ?_); go_big_quiet_op; refine hK _ ?_; clear hK K)
      | (refine Txt.text_r (by rfl) rfl (fun K hK => ?_); go_big_quiet_op; refine hK _ ?_; clear hK K)
      | (refine Txt.text_pass (by rfl) (by rfl) ?_; simp only [List.set_cons_succ, List.set_cons_zero]))
    refine Txt.text_a (by rfl) rfl (fun K hK => ?_)
    go_wp2_with fail
    refine (ord_any x.f4 o3.f4 _).mono ?_
    rintro e w3c ⟨rfl, hb⟩
    have HOc := Lib.hid (HO3.out.quiet (Txt.Bw.undrew hb))
    clear hb a0 a1 a2 a3 a4 a5 a6 a7 a8 a9 a10 a11 a12 al e0 e1 e2 e3 e4 e5 e6 e7 e8 e9 e10 e11 e12 hf HO3
    obtain ⟨a0, a1, a2, a3, a4, a5, a6, a7, a8, a9, a10, a11, a12, al⟩ := acO_facts HOc.out.blk
    obtain ⟨e0, e1, e2, e3, e4, e5, e6, e7, e8, e9, e10, e11, e12⟩ := HXC.out _ HOc.out.bel
    have hf := fun j => blk_free HOc.out.blk j
    have hadd4 : add4 o3 x = if ord x.f4 o3.f4 < 0 then ⟨o3.f0, o3.f1, o3.f2, o3.f3, x.f4, o3.f5, o3.f6⟩ else o3 := rfl
    have HAD := Lib.hid hadd4
    clear hadd4
    generalize ord x.f4 o3.f4 = ov at *
    by_cases h4 : ov < 0
    focus
      have hd : decide (ov < 0) = true := decide_eq_true h4
      have h9 := HAD.out
      rw [if_pos h4] at h9
      have H9 := Lib.hid h9
      clear h4 h9
      go_wp2_with fail
      repeat (first
        | (refine Txt.text_p (by rfl) rfl (fun K hK => ?_); go_big_quiet_op; refine hK _ ?_; clear hK K)
        | (refine Txt.text_r (by rfl) rfl (fun K hK => ?_); go_big_quiet_op; refine hK _ ?_; clear hK K)
        | (refine Txt.text_pass (by rfl) (by rfl) ?_; simp only [List.set_cons_succ, List.set_cons_zero]))
      refine Txt.text_nil ?_
      go_wp2_with fail
      show Code.wp _ _ _ _ (put4c w3c g 4 x.f4)
      have hbk := blk_put4 HOc.out.blk 4 x.f4
      simp only [List.setIfInBounds_toArray, List.set_cons_zero, List.set_cons_succ] at hbk
      have hch := put4c_chg (Chg.refl (fun k => k = g) w3c) 4 x.f4
      have hoN : OutAt w0 (put4c w3c g 4 x.f4) g hb cap (add4 o3 x) := by
        rw [H9.out]
        exact HOc.out.put (o1 := ⟨o3.f0, o3.f1, o3.f2, o3.f3, x.f4, o3.f5, o3.f6⟩) hbk hch rfl
      clear hbk hch a0 a1 a2 a3 a4 a5 a6 a7 a8 a9 a10 a11 a12 al e0 e1 e2 e3 e4 e5 e6 e7 e8 e9 e10 e11 e12 hf hd
      generalize put4c w3c g 4 x.f4 = wN at *
    rotate_left 1
    focus
      have hd : decide (ov < 0) = false := decide_eq_false h4
      have h9 := HAD.out
      rw [if_neg h4] at h9
      have H9 := Lib.hid h9
      clear h4 h9
      go_wp2_with fail
      repeat (first
        | (refine Txt.text_p (by rfl) rfl (fun K hK => ?_); go_big_quiet_op; refine hK _ ?_; clear hK K)
        | (refine Txt.text_r (by rfl) rfl (fun K hK => ?_); go_big_quiet_op; refine hK _ ?_; clear hK K)
        | (refine Txt.text_pass (by rfl) (by rfl) ?_; simp only [List.set_cons_succ, List.set_cons_zero]))
      refine Txt.text_nil ?_
      go_wp2_with fail
      have hoN : OutAt w0 w3c g hb cap (add4 o3 x) := by
        rw [H9.out]
        exact HOc.out
      clear a0 a1 a2 a3 a4 a5 a6 a7 a8 a9 a10 a11 a12 al e0 e1 e2 e3 e4 e5 e6 e7 e8 e9 e10 e11 e12 hf hd
      generalize w3c = wN at *
    all_goals
      have hf4 : (add4 o3 x).f6 = o3.f6 := by rw [H9.out]
      obtain ⟨o4, he4⟩ : ∃ o4, o4 = add4 o3 x := ⟨_, rfl⟩
      rw [← he4] at hoN hf4
      have HF4 := Lib.hid (hf4.trans HF3.out)
      have HE4 := Lib.hid he4
      have HO4 := Lib.hid hoN
      clear he4 hoN hf4 HF3 H9 HAD HOc
      obtain ⟨a0, a1, a2, a3, a4, a5, a6, a7, a8, a9, a10, a11, a12, al⟩ := acO_facts HO4.out.blk
      obtain ⟨e0, e1, e2, e3, e4, e5, e6, e7, e8, e9, e10, e11, e12⟩ := HXC.out _ HO4.out.bel
      have hf := fun j => blk_free HO4.out.blk j
      refine Txt.wp_region_text (by kernel_rfl) (by kernel_rfl) ?_
      repeat (first
        | (refine Txt.text_p (by rfl) rfl (fun K hK => ?_); go_big_quiet_op; refine hK _ ?_; clear hK K)
        | (refine Txt.text_r (by rfl) rfl (fun K hK => ?_); go_big_quiet_op; refine hK _ ?_; clear hK K)
        | (refine Txt.text_pass (by rfl) (by rfl) ?_; simp only [List.set_cons_succ, List.set_cons_zero]))
      refine Txt.text_a (by rfl) rfl (fun K hK => ?_)
      go_wp2_with fail
      refine (ord_any x.f5 o4.f5 _).mono ?_
      rintro e w4c ⟨rfl, hb⟩
      have HOd := Lib.hid (HO4.out.quiet (Txt.Bw.undrew hb))
      clear hb a0 a1 a2 a3 a4 a5 a6 a7 a8 a9 a10 a11 a12 al e0 e1 e2 e3 e4 e5 e6 e7 e8 e9 e10 e11 e12 hf HO4
      obtain ⟨a0, a1, a2, a3, a4, a5, a6, a7, a8, a9, a10, a11, a12, al⟩ := acO_facts HOd.out.blk
      obtain ⟨e0, e1, e2, e3, e4, e5, e6, e7, e8, e9, e10, e11, e12⟩ := HXC.out _ HOd.out.bel
      have hf := fun j => blk_free HOd.out.blk j
      have hadd5 : add5 o4 x = if 0 ≤ ord x.f5 o4.f5 then ⟨o4.f0, o4.f1, o4.f2, o4.f3, o4.f4, x.f5, o4.f6⟩ else o4 := rfl
      have HAD := Lib.hid hadd5
      clear hadd5
      generalize ord x.f5 o4.f5 = ov2 at *
      by_cases h4 : 0 ≤ ov2
      focus
        have hd : decide (0 ≤ ov2) = true := decide_eq_true h4
        have h9 := HAD.out
        rw [if_pos h4] at h9
        have H9 := Lib.hid h9
        clear h4 h9
        go_wp2_with fail
        repeat (first
          | (refine Txt.text_p (by rfl) rfl (fun K hK => ?_); go_big_quiet_op; refine hK _ ?_; clear hK K)
          | (refine Txt.text_r (by rfl) rfl (fun K hK => ?_); go_big_quiet_op; refine hK _ ?_; clear hK K)
          | (refine Txt.text_pass (by rfl) (by rfl) ?_; simp only [List.set_cons_succ, List.set_cons_zero]))
        refine Txt.text_nil ?_
        go_wp2_with fail
        show Code.wp _ _ _ _ (put4c w4c g 8 x.f5)
        have hbk := blk_put4 HOd.out.blk 8 x.f5
        simp only [List.setIfInBounds_toArray, List.set_cons_zero, List.set_cons_succ] at hbk
        have hch := put4c_chg (Chg.refl (fun k => k = g) w4c) 8 x.f5
        have hoN : OutAt w0 (put4c w4c g 8 x.f5) g hb cap (add5 o4 x) := by
          rw [H9.out]
          exact HOd.out.put (o1 := ⟨o4.f0, o4.f1, o4.f2, o4.f3, o4.f4, x.f5, o4.f6⟩) hbk hch rfl
        clear hbk hch a0 a1 a2 a3 a4 a5 a6 a7 a8 a9 a10 a11 a12 al e0 e1 e2 e3 e4 e5 e6 e7 e8 e9 e10 e11 e12 hf hd
        generalize put4c w4c g 8 x.f5 = wN at *
      rotate_left 1
      focus
        have hd : decide (0 ≤ ov2) = false := decide_eq_false h4
        have h9 := HAD.out
        rw [if_neg h4] at h9
        have H9 := Lib.hid h9
        clear h4 h9
        go_wp2_with fail
        repeat (first
          | (refine Txt.text_p (by rfl) rfl (fun K hK => ?_); go_big_quiet_op; refine hK _ ?_; clear hK K)
          | (refine Txt.text_r (by rfl) rfl (fun K hK => ?_); go_big_quiet_op; refine hK _ ?_; clear hK K)
          | (refine Txt.text_pass (by rfl) (by rfl) ?_; simp only [List.set_cons_succ, List.set_cons_zero]))
        refine Txt.text_nil ?_
        go_wp2_with fail
        have hoN : OutAt w0 w4c g hb cap (add5 o4 x) := by
          rw [H9.out]
          exact HOd.out
        clear a0 a1 a2 a3 a4 a5 a6 a7 a8 a9 a10 a11 a12 al e0 e1 e2 e3 e4 e5 e6 e7 e8 e9 e10 e11 e12 hf hd
        generalize w4c = wN at *
      all_goals
        have hf5 : (add5 o4 x).f6 = o4.f6 := by rw [H9.out]
        obtain ⟨o5, he5⟩ : ∃ o5, o5 = add5 o4 x := ⟨_, rfl⟩
        rw [← he5] at hoN hf5
        have HF5 := Lib.hid (hf5.trans HF4.out)
        have HE5 := Lib.hid he5
        have HO5 := Lib.hid hoN
        clear he5 hoN hf5 HF4 H9 HAD HOd
        go_wp2_with fail
        go_loopw [124] (fun i wr => ∃ (k : Nat) (h : List Int), i = .int .i64 k ∧ k ≤ x.f6.length ∧ OutAt w0 wr g hb cap (add6 o5 h) ∧ Rel (h.length = o.f6.length ∧ ∀ j, j < o.f6.length → h.getD j 0 = if j < k then o.f6.getD j 0 + x.f6.getD j 0 else o.f6.getD j 0)) (fun i _ => x.f6.length - (intOf i).toNat)
        case atStart => exact ⟨0, o5.f6, rfl, by omega, HO5.out, by rw [HF5.out], fun j hj => by rw [if_neg (by omega), HF5.out]⟩
        case round =>
          obtain ⟨k, h, rfl, hk, hor, hx⟩ := hrel
          have HXR := Lib.hid hx
          have HOR := Lib.hid hor
          clear hx hor
          by_cases hlt : k < x.f6.length
          · obtain ⟨ad, rfl, n0⟩ := RdI.at_ (Kd.C_below HRH.out HOR.out.bel) hlt
            have hol : k < o.f6.length := by rw [← HK.out.len]; exact hlt
            have hk9 : k < 9 := by omega
            have hkl : k < h.length := by rw [HXR.out.1]; exact hol
            have c12 : wr.cell? ⟨g, 12, none⟩ = some (.slice (some ⟨hb, 0, none⟩) h.length cap) := (blk_cell HOR.out.blk 12).trans rfl
            have hgl := blk_lt HOR.out.blk
            have hv := Own.cell (h := h) HOR.out.row hkl
            obtain ⟨cur, hcur⟩ := row_blk HOR.out.row
            have hfz := blk_free hcur
            have hbl := blk_lt hcur
            have hhk : h.getD k 0 = o.f6.getD k 0 := by rw [HXR.out.2 k hol, if_neg (by omega)]
            obtain ⟨u1, u2⟩ := HK.out.h1 k hol
            obtain ⟨u3, u4⟩ := HK.out.h2 k hol
            rw [← hhk] at u1 u2
            have HHK := Lib.hid hhk
            have HOL := Lib.hid hol
            obtain ⟨n, hn⟩ : ∃ n, x.f6.getD k 0 = n := ⟨_, rfl⟩
            obtain ⟨uu, huu⟩ : ∃ n, h.getD k 0 = n := ⟨_, rfl⟩
            rw [hn] at n0 u3 u4
            rw [huu] at hv u1 u2
            have HN := Lib.hid (And.intro hn huu)
            clear hcur hhk hol hn huu
            go_wp2_with fail
            refine ⟨⟨k + 1, h.set k (uu + n), by go_num, by omega, HOR.out.hset k _, ?_, fun j hj => ?_⟩, by simp [intOf]; omega⟩
            · rw [List.length_set]; exact HXR.out.1
            · rw [List.getD_eq_getElem?_getD, List.getElem?_set]
              by_cases hjk : k = j
              · subst hjk
                rw [if_pos rfl, if_pos hkl, if_pos (by omega), ← HHK.out, HN.out.1, HN.out.2]
                rfl
              · rw [if_neg hjk, ← List.getD_eq_getElem?_getD, HXR.out.2 j hj]
                by_cases hj2 : j < k
                · rw [if_pos hj2, if_pos (by omega)]
                · rw [if_neg hj2, if_neg (by omega)]
          · obtain rfl : k = x.f6.length := by omega
            go_wp2_with fail
            have hh : h = hadd o.f6 x.f6 := hadd_ext HXR.out.1 HK.out.len (fun j hj => by rw [HXR.out.2 j hj, if_pos (by have := HK.out.len; omega)])
            have hfin : add6 o5 h = addA o x := by rw [addA, ← HE1.out, ← HE3.out, ← HE4.out, ← HE5.out, ← hh]
            refine bodyPost_end (results_none rfl _ _ _) rfl ⟨rfl, ?_⟩
            rw [← hfin]
            exact HOR.out
end Go.Proofs.Ytggaefklcpbfnaa.My
