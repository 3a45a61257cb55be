/- What is known of one item: One, walked. No statement of the seed is proved here. -/
import Derived.Test.YtggaefklcpbfnaaAccA
import Derived.Test.YtggaefklcpbfnaaHeapMem
namespace Go.Proofs.Ytggaefklcpbfnaa
open Go.RowKit PAccs Go.Proofs.YtggaefklcpbfnaaW.PrintWords
attribute [local go_sem high] eqA26

/-- A row of whole numbers of one's own. -/
def Own (w : World) (base : Nat) (v : Value) (h : List Int) : Prop := w.ownsRow base 3 1 v h.length (h.map (Value.int .i64))
/-- A row of whole numbers that is read. -/
abbrev RdI (w : World) (A : Option Addr) (h : List Int) : Prop := Kd.C (Kd.int .i64) w A h.length h
theorem Own.reads {w : World} {base : Nat} {v : Value} {h : List Int} (ho : Own w base v h) : ∃ A c, v = .slice A h.length c ∧ h.length ≤ c ∧ RdI w A h :=
  Kd.R_reads (d := Kd.int .i64) (Kd.R_of_own (ok := fun _ => True) ho (fun _ _ => trivial))
theorem Own.nil (w : World) (base : Nat) : Own w base (.slice none 0 0) [] := World.ownsRow_nil _ _ _ _
theorem Own.keep {S : Nat → Prop} {w w1 : World} {base : Nat} {v : Value} {h : List Int} (ho : Own w base v h) (hc : Chg S w w1) (hn : ∀ k, v.ownBlock = some k → ¬ S k) : Own w1 base v h := row_keep ho hc hn
theorem Own.below {w w1 : World} {base : Nat} {v : Value} {h : List Int} (ho : Own w base v h) (hb : Below w.heap.size w w1) : Own w1 base v h := ho.keep (S := fun _ => False) (Chg.of_below hb) (fun _ _ h => h)

/-- An item, an aggregate in a block. -/
def itO (x : S26) : Obj := .cells #[.int .i64 x.f0, .int .i64 x.f1, .int .i64 x.f2, .int .i64 x.f3] 26
def acO (a : S28) (v : Value) : Obj := .cells #[.int .i64 a.f0, .int .i64 a.f1, .int .i64 a.f2, .int .i64 a.f3, .int .i64 a.f4.f0, .int .i64 a.f4.f1, .int .i64 a.f4.f2, .int .i64 a.f4.f3, .int .i64 a.f5.f0, .int .i64 a.f5.f1, .int .i64 a.f5.f2, .int .i64 a.f5.f3, v] 28
theorem itO_facts {w : World} {b : Nat} {x : S26} (h : w.heap[b]? = some (itO x)) : w.cell? ⟨b, 0, none⟩ = some (.int .i64 x.f0) ∧ w.cell? ⟨b, 1, none⟩ = some (.int .i64 x.f1) ∧ w.cell? ⟨b, 2, none⟩ = some (.int .i64 x.f2) ∧ w.cell? ⟨b, 3, none⟩ = some (.int .i64 x.f3) ∧ b < w.heap.size :=
  ⟨(blk_cell h 0).trans rfl, (blk_cell h 1).trans rfl, (blk_cell h 2).trans rfl, (blk_cell h 3).trans rfl, blk_lt h⟩
theorem acO_facts {w : World} {b : Nat} {a : S28} {v : Value} (h : w.heap[b]? = some (acO a v)) : w.cell? ⟨b, 0, none⟩ = some (.int .i64 a.f0) ∧ w.cell? ⟨b, 1, none⟩ = some (.int .i64 a.f1) ∧ w.cell? ⟨b, 2, none⟩ = some (.int .i64 a.f2) ∧ w.cell? ⟨b, 3, none⟩ = some (.int .i64 a.f3) ∧ w.cell? ⟨b, 4, none⟩ = some (.int .i64 a.f4.f0) ∧ w.cell? ⟨b, 5, none⟩ = some (.int .i64 a.f4.f1) ∧ w.cell? ⟨b, 6, none⟩ = some (.int .i64 a.f4.f2) ∧ w.cell? ⟨b, 7, none⟩ = some (.int .i64 a.f4.f3) ∧ w.cell? ⟨b, 8, none⟩ = some (.int .i64 a.f5.f0) ∧ w.cell? ⟨b, 9, none⟩ = some (.int .i64 a.f5.f1) ∧ w.cell? ⟨b, 10, none⟩ = some (.int .i64 a.f5.f2) ∧ w.cell? ⟨b, 11, none⟩ = some (.int .i64 a.f5.f3) ∧ w.cell? ⟨b, 12, none⟩ = some v ∧ b < w.heap.size :=
  ⟨(blk_cell h 0).trans rfl, (blk_cell h 1).trans rfl, (blk_cell h 2).trans rfl, (blk_cell h 3).trans rfl, (blk_cell h 4).trans rfl, (blk_cell h 5).trans rfl, (blk_cell h 6).trans rfl, (blk_cell h 7).trans rfl, (blk_cell h 8).trans rfl, (blk_cell h 9).trans rfl, (blk_cell h 10).trans rfl, (blk_cell h 11).trans rfl, (blk_cell h 12).trans rfl, blk_lt h⟩
theorem blk_below {w w1 : World} {b : Nat} {o : Obj} (h : w.heap[b]? = some o) (hb : Below w.heap.size w w1) : w1.heap[b]? = some o := (Chg.of_below (S := fun _ => False) hb).obj h (fun h => h)

/-- All of an aggregate is stored. -/
def putA (w : World) (b : Nat) (a : S28) (v : Value) : World := ((((((((((((w.setCell ⟨b, 0, none⟩ (.int .i64 a.f0)).setCell ⟨b, 1, none⟩ (.int .i64 a.f1)).setCell ⟨b, 2, none⟩ (.int .i64 a.f2)).setCell ⟨b, 3, none⟩ (.int .i64 a.f3)).setCell ⟨b, 4, none⟩ (.int .i64 a.f4.f0)).setCell ⟨b, 5, none⟩ (.int .i64 a.f4.f1)).setCell ⟨b, 6, none⟩ (.int .i64 a.f4.f2)).setCell ⟨b, 7, none⟩ (.int .i64 a.f4.f3)).setCell ⟨b, 8, none⟩ (.int .i64 a.f5.f0)).setCell ⟨b, 9, none⟩ (.int .i64 a.f5.f1)).setCell ⟨b, 10, none⟩ (.int .i64 a.f5.f2)).setCell ⟨b, 11, none⟩ (.int .i64 a.f5.f3)).setCell ⟨b, 12, none⟩ v
theorem putA_blk {w : World} {b : Nat} {a0 a : S28} {v0 v : Value} (h : w.heap[b]? = some (acO a0 v0)) : (putA w b a v).heap[b]? = some (acO a v) := by
  have := blk_set (blk_set (blk_set (blk_set (blk_set (blk_set (blk_set (blk_set (blk_set (blk_set (blk_set (blk_set (blk_set h 0 (.int .i64 a.f0)) 1 (.int .i64 a.f1)) 2 (.int .i64 a.f2)) 3 (.int .i64 a.f3)) 4 (.int .i64 a.f4.f0)) 5 (.int .i64 a.f4.f1)) 6 (.int .i64 a.f4.f2)) 7 (.int .i64 a.f4.f3)) 8 (.int .i64 a.f5.f0)) 9 (.int .i64 a.f5.f1)) 10 (.int .i64 a.f5.f2)) 11 (.int .i64 a.f5.f3)) 12 v
  simp only [List.setIfInBounds_toArray, List.set_cons_zero, List.set_cons_succ] at this
  exact this
theorem putA_chg (w : World) (b : Nat) (a : S28) (v : Value) : Chg (fun k => k = b) w (putA w b a v) :=
  (((((((((((((Chg.refl (fun k => k = b) w).setCell (p := ⟨b, 0, none⟩) (.inl rfl) _).setCell (p := ⟨b, 1, none⟩) (.inl rfl) _).setCell (p := ⟨b, 2, none⟩) (.inl rfl) _).setCell (p := ⟨b, 3, none⟩) (.inl rfl) _).setCell (p := ⟨b, 4, none⟩) (.inl rfl) _).setCell (p := ⟨b, 5, none⟩) (.inl rfl) _).setCell (p := ⟨b, 6, none⟩) (.inl rfl) _).setCell (p := ⟨b, 7, none⟩) (.inl rfl) _).setCell (p := ⟨b, 8, none⟩) (.inl rfl) _).setCell (p := ⟨b, 9, none⟩) (.inl rfl) _).setCell (p := ⟨b, 10, none⟩) (.inl rfl) _).setCell (p := ⟨b, 11, none⟩) (.inl rfl) _).setCell (p := ⟨b, 12, none⟩) (.inl rfl) _

theorem info_int : (Try.prog.info? 3).map (fun i => (i.zero, i.size, i.bytes)) = some (some (.int .i64 0), 1, 8) := by kernel_rfl
theorem made_ints (n : Nat) : madeCells (Value.int .i64 0).cells n = Array.replicate n (.int .i64 0) := by
  apply Array.ext
  · simp [madeCells]
  · intro i h1 h2
    simp [madeCells, Value.cells, Nat.mod_one]
theorem make_ints (n : Nat) (hn : n ≤ 1000) (w : World) : (Instr.makeSlice 22 (.int .i64 n) (.int .i64 n)).run Try.prog w = .ok (.slice (some ⟨w.heap.size, 0, none⟩) n n) (w.alloc (.cells (Array.replicate n (.int .i64 0)) 3)) := by
  cases hi : Try.prog.info? 3 with
  | none => have := info_int; rw [hi] at this; simp at this
  | some i =>
    have h := info_int
    rw [hi] at h
    simp only [Option.map_some, Option.some.injEq, Prod.mk.injEq] at h
    obtain ⟨hz, hs, hb⟩ := h
    have hr := run_make w 22 3 i (.int .i64 0) Try.underlying22 hi hz .i64 .i64 n n (by omega) (by omega) (by rw [hb]; omega) (by omega)
    rw [hs, Nat.mul_one, Int.toNat_natCast, made_ints] at hr
    exact hr
theorem made_own (n : Nat) (hn : n ≤ 1000) (w : World) (g : Nat) (h : w.heap[g]? = some (.cells (Array.replicate n (.int .i64 0)) 3 (0, 0))) (base : Nat) (hb : base ≤ g) : Own w base (.slice (some ⟨g, 0, none⟩) n n) (List.replicate n 0) := by
  refine ⟨by simp, .inr ⟨g, n, _, by simp, hb, h, by simp, by simp [maxLen]; omega, by simp, ?_⟩⟩
  simp

/-- The end of a function that hands out an aggregate and a word. -/
theorem results_acc {fn : Func} {p u : Tmp} (h : fn.results = #[.cell p 28, .tmp u]) (tmps : Array Value) (w : World) (g : Nat) (a : S28) (v : Value) (hp : tmps.getD p undef = .pointer (some ⟨g, 0, none⟩)) (hg : w.heap[g]? = some (acO a v)) :
    (results fn tmps).run Try.prog w = .ok (.tuple #[acV a v, tmps.getD u undef]) w :=
  results_ct h tmps w g 28 _ (0, 0) _ hp hg Try.underlying28 rfl (by kernel_rfl)

set_option maxHeartbeats 2000000 in
set_option maxRecDepth 100000 in
theorem one_any (x : S26) (bs : List Int) (A : Option Addr) (c : Nat) (w : World) (hr : RdI w A bs) (hc : bs.length ≤ c) :
    Calls Try.prog 28 #[.agg #[.int .i64 x.f0, .int .i64 x.f1, .int .i64 x.f2, .int .i64 x.f3], .slice A bs.length c] w fun e w' => ∃ v, e = .returned (.tuple #[acV (oneRes x bs).1 v, .int .i64 (oneRes x bs).2]) ∧ Own w' w.heap.size v (oneRes x bs).1.f6 ∧ Below w.heap.size w w' := by
  have HR := Lib.hid hr
  have HC := Lib.hid hc
  clear hr hc
  go_enter Try.func28, Try.ntmps28
  go_wp2_with fail
  have hx : ((w.alloc (itO x)).alloc (acO z28 (.slice none 0 0))).heap[w.heap.size]? = some (itO x) := blk_below (heap_alloc_new w (itO x)) ((Below.refl _ _).alloc (Nat.le_refl _) _)
  have hz : ((w.alloc (itO x)).alloc (acO z28 (.slice none 0 0))).heap[w.heap.size + 1]? = some (acO z28 (.slice none 0 0)) := by
    have := heap_alloc_new (w.alloc (itO x)) (acO z28 (.slice none 0 0))
    simpa using this
  have hB : Below w.heap.size w ((w.alloc (itO x)).alloc (acO z28 (.slice none 0 0))) := ((Below.refl w.heap.size w).alloc (Nat.le_refl _) _).alloc (by simp) _
  refine (im_any x _).mono ?_
  rintro e w1 ⟨rfl, hb⟩
  have HX := Lib.hid (blk_below hx hb)
  have HZ := Lib.hid (blk_below hz hb)
  have HB1 := Lib.hid (hB.trans (hb.mono hB.size))
  clear hx hz hB hb
  by_cases h1 : imay x = true
  · rw [h1]
    go_wp2_with fail
    refine (bm_any bs A c _ (Kd.C_below HR.out HB1.out) HC.out).mono ?_
    rintro e w2 ⟨rfl, hb⟩
    replace HX := Lib.hid (blk_below HX.out hb)
    replace HZ := Lib.hid (blk_below HZ.out hb)
    replace HB1 := Lib.hid (HB1.out.trans (hb.mono HB1.out.size))
    clear hb
    by_cases h2 : bmay bs = true
    · have hl := bmay_len h2
      have hres : oneRes x bs = (one x bs, 0) := by unfold oneRes; rw [h1, h2]; rfl
      have HRES := Lib.hid hres
      rw [h2]
      clear hres h1 h2
      obtain ⟨x0, x1, x2, x3, xl⟩ := itO_facts HX.out
      go_wp2_with fail
      refine Txt.wp_region_mix (by kernel_rfl) (by kernel_rfl) (fun HB => ?_)
      repeat (first
        | (refine Txt.mix_p (by rfl) rfl rfl (fun K hK => ?_); go_big_quiet_op; refine hK _ ?_; clear hK K)
        | (refine Txt.mix_re (by rfl) (by decide +kernel) (by rfl) (by rfl) (by go_simp) HB (fun K hK => ?_); go_big_quiet_op; refine hK _ ?_; clear hK K)
        | (refine Txt.mix_rl (by rfl) (by decide +kernel) (by rfl) (by rfl) (by go_simp) HB (fun K hK => ?_); go_big_quiet_op; refine hK _ ?_; clear hK K)
        | (refine Txt.mix_pass (by rfl) (by rfl) ?_; simp only [List.set_cons_succ, List.set_cons_zero]))
      refine Txt.mix_m (fun g => .slice (some ⟨g, 0, none⟩) (bs.length + 1) (bs.length + 1)) (.cells (Array.replicate (bs.length + 1) (.int .i64 0)) 3) (by rfl) (by decide +kernel) (fun w1 => by
        go_simp
        rw [show ((bs.length : Int) + 1) = ((bs.length + 1 : Nat) : Int) by omega, make_ints _ (by omega)]
        rfl) HB ?_
      intro gb w3 hb2 hg2 ho2
      replace HB := HB.trans hb2
      have HG := Lib.hid ho2
      have HGB := Lib.hid hg2
      clear hb2 ho2 hg2
      simp only [Act.put, List.setIfInBounds_toArray, List.set_cons_succ, List.set_cons_zero]
      repeat (first
        | (refine Txt.mix_p (by rfl) rfl rfl (fun K hK => ?_); go_big_quiet_op; refine hK _ ?_; clear hK K)
        | (refine Txt.mix_re (by rfl) (by decide +kernel) (by rfl) (by rfl) (by go_simp) HB (fun K hK => ?_); go_big_quiet_op; refine hK _ ?_; clear hK K)
        | (refine Txt.mix_rl (by rfl) (by decide +kernel) (by rfl) (by rfl) (by go_simp) HB (fun K hK => ?_); go_big_quiet_op; refine hK _ ?_; clear hK K)
        | (refine Txt.mix_pass (by rfl) (by rfl) ?_; simp only [List.set_cons_succ, List.set_cons_zero]))
      refine Txt.mix_m (fun g => .pointer (some ⟨g, 0, none⟩)) (acO z28 (.slice none 0 0)) (by rfl) (by decide +kernel) (fun w1 => by unfold acO; go_simp; rfl) HB ?_
      intro oa w4 hb4 hg4 ho4
      replace HG := Lib.hid (blk_below HG.out hb4)
      replace HB := HB.trans hb4
      have HOA := Lib.hid hg4
      clear hb4 hg4
      simp only [Act.put, List.setIfInBounds_toArray, List.set_cons_succ, List.set_cons_zero]
      repeat (first
        | (refine Txt.mix_p (by rfl) rfl rfl (fun K hK => ?_); go_big_quiet_op; refine hK _ ?_; clear hK K)
        | (refine Txt.mix_re (by rfl) (by decide +kernel) (by rfl) (by rfl) (by go_simp) HB (fun K hK => ?_); go_big_quiet_op; refine hK _ ?_; clear hK K)
        | (refine Txt.mix_rl (by rfl) (by decide +kernel) (by rfl) (by rfl) (by go_simp) HB (fun K hK => ?_); go_big_quiet_op; refine hK _ ?_; clear hK K)
        | (refine Txt.mix_pass (by rfl) (by rfl) ?_; simp only [List.set_cons_succ, List.set_cons_zero]))
      refine Txt.mix_a (by rfl) (by decide +kernel) (fun K hK => ?_)
      obtain ⟨z0, z1, z2, z3, z4, z5, z6, z7, z8, z9, z10, z11, z12, zl⟩ := acO_facts ho4
      have hf := fun j => blk_free ho4 j
      go_wp2_with fail
      clear z0 z1 z2 z3 z4 z5 z6 z7 z8 z9 z10 z11 z12 zl hf x0 x1 x2 x3 xl
      show Txt.wpMix _ _ _ _ _ _ _ (putA w4 oa ⟨1, x.f3, x.f3, x.f3, x, x, []⟩ (.slice (some ⟨gb, 0, none⟩) (bs.length + 1) (bs.length + 1)))
      have ho5 := putA_blk (a := ⟨1, x.f3, x.f3, x.f3, x, x, []⟩) (v := .slice (some ⟨gb, 0, none⟩) (bs.length + 1) (bs.length + 1)) ho4
      have hc5 := putA_chg w4 oa ⟨1, x.f3, x.f3, x.f3, x, x, []⟩ (.slice (some ⟨gb, 0, none⟩) (bs.length + 1) (bs.length + 1))
      have hne : gb ≠ oa := fun e => by
        have h5 := HG.out
        rw [e, ho4] at h5
        unfold acO at h5
        injection h5 with h5
        injection h5 with _ h5
        exact absurd h5 (by decide)
      have hl2 := blk_lt HX.out
      have hl3 := blk_lt HZ.out
      have hoa : w2.heap.size ≤ oa := HOA.out
      have hgb : w2.heap.size ≤ gb := HGB.out
      have HX5 := Lib.hid (hc5.obj (blk_below HX.out HB.undrew) (by omega))
      have HZ5 := Lib.hid (hc5.obj (blk_below HZ.out HB.undrew) (by omega))
      have HG5 := Lib.hid (hc5.obj HG.out hne)
      have HB5 := Lib.hid (Chg.base (HB1.out.trans (HB.undrew.mono HB1.out.size)) hc5 (Nat.le_trans HB1.out.size HB.undrew.size) (fun i hi => by have := HB1.out.size; omega))
      have HO5 := Lib.hid ho5
      have HNE := Lib.hid (And.intro hne (And.intro (show w.heap.size + 1 ≠ oa by omega) (And.intro (show w.heap.size + 1 ≠ gb by omega) (show w.heap.size ≤ gb by omega))))
      clear ho5 hc5 hne hl2 hl3 hoa hgb HX HZ HG HB HB1 HGB HOA ho4
      generalize putA w4 oa ⟨1, x.f3, x.f3, x.f3, x, x, []⟩ (.slice (some ⟨gb, 0, none⟩) (bs.length + 1) (bs.length + 1)) = w5 at *
      refine Txt.mix_nil ?_
      obtain ⟨x0, x1, x2, x3, xl⟩ := itO_facts HX5.out
      obtain ⟨z0, z1, z2, z3, z4, z5, z6, z7, z8, z9, z10, z11, z12, zl⟩ := acO_facts HO5.out
      go_wp2_with fail
      refine Txt.wp_region_mix (by kernel_rfl) (by kernel_rfl) (fun HB => ?_)
      repeat (first
        | (refine Txt.mix_p (by rfl) rfl rfl (fun K hK => ?_); go_big_quiet_op; refine hK _ ?_; clear hK K)
        | (refine Txt.mix_re (by rfl) (by decide +kernel) (by rfl) (by rfl) (by go_simp) HB (fun K hK => ?_); go_big_quiet_op; refine hK _ ?_; clear hK K)
        | (refine Txt.mix_rl (by rfl) (by decide +kernel) (by rfl) (by rfl) (by go_simp) HB (fun K hK => ?_); go_big_quiet_op; refine hK _ ?_; clear hK K)
        | (refine Txt.mix_pass (by rfl) (by rfl) ?_; simp only [List.set_cons_succ, List.set_cons_zero]))
      refine Txt.mix_c (by rfl) (by decide +kernel) HB ?_
      intro w6 hw6 K hK
      replace HB := HB.trans hw6
      clear hw6
      go_wp2_with fail
      refine (bucket_any bs x.f3 A c _ (Kd.C_below (Kd.C_below HR.out HB5.out) HB.undrew) HC.out hl).mono ?_
      rintro e w7 ⟨rfl, hb⟩
      refine hK _ _ ⟨hb, ?_⟩
      replace HB := HB.trans hb
      clear hK K hb
      have hbk := bucket_le bs x.f3
      generalize hbe : bucket bs x.f3 = bk at *
      repeat (first
        | (refine Txt.mix_p (by rfl) rfl rfl (fun K hK => ?_); go_big_quiet_op; refine hK _ ?_; clear hK K)
        | (refine Txt.mix_re (by rfl) (by decide +kernel) (by rfl) (by rfl) (by go_simp) HB (fun K hK => ?_); go_big_quiet_op; refine hK _ ?_; clear hK K)
        | (refine Txt.mix_rl (by rfl) (by decide +kernel) (by rfl) (by rfl) (by go_simp) HB (fun K hK => ?_); go_big_quiet_op; refine hK _ ?_; clear hK K)
        | (refine Txt.mix_pass (by rfl) (by rfl) ?_; simp only [List.set_cons_succ, List.set_cons_zero]))
      refine Txt.mix_a (by rfl) (by decide +kernel) (fun K hK => ?_)
      have hg7 := blk_below HG5.out HB.undrew
      have hf := fun j => blk_free hg7 j
      have hgl := blk_lt hg7
      have hcl : w7.cell? ⟨gb, bk, none⟩ = some (.int .i64 0) := (blk_cell hg7 bk).trans (by rw [Array.getElem?_replicate, if_pos (by omega)])
      have HGW := Lib.hid hg7
      clear hg7
      go_wp2_with fail
      refine Txt.mix_nil ?_
      have hnn := HNE.out
      have hc8 := (Chg.refl (fun k => k = gb) w7).setCell (p := ⟨gb, bk, none⟩) (.inl rfl) (.int .i64 1)
      have ho8 := hc8.obj (blk_below HO5.out HB.undrew) (fun e => hnn.1 e.symm)
      have hz8 := hc8.obj (blk_below HZ5.out HB.undrew) hnn.2.2.1
      have hown : Own (w7.setCell ⟨gb, bk, none⟩ (.int .i64 1)) w.heap.size (.slice (some ⟨gb, 0, none⟩) (bs.length + 1) (bs.length + 1)) ((List.replicate (bs.length + 1) 0).set bk 1) := by
        have h0 := made_own (bs.length + 1) (by omega) w7 gb HGW.out w.heap.size hnn.2.2.2
        unfold Own at h0 ⊢
        rw [List.length_replicate] at h0
        have h1 := (World.ownsRow.stored h0 bk (.int .i64 1)).1
        rw [List.length_set, List.length_replicate, List.map_set]
        exact h1
      have hb8 := Chg.base (HB5.out.trans (HB.undrew.mono HB5.out.size)) hc8 (Nat.le_trans HB5.out.size HB.undrew.size) (fun i hi => by omega)
      have HOWN := Lib.hid hown
      have HB8 := Lib.hid hb8
      have HZ8 := Lib.hid hz8
      have hlz := blk_lt hz8
      clear hown hb8 hc8 HX5 HZ5 HG5 HB5 HO5 HB HGW hf hgl hcl x0 x1 x2 x3 xl
      clear z0 z1 z2 z3 z4 z5 z6 z7 z8 z9 z10 z11 z12 zl
      generalize w7.setCell ⟨gb, bk, none⟩ (.int .i64 1) = w8 at *
      obtain ⟨o0, o1, o2, o3, o4, o5, o6, o7, o8, o9, o10, o11, o12, ol⟩ := acO_facts ho8
      obtain ⟨z0, z1, z2, z3, z4, z5, z6, z7, z8, z9, z10, z11, z12, zl⟩ := acO_facts hz8
      have hf := fun j => blk_free hz8 j
      clear ho8 hz8
      go_wp2_with fail
      show bodyPost _ _ _ _ _ (putA w8 (w.heap.size + 1) ⟨1, x.f3, x.f3, x.f3, x, x, []⟩ (.slice (some ⟨gb, 0, none⟩) (bs.length + 1) (bs.length + 1)))
      have hz2 := putA_blk (a := ⟨1, x.f3, x.f3, x.f3, x, x, []⟩) (v := .slice (some ⟨gb, 0, none⟩) (bs.length + 1) (bs.length + 1)) HZ8.out
      have hch := putA_chg w8 (w.heap.size + 1) ⟨1, x.f3, x.f3, x.f3, x, x, []⟩ (.slice (some ⟨gb, 0, none⟩) (bs.length + 1) (bs.length + 1))
      refine bodyPost_ret (results_acc rfl _ _ (w.heap.size + 1) ⟨1, x.f3, x.f3, x.f3, x, x, []⟩ (.slice (some ⟨gb, 0, none⟩) (bs.length + 1) (bs.length + 1)) rfl hz2) rfl ?_
      refine ⟨.slice (some ⟨gb, 0, none⟩) (bs.length + 1) (bs.length + 1), ?_, ?_, ?_⟩
      · rw [HRES.out]; rfl
      · rw [HRES.out]
        have := HOWN.out.keep hch (fun k hk e => by
          have e1 : gb = k := by simpa [Value.ownBlock] using hk
          omega)
        rw [← hbe] at this
        exact this
      · have := HB8.out.size
        exact Chg.base HB8.out hch this (fun i hi => by omega)
    · have h2' : bmay bs = false := by
        cases h' : bmay bs
        · rfl
        · exact absurd h' h2
      have hres : oneRes x bs = (z28, 100) := by unfold oneRes; rw [h1, h2']; rfl
      have HRES := Lib.hid hres
      clear hres h1 h2
      rw [h2']
      obtain ⟨z0, z1, z2, z3, z4, z5, z6, z7, z8, z9, z10, z11, z12, zl⟩ := acO_facts HZ.out
      have hf := fun j => blk_free HZ.out j
      go_wp2_with fail
      show bodyPost _ _ _ _ _ (putA w2 (w.heap.size + 1) z28 (.slice none 0 0))
      have hz2 := putA_blk (a := z28) (v := .slice none 0 0) HZ.out
      have hc2 := HB1.out.size
      have hch := putA_chg w2 (w.heap.size + 1) z28 (.slice none 0 0)
      refine bodyPost_ret (results_acc rfl _ _ (w.heap.size + 1) z28 (.slice none 0 0) rfl hz2) rfl ?_
      refine ⟨.slice none 0 0, ?_, ?_, ?_⟩
      · rw [HRES.out]; rfl
      · rw [HRES.out]; exact Own.nil _ _
      · exact Chg.base HB1.out hch (by omega) (fun i hi => by omega)
  · have h1' : imay x = false := by
      cases h' : imay x
      · rfl
      · exact absurd h' h1
    have hres : oneRes x bs = (z28, 100) := by unfold oneRes; rw [h1']; rfl
    have HRES := Lib.hid hres
    clear hres h1
    rw [h1']
    obtain ⟨z0, z1, z2, z3, z4, z5, z6, z7, z8, z9, z10, z11, z12, zl⟩ := acO_facts HZ.out
    have hf := fun j => blk_free HZ.out j
    go_wp2_with fail
    show bodyPost _ _ _ _ _ (putA w1 (w.heap.size + 1) z28 (.slice none 0 0))
    have hz2 := putA_blk (a := z28) (v := .slice none 0 0) HZ.out
    have hc2 := HB1.out.size
    have hch := putA_chg w1 (w.heap.size + 1) z28 (.slice none 0 0)
    refine bodyPost_ret (results_acc rfl _ _ (w.heap.size + 1) z28 (.slice none 0 0) rfl hz2) rfl ?_
    refine ⟨.slice none 0 0, ?_, ?_, ?_⟩
    · rw [HRES.out]; rfl
    · rw [HRES.out]; exact Own.nil _ _
    · exact Chg.base HB1.out hch (by omega) (fun i hi => by omega)
end Go.Proofs.Ytggaefklcpbfnaa
