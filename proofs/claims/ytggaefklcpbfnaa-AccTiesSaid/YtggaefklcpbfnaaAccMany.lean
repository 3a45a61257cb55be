/- AccMany returns true: as many items as may be, and more. No conditions. -/
import Derived.Test.YtggaefklcpbfnaaAccK
namespace Go.Proofs.Ytggaefklcpbfnaa
open Go.RowKit PAccs Go.Proofs.YtggaefklcpbfnaaW.PrintWords

set_option linter.unusedSimpArgs false
theorem ord_self (a : S26) : ord a a = 0 := by
  unfold ord
  rw [if_neg (Int.lt_irrefl _), if_neg (Int.lt_irrefl _), if_neg (Int.lt_irrefl _), if_neg (Int.lt_irrefl _)]
/-- So many like items. -/
def pm (m v : Int) : S28 := ⟨m, m * v, v, v, ⟨0, 1, 1, v⟩, ⟨0, 1, 1, v⟩, [m]⟩
theorem imay_pm {v : Int} (h1 : -999 ≤ v) (h2 : v ≤ 999) : imay ⟨0, 1, 1, v⟩ = true := by
  unfold imay
  rw [decide_eq_true_eq]
  simp only []
  omega
theorem one_pm {v : Int} (h1 : -999 ≤ v) (h2 : v ≤ 999) : oneRes ⟨0, 1, 1, v⟩ [] = (pm 1 v, 0) := by
  unfold oneRes
  rw [imay_pm h1 h2]
  show (one ⟨0, 1, 1, v⟩ [], (0 : Int)) = _
  unfold one pm
  rw [Int.one_mul]
  rfl
theorem wm_pm {v : Int} (h1 : -999 ≤ v) (h2 : v ≤ 999) : wm v = true := by
  unfold wm
  rw [decide_eq_true_eq]
  omega
theorem amay_pm {m v : Int} (h1 : -999 ≤ v) (h2 : v ≤ 999) (hm1 : 1 ≤ m) (hm2 : m ≤ 8192) : amay (pm m v) [] = true := by
  have hn : nok m = true := by
    unfold nok
    rw [decide_eq_true_eq]
    omega
  have hh : hmay [m] 0 m = true := by
    unfold hmay
    simp [hn]
  have hi : iok (pm m v) ⟨0, 1, 1, v⟩ = true := by
    unfold iok
    rw [imay_pm h1 h2]
    simp [pm]
  have he : emay (pm m v) = true := by
    unfold emay
    show (iok (pm m v) ⟨0, 1, 1, v⟩ && (iok (pm m v) ⟨0, 1, 1, v⟩ && (decide ((0 : Int) = 0) && decide (ord ⟨0, 1, 1, v⟩ ⟨0, 1, 1, v⟩ ≤ 0)))) = true
    rw [hi, ord_self]
    rfl
  unfold amay
  show (bmay [] && (decide (1 ≤ 0 + 1) && (hmay [m] 0 m && (decide (0 ≤ m) && (decide (m ≤ 8192) && (if m = 0 then bareB (pm m v) else wm v && (wm v && (decide (v ≤ v) && (emay (pm m v) && (decide (m * v ≤ m * v) && decide (m * v ≤ m * v))))))))))) = true
  rw [hh, wm_pm h1 h2, he, if_neg (by omega), decide_eq_true (show 0 ≤ m by omega), decide_eq_true hm2, decide_eq_true (Int.le_refl v), decide_eq_true (Int.le_refl (m * v))]
  rfl
theorem step_pm0 (m v : Int) (hm : 0 < m) : stepA (join0 []) (pm m v) = pm m v := by
  unfold stepA
  rw [if_pos (show 0 < (pm m v).f0 from hm)]
  unfold addA fst_ add3 add4 add5 add6 join0 pm hadd
  simp [ord_self]
theorem step_pm (m v : Int) (hm : 0 < m) : stepA (pm m v) (pm m v) = pm (2 * m) v := by
  have e1 : m + m = 2 * m := by omega
  have e2 : m * v + m * v = 2 * m * v := by rw [← Int.add_mul, e1]
  have hz : ¬ m = 0 := by omega
  unfold stepA
  rw [if_pos (show 0 < (pm m v).f0 from hm)]
  unfold addA fst_ add3 add4 add5 add6 pm hadd
  simp [ord_self, hz, e1, e2]
theorem join_pm {m v : Int} (h1 : -999 ≤ v) (h2 : v ≤ 999) (hm1 : 1 ≤ m) (hm2 : m ≤ 8192) : joinRes [] [pm m v, pm m v] = if 8192 < 2 * m then (z28, 101) else (pm (2 * m) v, 0) := by
  have ha := amay_pm h1 h2 hm1 hm2
  have hall : allm [] (-1) [pm m v, pm m v] = true := by
    unfold allm
    rw [if_pos ha, if_pos (show 0 < (pm m v).f0 from by show 0 < m; omega), if_neg (by omega)]
    unfold allm
    rw [if_pos ha, if_pos (show 0 < (pm m v).f0 from by show 0 < m; omega), if_neg (by simp)]
    rfl
  have hc : cnt [pm m v, pm m v] = 2 * m := by
    show m + (m + 0) = 2 * m
    omega
  unfold joinRes
  rw [if_pos hall, hc]
  have hj : joinA [] [pm m v, pm m v] = pm (2 * m) v := by
    show stepA (stepA (join0 []) (pm m v)) (pm m v) = _
    rw [step_pm0 m v (by omega), step_pm m v (by omega)]
  rw [hj]

set_option maxHeartbeats 8000000 in
set_option maxRecDepth 100000 in
theorem many_any (t u : Int) (w : World) : Calls Try.prog 14 #[.int .i64 t, .int .i64 u] w fun e w' => e = .returned (.bool true) ∧ Below w.heap.size w w' := by
  go_enter Try.func14, Try.ntmps14
  go_wp2_with fail
  refine (awake_any _).mono ?_
  rintro e w1 ⟨rfl, hb⟩
  have HW := Lib.hid hb
  clear hb
  have hv1 : -999 ≤ u.tmod 1000 := by
    have := Int.lt_tmod_of_pos u (show (0 : Int) < 1000 by decide)
    omega
  have hv2 : u.tmod 1000 ≤ 999 := by
    have := Int.tmod_lt_of_pos u (show (0 : Int) < 1000 by decide)
    omega
  go_wp2_with fail
  generalize u.tmod 1000 = v at *
  generalize wrap64 ((IntKind.u64.wrap t).tmod 16) = K at *
  generalize (IntKind.u64.wrap t).tmod 16 = K2 at *
  refine (item_any 0 1 1 v _).mono ?_
  rintro e w2 ⟨rfl, hb⟩
  replace HW := Lib.hid (HW.out.trans (hb.mono HW.out.size))
  clear hb
  go_wp2_with fail
  refine (one_any ⟨0, 1, 1, v⟩ [] none 0 _ (rdI_nil _) (by decide)).mono ?_
  rintro e w3 ⟨va, rfl, how, hb⟩
  replace HW := Lib.hid (HW.out.trans (hb.mono HW.out.size))
  rw [one_pm hv1 hv2] at how ⊢
  obtain ⟨Aa, ca, rfl, hl, hr⟩ := how.reads
  clear how hb
  have VA := Lib.hid (AVar.new (w := w3) (a := pm 1 v) hl hr)
  have hb : Below w3.heap.size w3 (w3.alloc (acO (pm 1 v) (.slice Aa (pm 1 v).f6.length ca))) := (Below.refl _ _).alloc (Nat.le_refl _) _
  have HAB := Lib.hid HW.out.size
  replace HW := Lib.hid (HW.out.trans (hb.mono HW.out.size))
  clear hl hr hb
  simp only [acV, pm, List.length_cons, List.length_nil, Nat.zero_add, Int.one_mul]
  go_wp2_with fail
  show Calls _ _ _ (w3.alloc (acO ⟨1, v, v, v, ⟨0, 1, 1, v⟩, ⟨0, 1, 1, v⟩, [1]⟩ (.slice Aa 1 ca))) _
  have VB : Hid (AVar (w3.alloc (acO ⟨1, v, v, v, ⟨0, 1, 1, v⟩, ⟨0, 1, 1, v⟩, [1]⟩ (.slice Aa 1 ca))) w3.heap.size (pm 1 v) Aa ca) := by
    have h := VA.out
    have e : pm 1 v = ⟨1, v, v, v, ⟨0, 1, 1, v⟩, ⟨0, 1, 1, v⟩, [1]⟩ := by unfold pm; rw [Int.one_mul]
    rw [e] at h ⊢
    exact Lib.hid h
  have HW2 : Hid (Below w.heap.size w (w3.alloc (acO ⟨1, v, v, v, ⟨0, 1, 1, v⟩, ⟨0, 1, 1, v⟩, [1]⟩ (.slice Aa 1 ca)))) := by
    have h := HW.out
    have e : pm 1 v = ⟨1, v, v, v, ⟨0, 1, 1, v⟩, ⟨0, 1, 1, v⟩, [1]⟩ := by unfold pm; rw [Int.one_mul]
    rw [e] at h
    exact Lib.hid h
  clear VA HW
  generalize w3.alloc (acO ⟨1, v, v, v, ⟨0, 1, 1, v⟩, ⟨0, 1, 1, v⟩, [1]⟩ (.slice Aa 1 ca)) = w4 at *
  generalize w3.heap.size = ab at *
  refine (num_any _ _).mono ?_
  rintro e w' ⟨rfl, rfl⟩
  go_wp2_with fail
  go_loopw [9, 10] (fun s i wr => ∃ (k : Nat) (m : Int) (Aa : Option Addr) (ca : Nat), i = .int .i64 k ∧ s = .int .i64 m ∧ 1 ≤ m ∧ m ≤ 8192 ∧ (k : Int) + 1 ≤ m ∧ Below w.heap.size w wr ∧ AVar wr ab (pm m v) Aa ca) (fun _ i _ => 8192 - (intOf i).toNat)
  case atStart => exact ⟨0, 1, Aa, ca, rfl, rfl, by omega, by omega, by omega, HW2.out, VB.out⟩
  case round =>
    clear HW2 VB
    obtain ⟨k, m, Aa, ca, rfl, rfl, hm1, hm2, hkm, hb, hva⟩ := hrel
    have HW := Lib.hid hb
    have VA := Lib.hid hva
    clear hb hva
    by_cases hk : (k : Int) < K
    · have hd : decide ((k : Int) < K) = true := decide_eq_true hk
      obtain ⟨a0, a1, a2, a3, a4, a5, a6, a7, a8, a9, a10, a11, a12, al⟩ := acO_facts VA.out.1
      simp only [acO, pm, List.length_cons, List.length_nil, Nat.zero_add] at a0 a1 a2 a3 a4 a5 a6 a7 a8 a9 a10 a11 a12 al
      clear hk
      go_wp2_with fail
      clear a0 a1 a2 a3 a4 a5 a6 a7 a8 a9 a10 a11 a12 al
      have hp := heap_alloc_new wr (.cells #[.int .i64 m, .int .i64 (m * v), .int .i64 v, .int .i64 v, .int .i64 0, .int .i64 1, .int .i64 1, .int .i64 v, .int .i64 0, .int .i64 1, .int .i64 1, .int .i64 v, .slice Aa 1 ca, .int .i64 m, .int .i64 (m * v), .int .i64 v, .int .i64 v, .int .i64 0, .int .i64 1, .int .i64 1, .int .i64 v, .int .i64 0, .int .i64 1, .int .i64 1, .int .i64 v, .slice Aa 1 ca] 28)
      have hb : Below wr.heap.size wr (wr.alloc (.cells #[.int .i64 m, .int .i64 (m * v), .int .i64 v, .int .i64 v, .int .i64 0, .int .i64 1, .int .i64 1, .int .i64 v, .int .i64 0, .int .i64 1, .int .i64 1, .int .i64 v, .slice Aa 1 ca, .int .i64 m, .int .i64 (m * v), .int .i64 v, .int .i64 v, .int .i64 0, .int .i64 1, .int .i64 1, .int .i64 v, .int .i64 0, .int .i64 1, .int .i64 1, .int .i64 v, .slice Aa 1 ca] 28)) := (Below.refl _ _).alloc (Nat.le_refl _) _
      replace VA := Lib.hid (VA.out.below hb)
      replace HW := Lib.hid (HW.out.trans (hb.mono HW.out.size))
      clear hb
      generalize wr.alloc (.cells #[.int .i64 m, .int .i64 (m * v), .int .i64 v, .int .i64 v, .int .i64 0, .int .i64 1, .int .i64 1, .int .i64 v, .int .i64 0, .int .i64 1, .int .i64 1, .int .i64 v, .slice Aa 1 ca, .int .i64 m, .int .i64 (m * v), .int .i64 v, .int .i64 v, .int .i64 0, .int .i64 1, .int .i64 1, .int .i64 v, .int .i64 0, .int .i64 1, .int .i64 1, .int .i64 v, .slice Aa 1 ca] 28) = wp at *
      generalize wr.heap.size = pb at *
      refine (join_any [] [pm m v, pm m v] none 0 (some ⟨pb, 0, none⟩) 2 _ (rdI_nil _) (by decide) (rdA_two (x := pm m v) (y := pm m v) hp VA.out.2.1 VA.out.2.2 VA.out.2.1 VA.out.2.2) (by simp)).mono ?_
      rintro e wj ⟨vj, rfl, how, hb⟩
      clear hp
      have HLT := Lib.hid (blk_lt VA.out.1)
      replace VA := Lib.hid (VA.out.below hb)
      have HJ := Lib.hid (HW.out.trans (hb.mono HW.out.size))
      clear hb HW
      rw [join_pm hv1 hv2 hm1 hm2] at how ⊢
      by_cases h8 : 8192 < 2 * m
      · rw [if_pos h8] at how ⊢
        have hd8 : decide (8192 < 2 * m) = true := decide_eq_true h8
        obtain ⟨Ab, cb, rfl, hl, hr⟩ := how.reads
        have VB := Lib.hid (AVar.new (w := wj) (a := z28) hl hr)
        have hb : Below wj.heap.size wj (wj.alloc (acO z28 (.slice Ab z28.f6.length cb))) := (Below.refl _ _).alloc (Nat.le_refl _) _
        have HW := Lib.hid (HJ.out.trans (hb.mono HJ.out.size))
        clear hl hr hb how
        obtain ⟨b0, b1, b2, b3, b4, b5, b6, b7, b8, b9, b10, b11, b12, bl⟩ := acO_facts VB.out.1
        simp only [acO, z28, z26, List.length_nil] at b0 b1 b2 b3 b4 b5 b6 b7 b8 b9 b10 b11 b12 bl
        simp only [acV, z28, z26, List.length_nil]
        go_wp2_with fail
        refine (num_any _ _).mono ?_
        rintro e w' ⟨rfl, rfl⟩
        go_wp2_with fail
        go_ret
        exact ⟨rfl, HW.out⟩
      · rw [if_neg h8] at how ⊢
        have hd8 : decide (8192 < 2 * m) = false := decide_eq_false h8
        have hm3 : 2 * m ≤ 8192 := by omega
        obtain ⟨Ab, cb, rfl, hl, hr⟩ := how.reads
        have VB := Lib.hid (AVar.new (w := wj) (a := pm (2 * m) v) hl hr)
        have hb : Below wj.heap.size wj (wj.alloc (acO (pm (2 * m) v) (.slice Ab (pm (2 * m) v).f6.length cb))) := (Below.refl _ _).alloc (Nat.le_refl _) _
        have HW := Lib.hid (HJ.out.trans (hb.mono HJ.out.size))
        replace VA := Lib.hid (VA.out.below hb)
        have HOW := Lib.hid (how.below hb)
        clear hl hr hb how h8
        obtain ⟨b0, b1, b2, b3, b4, b5, b6, b7, b8, b9, b10, b11, b12, bl⟩ := acO_facts VB.out.1
        simp only [acO, pm, List.length_cons, List.length_nil, Nat.zero_add] at b0 b1 b2 b3 b4 b5 b6 b7 b8 b9 b10 b11 b12 bl
        simp only [acV, pm, List.length_cons, List.length_nil, Nat.zero_add]
        obtain ⟨q1, q2⟩ := mul_bound (c := 2 * m) (m := v) (by omega) hm3 (by omega) (by omega)
        have q3 : wrap64 (2 * m * v) = 2 * m * v := by unfold wrap64; omega
        have q4 : IntKind.i64.wrap (2 * m * v) = 2 * m * v := by rw [IntKind.wrap_i64]; omega
        go_wp2_with fail
        refine (num_any _ _).mono ?_
        rintro e w' ⟨rfl, rfl⟩
        go_wp2_with fail
        show Calls _ _ _ (wj.alloc (acO (pm (2 * m) v) (.slice Ab (pm (2 * m) v).f6.length cb))) _
        clear b0 b1 b2 b3 b4 b5 b6 b7 b8 b9 b10 b11 b12 bl
        generalize wj.alloc (acO (pm (2 * m) v) (.slice Ab (pm (2 * m) v).f6.length cb)) = wn at *
        generalize wj.heap.size = bb at *
        have hm := may_any (pm (2 * m) v) [] Ab cb none 0 _ VB.out.2.2 (rdI_nil _) (by decide)
        rw [amay_pm hv1 hv2 (by omega) hm3] at hm
        refine hm.mono ?_
        rintro e wm ⟨rfl, hb⟩
        have HW3 := Lib.hid (HW.out.trans (hb.mono HW.out.size))
        have VA3 := Lib.hid (VA.out.below hb)
        have VB3 := Lib.hid (VB.out.below hb)
        have HOW3 := Lib.hid (HOW.out.below hb)
        clear hb HW VA VB hm HOW
        obtain ⟨b0, b1, b2, b3, b4, b5, b6, b7, b8, b9, b10, b11, b12, bl⟩ := acO_facts VB3.out.1
        obtain ⟨a0, a1, a2, a3, a4, a5, a6, a7, a8, a9, a10, a11, a12, al⟩ := acO_facts VA3.out.1
        simp only [acO, pm, List.length_cons, List.length_nil, Nat.zero_add] at b0 b1 b2 b3 b4 b5 b6 b7 b8 b9 b10 b11 b12 bl a0 a1 a2 a3 a4 a5 a6 a7 a8 a9 a10 a11 a12 al
        have hf := fun j => blk_free VA3.out.1 j
        go_wp2_with fail
        have hch := putA_chg wm ab (pm (2 * m) v) (.slice Ab 1 cb)
        have hab := HAB.out
        have hbl := Chg.base HW3.out hch HW3.out.size (fun i hi => by omega)
        refine ⟨⟨k + 1, 2 * m, Ab, cb, by go_num, rfl, by omega, by omega, by omega, hbl, putA_blk (a := pm (2 * m) v) (v := .slice Ab 1 cb) VA3.out.1, VB3.out.2.1, ?_⟩, by simp [intOf]; omega⟩
        have hown := HOW3.out.keep hch (fun k hk e => by
          have h1 := own_base HOW3.out k hk
          have h2 := HLT.out
          omega)
        obtain ⟨A2, c2, e2, _, hr2⟩ := hown.reads
        injection e2 with e3 _ _
        rw [← e3] at hr2
        exact hr2
    · have hd : decide ((k : Int) < K) = false := decide_eq_false hk
      go_wp2_with fail
      go_ret
      exact ⟨rfl, HW.out⟩
theorem many_walk (a0 a1 : Int) (w : World) (_ : (Lit.int .i64 a0).wf = true) (_ : (Lit.int .i64 a1).wf = true) :
    Calls Try.prog 14 #[.int .i64 a0, .int .i64 a1] w fun e w' => e = .returned (.bool true) ∧ Below w.heap.size w w' := many_any a0 a1 w
end Go.Proofs.Ytggaefklcpbfnaa
