/- HeapForms returns true: sizes that are none, items that are none, more than may be. No conditions. -/
import Derived.Test.YtcleljmbdiddeaaHeapLoc
namespace Go.Proofs.Ytcleljmbdiddeaa
open Go.RowKit HP PHeaps

theorem and1023 (x : Int) : 0 ≤ bits .and .i64 x 1023 ∧ bits .and .i64 x 1023 ≤ 1023 := and_bound x 1023 (by decide)

/-- The items that the law pushes. -/
def mk (m : Nat) : List It := (List.range m).map fun i : Nat => ⟨0, (i : Int), (i : Int) + 1, 0⟩
theorem mk_length (m : Nat) : (mk m).length = m := by simp [mk]
theorem mk_succ (m : Nat) : mk (m + 1) = mk m ++ [⟨0, m, m + 1, 0⟩] := by simp [mk, List.range_succ]
theorem mk_may {m : Nat} (h : m ≤ 100) : bad (mk m) = false := by
  unfold bad mk
  rw [Bool.not_eq_false', List.all_eq_true]
  intro x hx
  obtain ⟨i, hi, rfl⟩ := List.mem_map.1 hx
  have := List.mem_range.1 hi
  unfold may
  rw [decide_eq_true_iff]
  simp only []
  omega

theorem forms_push {k m : Nat} (hm : m ≤ 100) : ∃ (word : Int) (left : Nat) (zs : List It), pushRes k [] (mk m) = (word, zs) ∧ zs.length = left ∧ ((k < m ∧ word = 1501 ∧ left = 0) ∨ (m ≤ k ∧ word = 0 ∧ left = m)) := by
  unfold pushRes
  rw [if_neg (by rw [mk_may hm]; decide)]
  by_cases h : k < m
  · exact ⟨1501, 0, [], by rw [if_pos (by rw [mk_length]; simp; omega)], rfl, .inl ⟨h, rfl, rfl⟩⟩
  · refine ⟨0, m, pushAll [] (mk m), by rw [if_neg (by rw [mk_length]; simp; omega)], ?_, .inr ⟨by omega, rfl, rfl⟩⟩
    rw [pushAll_length _ heap_nil, mk_length]
    simp

theorem bad_set {ys : List It} {i : Nat} (h : i < ys.length) (y : It) {q : Int} (hq : q ≤ 0) : bad (ys.set i (setq y q)) = true := by
  unfold bad
  rw [Bool.not_eq_true', List.all_eq_false]
  refine ⟨setq y q, List.mem_iff_getElem.2 ⟨i, by rw [List.length_set]; exact h, by simp⟩, ?_⟩
  unfold may setq
  rw [decide_eq_true_iff]
  simp only []
  omega
theorem pushRes_bad {most : Int} {xs ys : List It} (h : bad ys = true) : pushRes most xs ys = (1500, xs) := by
  unfold pushRes
  rw [if_pos h]
theorem pushRes_nil {most : Int} {xs : List It} (h : (xs.length : Int) ≤ most) : pushRes most xs [] = (0, xs) := by
  unfold pushRes
  rw [if_neg (by decide), if_neg (by simp; omega)]
  rfl

theorem pick_of (x : Int) (m : Nat) (h0 : 0 < m) (hm : m ≤ 1000) : ∃ k : Nat, wrap64 (1 + wrap64 ((IntKind.u64.wrap x).tmod m)) = k ∧ 1 ≤ k ∧ k ≤ m := by
  have hx : 0 ≤ IntKind.u64.wrap x := by rw [show IntKind.u64.wrap x = x % 18446744073709551616 from rfl]; omega
  have e := Int.tmod_eq_emod_of_nonneg (b := (m : Int)) hx
  rw [e]
  have h1 := Int.emod_nonneg (IntKind.u64.wrap x) (b := (m : Int)) (by omega)
  have h2 := Int.emod_lt_of_pos (IntKind.u64.wrap x) (b := (m : Int)) (by omega)
  generalize IntKind.u64.wrap x % (m : Int) = y at *
  refine ⟨(1 + y).toNat, ?_, by omega, by omega⟩
  unfold wrap64
  omega

set_option maxHeartbeats 4000000 in
set_option maxRecDepth 100000 in
theorem forms_any (a0 a1 a2 : Int) (w : World) :
    Calls Try.prog 6 #[.int .i64 a0, .int .i64 a1, .int .i64 a2] w fun e w' => e = .returned (.bool true) ∧ Below w.heap.size w w' := by
  go_enter Try.func6, Try.ntmps6
  obtain ⟨m0, m1⟩ := and1023 a2
  go_wp2_with fail
  refine (awake_any _).mono ?_
  rintro e w0 ⟨rfl, hb0⟩
  go_wp2_with fail
  generalize hA1 : bits .and .i64 a2 1023 = d at *
  clear hA1
  refine (new_no (1 - (1 + d)) _ (.inl (by omega))).mono ?_
  rintro e w' ⟨rfl, rfl⟩
  go_wp2_with fail
  refine (new_no (8192 + (1 + d)) _ (.inr (by omega))).mono ?_
  rintro e w' ⟨rfl, rfl⟩
  go_wp2_with fail
  obtain ⟨k, hk, hk1, hk2⟩ := pick_of a0 20 (by decide) (by decide)
  rw [show ((20 : Nat) : Int) = 20 from rfl] at hk
  rw [hk]
  refine (new_ok k _ (by omega) (by omega)).mono ?_
  rintro e w1 ⟨rfl, rfl⟩
  have h0 := new_hs (w0 := w) (w := w') k hb0
  generalize w'.alloc (.cells #[.int .i64 k, .slice none 0 0] 54) = w1 at *
  clear hb0
  generalize w'.heap.size = g at *
  generalize hv : Value.slice none 0 0 = v at h0
  have H := Lib.hid h0
  clear h0 hv hk
  go_wp2_with fail
  refine (num_any _ _).mono ?_
  rintro e w' ⟨rfl, rfl⟩
  go_wp2_with fail
  obtain ⟨m, hm, hm1, hm2⟩ := pick_of a1 30 (by decide) (by decide)
  rw [show ((30 : Nat) : Int) = 30 from rfl] at hm
  rw [hm]
  clear hm
  have HD := Lib.hid (And.intro m0 m1)
  clear m0 m1
  go_loopw [16, 17] (fun z i wr => ∃ j : Nat, i = .int .i64 j ∧ j ≤ m ∧ HS w wr g v k [] ∧ Loc w wr g v z (mk j)) (fun _ i _ => m - (intOf i).toNat)
  case atStart => exact ⟨0, rfl, by omega, H.out, Loc.nil⟩
  case round =>
    obtain ⟨j, rfl, hj, hs, hloc⟩ := hrel
    have H1 := Lib.hid hs
    have L1 := Lib.hid hloc
    clear hs
    obtain ⟨A1, c1, rfl⟩ := hloc.any
    clear hloc
    rw [mk_length] at *
    by_cases hlt : j < m
    · go_wp2_with fail
      refine (item_any _ _ _ _ _).mono ?_
      rintro e wa ⟨rfl, hb⟩
      have H2 := Lib.hid (H1.out.quiet hb)
      have L2 := Lib.hid (L1.out.quiet hb)
      clear H1 L1 hb
      go_wp2_with (at_builtin; refine at_append _ _ _ rfl ?_)
      have hbl := heap_alloc_new wa (itObj ⟨0, j, j + 1, 0⟩)
      have hba := (Below.refl wa.heap.size wa).alloc (Nat.le_refl _) (itObj ⟨0, j, j + 1, 0⟩)
      refine Loc.append (.tmp 67) (.tmp 72) rfl rfl (H2.out.quiet hba) (L2.out.quiet hba) rfl wa.heap.size [⟨0, j, j + 1, 0⟩] 1 [] (0, 0) rfl hbl (by rw [mk_length]; simp; omega) ?_
      rintro v1 w2 h3 l3 -
      have H3 := Lib.hid h3
      have L3 := Lib.hid l3
      clear h3 l3 hbl hba H2 L2
      simp only [Act.put, List.setIfInBounds_toArray, List.set_cons_succ, List.set_cons_zero]
      go_wp2_with fail
      exact ⟨⟨j + 1, by go_num, by omega, H3.out, by rw [mk_succ]; exact L3.out⟩, by simp [intOf]; omega⟩
    · obtain rfl : j = m := by omega
      have hL : Loc w wr g v (.slice A1 (mk j).length c1) (mk j) := by rw [mk_length]; exact L1.out
      obtain ⟨b, cap, hf⟩ := hL.form (by rw [mk_length]; omega)
      injection hf with hf1 _ hf2
      subst hf1 hf2
      have hp := push_hs (mk j) (some ⟨b, 0, none⟩) c1 H1.out hL.rd hL.far (by omega) (by simp) (by rw [mk_length]; omega)
      rw [mk_length] at hp
      obtain ⟨word, left, zs, hres, hzl, hcase⟩ := forms_push (k := k) (m := j) (by omega)
      rw [hres] at hp
      have HP := Lib.hid hp
      clear hp hL hres
      go_wp2_with fail
      refine HP.out.mono ?_
      rintro e wb ⟨rfl, v2, h3, hst⟩
      have H3 := Lib.hid h3
      have L3 := Lib.hid (L1.out.step hst)
      clear h3 hst HP H1 L1 H
      simp only []
      have hzk : zs.length ≤ k := by omega
      have HK := Lib.hid hzk
      have HZ := Lib.hid hzl
      clear hzk hzl
      have hj1 : j - 1 < (mk j).length := by rw [mk_length]; omega
      have HJ := Lib.hid hj1
      clear hj1
      obtain ⟨m0, m1⟩ := HD.out
      rcases hcase with ⟨hkm, rfl, hle⟩ | ⟨hkm, rfl, hle⟩
      all_goals
        rw [hle] at HZ
        clear hle
        go_wp2_with fail
        refine (num_any _ _).mono ?_
        rintro e w' ⟨rfl, rfl⟩
        go_wp2_with fail
        refine (len_hs H3.out).mono ?_
        rintro e w' ⟨rfl, rfl⟩
        rw [HZ.out]
        have hrow := L3.out.row
        rw [mk_length] at hrow
        obtain ⟨-, -, c2, -⟩ := row_get hrow HJ.out
        obtain ⟨cur, hcur⟩ := row_blk hrow
        have hfz := blk_free hcur
        have hbl := blk_lt hcur
        clear hcur
        go_wp2_with fail
        have h4 := H3.out.cell L3.out ((j - 1) * 4 + 2) (.int .i64 (1 - (1 + d)))
        have l4 := L3.out.setq (mk_length j).symm HJ.out (1 - (1 + d))
        have hbad := pushRes_bad (most := k) (xs := zs) (bad_set HJ.out (at_ (mk j) (j - 1)) (q := 1 - (1 + d)) (by omega))
        have hyl : ((mk j).set (j - 1) (setq (at_ (mk j) (j - 1)) (1 - (1 + d)))).length = j := by rw [List.length_set, mk_length]
        generalize (mk j).set (j - 1) (setq (at_ (mk j) (j - 1)) (1 - (1 + d))) = ys4 at *
        have hL := l4.len hyl
        have hp := push_hs ys4 (some ⟨b, 0, none⟩) c1 h4 hL.rd hL.far (by omega) (by have := HK.out; omega) (by omega)
        rw [hyl, hbad] at hp
        refine hp.mono ?_
        rintro e wc ⟨rfl, v3, h5, -⟩
        have H5 := Lib.hid h5
        clear hp hL h4 l4 hbad hyl h5 H3 L3 hrow c2 hfz hbl
        go_wp2_with fail
        have hp := push_hs [] none 0 H5.out (fun h => absurd h (by simp)) (fun b o e => by cases e) (by omega) (by have := HK.out; omega) (by simp)
        rw [pushRes_nil (by have := HK.out; omega)] at hp
        refine hp.mono ?_
        rintro e wd ⟨rfl, v4, h6, -⟩
        have H6 := Lib.hid h6
        clear hp h6 H5
        go_wp2_with fail
        refine (num_any _ _).mono ?_
        rintro e w' ⟨rfl, rfl⟩
        go_wp2_with fail
        refine (num_any _ _).mono ?_
        rintro e w' ⟨rfl, rfl⟩
        go_wp2_with fail
        refine (num_any _ _).mono ?_
        rintro e w' ⟨rfl, rfl⟩
        go_wp2_with fail
        refine (len_hs H6.out).mono ?_
        rintro e w' ⟨rfl, rfl⟩
        rw [HZ.out]
        go_wp2_with fail
        refine (num_any _ _).mono ?_
        rintro e w' ⟨rfl, rfl⟩
        go_wp2_with fail
        go_ret
        exact ⟨rfl, H6.out.bel⟩
theorem forms_walk (a0 a1 a2 : Int) (w : World) (_ : (Lit.int .i64 a0).wf = true) (_ : (Lit.int .i64 a1).wf = true) (_ : (Lit.int .i64 a2).wf = true) :
    Calls Try.prog 6 #[.int .i64 a0, .int .i64 a1, .int .i64 a2] w fun e w' => e = .returned (.bool true) ∧ Below w.heap.size w w' := forms_any a0 a1 a2 w
end Go.Proofs.Ytcleljmbdiddeaa
