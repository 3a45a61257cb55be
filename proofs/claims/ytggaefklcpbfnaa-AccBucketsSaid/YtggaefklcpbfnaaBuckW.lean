/- AccBuckets returns true: each value falls into the bucket whose bound it is not above. No conditions. -/
import Derived.Test.YtggaefklcpbfnaaBuckP
import Derived.Test.YtggaefklcpbfnaaAccL
import Derived.Test.YtggaefklcpbfnaaAccFormsP
import Derived.Test.YtggaefklcpbfnaaRowI
namespace Go.Proofs.Ytggaefklcpbfnaa.My
open Go.RowKit Pa Go.Proofs.YtggaefklcpbfnaaW.PrintWords Go.Proofs.YtggaefklcpbfnaaW.PrintMore
attribute [local go_sem high] eqA26
set_option linter.unusedSimpArgs false

theorem bv_b (n : Int) : -500 ≤ bv n ∧ bv n ≤ 523 := by
  have := and_bound n 1023 (by decide)
  have e : bits .and .i64 n ((1023 : Nat) : Int) = bits .and .i64 n 1023 := rfl
  rw [e] at this
  unfold bv
  omega
def wo (h0 h1 h2 h3 h4 : Int) : Obj := .cells #[.int .i64 h0, .int .i64 h1, .int .i64 h2, .int .i64 h3, .int .i64 h4] 66
def bo : Obj := .cells #[.int .i64 (-50), .int .i64 0, .int .i64 20, .int .i64 300] 3
theorem wo_facts {w : World} {g : Nat} {h0 h1 h2 h3 h4 : Int} (h : w.heap[g]? = some (wo h0 h1 h2 h3 h4)) : w.cell? ⟨g, 0, none⟩ = some (.int .i64 h0) ∧ w.cell? ⟨g, 1, none⟩ = some (.int .i64 h1) ∧ w.cell? ⟨g, 2, none⟩ = some (.int .i64 h2) ∧ w.cell? ⟨g, 3, none⟩ = some (.int .i64 h3) ∧ w.cell? ⟨g, 4, none⟩ = some (.int .i64 h4) ∧ g < w.heap.size :=
  ⟨(blk_cell h 0).trans rfl, (blk_cell h 1).trans rfl, (blk_cell h 2).trans rfl, (blk_cell h 3).trans rfl, (blk_cell h 4).trans rfl, blk_lt h⟩
theorem row_not {w : World} {base g n s : Nat} {e t : TypeId} {v : Value} {xs : List Value} {q : Array Value} {fr : Nat × Nat} (ho : w.ownsRow base e s v n xs) (hg : w.heap[g]? = some (.cells q t fr)) (hne : e ≠ t) : ∀ k, v.ownBlock = some k → ¬ k = g := by
  intro k hk e0
  subst e0
  rcases ho.2 with ⟨e, _⟩ | ⟨b, cap, cur, e, _, hh, _⟩
  · rw [e] at hk
    cases hk
  · rw [e] at hk
    have e2 : some b = some k := hk
    injection e2 with e2
    rw [e2, hg] at hh
    injection hh with hh
    injection hh with _ ht
    exact hne ht.symm
theorem RowA.set {w w1 : World} {v : Value} {xs : List S28} {cs : List Value} {g : Nat} {q : Array Value} {fr : Nat × Nat} (h : RowA w v xs cs) (hg : w.heap[g]? = some (.cells q 66 fr)) (hc : Chg (fun k => k = g) w w1) : RowA w1 v xs cs :=
  ⟨row_keep h.own hc (row_not h.own hg (by decide)), fun i hi => by
    obtain ⟨u, h1, h2⟩ := h.el i hi
    exact ⟨u, h1.keep hc (row_not h1 hg (by decide)), h2⟩⟩
theorem ints_yes (l : List Int) (A B : Option Addr) (c d : Nat) (w : World) (hA : RdI w A l) (hc : l.length ≤ c) (hB : RdI w B l) (hd : l.length ≤ d) (hl : l.length ≤ 4398046511104) :
    Calls Try.prog 39 #[.slice A l.length c, .slice B l.length d] w fun e w' => e = .returned (.bool true) ∧ Below w.heap.size w w' :=
  (bournelaw0_SameInts.calls (l.length + 1) A c l B d l true w hA hc hB hd (by
    unfold bournelaw0_SameInts.f
    have h := same_loop l hl l.length 0 (l.length + 1) (by omega) (by omega)
    simp only [Int.natCast_zero] at h
    simp [h])).mono fun e w' h => ⟨h.1, h.2.below⟩
theorem kB_cases (v : Int) : (300 < v ∧ kB v = 4) ∨ (¬ 300 < v ∧ 20 < v ∧ kB v = 3) ∨ (¬ 300 < v ∧ ¬ 20 < v ∧ 0 < v ∧ kB v = 2) ∨ (¬ 300 < v ∧ ¬ 20 < v ∧ ¬ 0 < v ∧ -50 < v ∧ kB v = 1) ∨ (¬ 300 < v ∧ ¬ 20 < v ∧ ¬ 0 < v ∧ ¬ -50 < v ∧ kB v = 0) := by
  unfold kB
  by_cases h4 : 300 < v
  · exact .inl ⟨h4, if_pos h4⟩
  · by_cases h3 : 20 < v
    · exact .inr (.inl ⟨h4, h3, by rw [if_neg h4, if_pos h3]⟩)
    · by_cases h2 : 0 < v
      · exact .inr (.inr (.inl ⟨h4, h3, h2, by rw [if_neg h4, if_neg h3, if_pos h2]⟩))
      · by_cases h1 : -50 < v
        · exact .inr (.inr (.inr (.inl ⟨h4, h3, h2, h1, by rw [if_neg h4, if_neg h3, if_neg h2, if_pos h1]⟩)))
        · exact .inr (.inr (.inr (.inr ⟨h4, h3, h2, h1, by rw [if_neg h4, if_neg h3, if_neg h2, if_neg h1]⟩)))
/-- What stands as the row is counted. -/
structure Cnt (w w1 : World) (v : Value) (xs : List S28) (cs : List Value) (gb gw : Nat) (h0 h1 h2 h3 h4 : Int) : Prop where
  bel : Below w.heap.size w w1
  row : RowA w1 v xs cs
  bs : w1.heap[gb]? = some bo
  wt : w1.heap[gw]? = some (wo h0 h1 h2 h3 h4)
  ne : gb ≠ gw
  new : w.heap.size ≤ gw
theorem Cnt.below {w w1 w2 : World} {v : Value} {xs : List S28} {cs : List Value} {gb gw : Nat} {h0 h1 h2 h3 h4 : Int} (h : Cnt w w1 v xs cs gb gw h0 h1 h2 h3 h4) (hb : Below w1.heap.size w1 w2) : Cnt w w2 v xs cs gb gw h0 h1 h2 h3 h4 :=
  ⟨h.bel.trans (hb.mono h.bel.size), h.row.below hb, blk_below h.bs hb, blk_below h.wt hb, h.ne, h.new⟩
theorem Cnt.set {w w1 : World} {v : Value} {xs : List S28} {cs : List Value} {gb gw : Nat} {h0 h1 h2 h3 h4 k0 k1 k2 k3 k4 : Int} (h : Cnt w w1 v xs cs gb gw h0 h1 h2 h3 h4) (j : Nat) (u : Int)
    (he : (#[.int .i64 h0, .int .i64 h1, .int .i64 h2, .int .i64 h3, .int .i64 h4] : Array Value).setIfInBounds j (.int .i64 u) = #[.int .i64 k0, .int .i64 k1, .int .i64 k2, .int .i64 k3, .int .i64 k4]) : Cnt w (w1.setCell ⟨gw, j, none⟩ (.int .i64 u)) v xs cs gb gw k0 k1 k2 k3 k4 := by
  have hc : Chg (fun k => k = gw) w1 (w1.setCell ⟨gw, j, none⟩ (.int .i64 u)) := Chg.setCell (S := fun k => k = gw) (Chg.refl _ _) (.inl rfl) _
  refine ⟨Chg.base h.bel hc h.bel.size (fun i hi => by rw [hi]; exact h.new), h.row.set h.wt hc, blk_far h.bs (p := ⟨gw, j, none⟩) h.ne _, ?_, h.ne, h.new⟩
  rw [blk_set h.wt, he]
  rfl
theorem Cnt.grown {w w1 w2 : World} {v v1 : Value} {xs ys : List S28} {cs ds : List Value} {gb gw : Nat} {h0 h1 h2 h3 h4 : Int} (h : Cnt w w1 v xs cs gb gw h0 h1 h2 h3 h4) (hx : ∀ b, v.ownBlock = some b → w.heap.size ≤ b) (hg : w1.grownBy w2 v.ownBlock) (hr : RowA w2 v1 ys ds) : Cnt w w2 v1 ys ds gb gw h0 h1 h2 h3 h4 :=
  have hc : Chg (fun k => some k = v.ownBlock) w1 w2 := (Chg.refl _ w1).grown hg (fun k hk => .inl hk.symm)
  ⟨h.bel.grown hg h.bel.size hx, hr, hc.obj h.bs (fun e => row_not h.row.own h.bs (by decide) gb e.symm rfl), hc.obj h.wt (fun e => row_not h.row.own h.wt (by decide) gw e.symm rfl), h.ne, h.new⟩
set_option maxHeartbeats 8000000 in
set_option maxRecDepth 100000 in
theorem buckets_any (A : Option Addr) (l : List Int) (c : Nat) (w : World) (hA : RdI w A l) (hl : l.length ≤ 140737488351232) :
    Calls Try.prog 13 #[.slice A l.length c] w fun e w' => e = .returned (.bool true) ∧ Below w.heap.size w w' := by
  have HA := Lib.hid hA
  clear hA
  go_enter Try.func13, Try.ntmps13
  go_wp2_with fail
  refine (awake_any _).mono ?_
  rintro e w1 ⟨rfl, hb⟩
  have HW := Lib.hid hb
  clear hb
  go_wp2_with fail
  have hb1 : Below w1.heap.size w1 (w1.alloc bo) := (Below.refl _ _).alloc (Nat.le_refl _) _
  have hb2 : Below (w1.alloc bo).heap.size (w1.alloc bo) ((w1.alloc bo).alloc (wo 0 0 0 0 0)) := (Below.refl _ _).alloc (Nat.le_refl _) _
  have hs1 : (w1.alloc bo).heap.size = w1.heap.size + 1 := by simp
  have hb3 := blk_below (heap_alloc_new w1 bo) hb2
  have hb4 := heap_alloc_new (w1.alloc bo) (wo 0 0 0 0 0)
  rw [hs1] at hb4
  have CN := Lib.hid (Cnt.mk (w := w) (HW.out.trans (Below.trans (hb1.mono HW.out.size) (hb2.mono (Nat.le_trans HW.out.size hb1.size)))) (RowA.nil _) hb3 hb4 (by omega) (by have := HW.out.size; omega))
  show Code.wp _ _ _ _ ((w1.alloc bo).alloc (wo 0 0 0 0 0))
  clear hb1 hb2 hs1 hb3 hb4 HW
  generalize (w1.alloc bo).alloc (wo 0 0 0 0 0) = w2 at *
  generalize w1.heap.size + 1 = gw at *
  generalize w1.heap.size = gb at *
  clear w1
  go_loopw [5, 6] (fun v i wr => ∃ (k : Nat) (cs : List Value) (h0 h1 h2 h3 h4 : Int), i = .int .i64 k ∧ k ≤ l.length ∧ k ≤ 40 ∧ Cnt w wr v (bks l k) cs gb gw h0 h1 h2 h3 h4 ∧ Five l k h0 h1 h2 h3 h4 ∧ Rel (∀ b, v.ownBlock = some b → w.heap.size ≤ b)) (fun _ i _ => 40 - (intOf i).toNat)
  case atStart => exact ⟨0, [], 0, 0, 0, 0, 0, rfl, by omega, by omega, CN.out, five_zero l, fun b hb => by simp [Value.ownBlock] at hb⟩
  case round =>
    clear CN
    obtain ⟨k, cs, h0, h1, h2, h3, h4, rfl, hk, hk40, hcn, hfv, hx⟩ := hrel
    have CN := Lib.hid hcn
    have FV := Lib.hid hfv
    have HX := Lib.hid hx
    clear hcn hfv hx
    by_cases hlt : k < l.length ∧ k < 40
    · have hd : decide ((k : Int) < l.length) = true := decide_eq_true (by omega)
      have hd40 : decide ((k : Int) < 40) = true := decide_eq_true (by omega)
      obtain ⟨ad, rfl, e0⟩ := RdI.at_ (Kd.C_below HA.out CN.out.bel) (show k < l.length by omega)
      have HB := Lib.hid (bv_b (l.getD k 0))
      have HE := Lib.hid (show bv (l.getD k 0) = bits .and .i64 (l.getD k 0) 1023 - 500 from rfl)
      have hwr : wrap64 (bits .and .i64 (l.getD k 0) 1023 - 500) = bv (l.getD k 0) := by
        rw [← HE.out]
        have := HB.out
        unfold wrap64
        omega
      obtain ⟨c0, c1, c2, c3, c4, cl⟩ := wo_facts CN.out.wt
      have hfr := fun j => blk_free CN.out.wt j
      have OB := Lib.hid (one_bk (i := k) (v := bv (l.getD k 0)) (by omega) (by omega) HB.out.1 HB.out.2)
      have HSN := Lib.hid (show bks l (k + 1) = bks l k ++ [bk k (bv (l.getD k 0))] from rfl)
      have hc := kB_cases (bv (l.getD k 0))
      rcases hc with hc | hc | hc | hc | hc
      case' inl =>
        obtain ⟨h4', hkb⟩ := hc
        have FN := Lib.hid (five_4 FV.out hkb)
        have d4 : decide ((300 : Int) < bv (l.getD k 0)) = true := decide_eq_true h4'
        clear h4' hkb
        have CN2 := Lib.hid (CN.out.set (k0 := h0) (k1 := h1) (k2 := h2) (k3 := h3) (k4 := h4 + 1) 4 (h4 + 1) rfl)
        have hs : wrap64 (h4 + 1) = h4 + 1 := by
          have := FV.out.2
          unfold wrap64
          omega
        generalize bv (l.getD k 0) = v8 at *
        generalize l.getD k 0 = n8 at *
        go_wp2_with fail
        show Calls _ _ _ (wr.setCell ⟨gw, 4, none⟩ (.int .i64 (h4 + 1))) _
        clear hs
        generalize wr.setCell ⟨gw, 4, none⟩ (.int .i64 (h4 + 1)) = w2 at *
        generalize hkk : h4 + 1 = hk4 at *
        clear hkk
      case' inr.inl =>
        obtain ⟨h4', h3', hkb⟩ := hc
        have FN := Lib.hid (five_3 FV.out hkb)
        have d4 : decide ((300 : Int) < bv (l.getD k 0)) = false := decide_eq_false h4'
        have d3 : decide ((20 : Int) < bv (l.getD k 0)) = true := decide_eq_true h3'
        clear h4' h3' hkb
        have CN2 := Lib.hid (CN.out.set (k0 := h0) (k1 := h1) (k2 := h2) (k3 := h3 + 1) (k4 := h4) 3 (h3 + 1) rfl)
        have hs : wrap64 (h3 + 1) = h3 + 1 := by
          have := FV.out.2
          unfold wrap64
          omega
        generalize bv (l.getD k 0) = v8 at *
        generalize l.getD k 0 = n8 at *
        go_wp2_with fail
        show Calls _ _ _ (wr.setCell ⟨gw, 3, none⟩ (.int .i64 (h3 + 1))) _
        clear hs
        generalize wr.setCell ⟨gw, 3, none⟩ (.int .i64 (h3 + 1)) = w2 at *
        generalize hkk : h3 + 1 = hk3 at *
        clear hkk
      case' inr.inr.inl =>
        obtain ⟨h4', h3', h2', hkb⟩ := hc
        have FN := Lib.hid (five_2 FV.out hkb)
        have d4 : decide ((300 : Int) < bv (l.getD k 0)) = false := decide_eq_false h4'
        have d3 : decide ((20 : Int) < bv (l.getD k 0)) = false := decide_eq_false h3'
        have d2 : decide ((0 : Int) < bv (l.getD k 0)) = true := decide_eq_true h2'
        clear h4' h3' h2' hkb
        have CN2 := Lib.hid (CN.out.set (k0 := h0) (k1 := h1) (k2 := h2 + 1) (k3 := h3) (k4 := h4) 2 (h2 + 1) rfl)
        have hs : wrap64 (h2 + 1) = h2 + 1 := by
          have := FV.out.2
          unfold wrap64
          omega
        generalize bv (l.getD k 0) = v8 at *
        generalize l.getD k 0 = n8 at *
        go_wp2_with fail
        show Calls _ _ _ (wr.setCell ⟨gw, 2, none⟩ (.int .i64 (h2 + 1))) _
        clear hs
        generalize wr.setCell ⟨gw, 2, none⟩ (.int .i64 (h2 + 1)) = w2 at *
        generalize hkk : h2 + 1 = hk2 at *
        clear hkk
      case' inr.inr.inr.inl =>
        obtain ⟨h4', h3', h2', h1', hkb⟩ := hc
        have FN := Lib.hid (five_1 FV.out hkb)
        have d4 : decide ((300 : Int) < bv (l.getD k 0)) = false := decide_eq_false h4'
        have d3 : decide ((20 : Int) < bv (l.getD k 0)) = false := decide_eq_false h3'
        have d2 : decide ((0 : Int) < bv (l.getD k 0)) = false := decide_eq_false h2'
        have d1 : decide ((-50 : Int) < bv (l.getD k 0)) = true := decide_eq_true h1'
        clear h4' h3' h2' h1' hkb
        have CN2 := Lib.hid (CN.out.set (k0 := h0) (k1 := h1 + 1) (k2 := h2) (k3 := h3) (k4 := h4) 1 (h1 + 1) rfl)
        have hs : wrap64 (h1 + 1) = h1 + 1 := by
          have := FV.out.2
          unfold wrap64
          omega
        generalize bv (l.getD k 0) = v8 at *
        generalize l.getD k 0 = n8 at *
        go_wp2_with fail
        show Calls _ _ _ (wr.setCell ⟨gw, 1, none⟩ (.int .i64 (h1 + 1))) _
        clear hs
        generalize wr.setCell ⟨gw, 1, none⟩ (.int .i64 (h1 + 1)) = w2 at *
        generalize hkk : h1 + 1 = hk1 at *
        clear hkk
      case' inr.inr.inr.inr =>
        obtain ⟨h4', h3', h2', h1', hkb⟩ := hc
        have FN := Lib.hid (five_0 FV.out hkb)
        have d4 : decide ((300 : Int) < bv (l.getD k 0)) = false := decide_eq_false h4'
        have d3 : decide ((20 : Int) < bv (l.getD k 0)) = false := decide_eq_false h3'
        have d2 : decide ((0 : Int) < bv (l.getD k 0)) = false := decide_eq_false h2'
        have d1 : decide ((-50 : Int) < bv (l.getD k 0)) = false := decide_eq_false h1'
        clear h4' h3' h2' h1' hkb
        have CN2 := Lib.hid (CN.out.set (k0 := h0 + 1) (k1 := h1) (k2 := h2) (k3 := h3) (k4 := h4) 0 (h0 + 1) rfl)
        have hs : wrap64 (h0 + 1) = h0 + 1 := by
          have := FV.out.2
          unfold wrap64
          omega
        generalize bv (l.getD k 0) = v8 at *
        generalize l.getD k 0 = n8 at *
        go_wp2_with fail
        show Calls _ _ _ (wr.setCell ⟨gw, 0, none⟩ (.int .i64 (h0 + 1))) _
        clear hs
        generalize wr.setCell ⟨gw, 0, none⟩ (.int .i64 (h0 + 1)) = w2 at *
        generalize hkk : h0 + 1 = hk0 at *
        clear hkk
      all_goals clear c0 c1 c2 c3 c4 cl hfr
      all_goals clear CN
      all_goals refine (item_any 0 k (k + 1) v8 _).mono ?_
      all_goals rintro e w3 ⟨rfl, hb⟩
      all_goals replace CN2 := Lib.hid (CN2.out.below hb)
      all_goals clear hb
      all_goals go_wp2_with fail
      all_goals refine (one_any ⟨0, k, k + 1, v8⟩ bb (some ⟨gb, 0, none⟩) 4 _ (rdI_blk (l := bb) CN2.out.bs (by decide)) (by decide)).mono ?_
      all_goals rintro e w4 ⟨va, rfl, how, hb⟩
      all_goals rw [OB.out.1] at how ⊢
      all_goals replace CN2 := Lib.hid (CN2.out.below hb)
      all_goals obtain ⟨Aa, ca, rfl, hla, hra⟩ := how.reads
      all_goals have HOW := Lib.hid (own_weaken how (Nat.zero_le _))
      all_goals clear hb how
      all_goals have hb : Below w4.heap.size w4 (w4.alloc (acO (bk k v8) (.slice Aa (bk k v8).f6.length ca))) := (Below.refl _ _).alloc (Nat.le_refl _) _
      all_goals have VA := Lib.hid (AVar.new (w := w4) (a := bk k v8) hla hra)
      all_goals replace HOW := Lib.hid (Own.below HOW.out hb)
      all_goals replace CN2 := Lib.hid (CN2.out.below hb)
      all_goals clear hb hla hra
      all_goals have h5 : (bk k v8).f6.length = 5 := by simp [bk, one, bb]
      all_goals rw [h5] at VA HOW CN2 ⊢
      all_goals simp only [acV, bk, one]
      all_goals go_wp2_with fail
      all_goals show Calls _ _ _ (w4.alloc (acO (bk k v8) (.slice Aa 5 ca))) _
      all_goals generalize w4.alloc (acO (bk k v8) (.slice Aa 5 ca)) = w5 at *
      all_goals generalize w4.heap.size = ab at *
      all_goals (
        refine (num_any _ _).mono ?_
        rintro e w' ⟨rfl, rfl⟩
        obtain ⟨a0, a1, a2, a3, a4, a5, a6, a7, a8, a9, a10, a11, a12, al⟩ := acO_facts VA.out.1
        rw [h5] at a12
        simp only [bk, one] at a0 a1 a2 a3 a4 a5 a6 a7 a8 a9 a10 a11
        go_wp2_with (at_builtin; refine at_append _ _ _ rfl ?_)
        show AtAppend _ _ _ _ _ _ (w5.alloc (acO (bk k v8) (.slice Aa 5 ca)))
        clear a0 a1 a2 a3 a4 a5 a6 a7 a8 a9 a10 a11 a12 al
        have hb : Below w5.heap.size w5 (w5.alloc (acO (bk k v8) (.slice Aa 5 ca))) := (Below.refl _ _).alloc (Nat.le_refl _) _
        have hbk := heap_alloc_new w5 (acO (bk k v8) (.slice Aa 5 ca))
        have hlen : (bks l k).length ≤ 40 := by rw [bks_len]; omega
        replace CN2 := Lib.hid (CN2.out.below hb)
        refine RowA.append (.tmp 63) (.tmp 65) rfl rfl CN2.out.row rfl w5.heap.size (bk k v8) (.slice Aa 5 ca) 1 rfl hbk (Own.below HOW.out hb) rfl (by omega) ?_
        rintro v1 w6 hr6 hg6 hat
        have hx6 : ∀ b, v1.ownBlock = some b → w.heap.size ≤ b := fun b hb' => by
          rcases hat with h | h
          · exact HX.out b (h.symm.trans hb')
          · rw [hb'] at h
            have e1 : b = (w5.alloc (acO (bk k v8) (.slice Aa 5 ca))).heap.size := by simpa using h
            have := CN2.out.bel.size
            omega
        have CN6 := Lib.hid (CN2.out.grown (fun b hb' => HX.out b hb') hg6 hr6)
        rw [← HSN.out] at CN6
        have HX6 := Lib.hid hx6
        clear hr6 hx6 hg6 hat hb hbk hlen CN2 HX HOW VA
        simp only [Act.put, List.setIfInBounds_toArray, List.set_cons_succ, List.set_cons_zero]
        go_wp2_with fail
        exact ⟨⟨k + 1, _, _, _, _, _, _, by go_num, by omega, by omega, CN6.out, FN.out, HX6.out⟩, by simp [intOf]; omega⟩)
    · have HJ := Lib.hid (bks_join (l := l) (fun k => bv_b _) hk40)
      obtain ⟨A3, c3, rfl, hrd⟩ := CN.out.row.reads
      have hlen : (bks l k).length = k := bks_len l k
      by_cases hln : k < l.length
      case' pos =>
        have hd : decide ((k : Int) < l.length) = true := decide_eq_true (by omega)
        have hd40 : decide ((k : Int) < 40) = false := decide_eq_false (by omega)
      case' neg =>
        have hd : decide ((k : Int) < l.length) = false := decide_eq_false (by omega)
      all_goals clear hlt hln
      all_goals go_wp2_with fail
      any_goals (exfalso; have := of_decide_eq_false hd; omega)
      all_goals have hp := join_any bb (bks l k) (some ⟨gb, 0, none⟩) 4 A3 c3 wr (rdI_blk (l := bb) CN.out.bs (by decide)) (by decide) hrd (by omega)
      all_goals rw [hlen, HJ.out] at hp
      all_goals refine hp.mono ?_
      all_goals rintro e w2 ⟨vj, rfl, how, hb⟩
      all_goals have CN2 := Lib.hid (CN.out.below hb)
      all_goals obtain ⟨Aj, cj, rfl, hlj, hrj⟩ := how.reads
      all_goals have e6 : (joinA bb (bks l k)).f6 = [h0, h1, h2, h3, h4] := FV.out.1
      all_goals clear how hb hp hrd CN FV HX HJ
      all_goals generalize joinA bb (bks l k) = o at *
      all_goals obtain ⟨o0, o1, o2, o3, o4, o5, o6⟩ := o
      all_goals simp only at e6
      all_goals subst e6
      all_goals have VA := Lib.hid (AVar.new (w := w2) (a := ⟨o0, o1, o2, o3, o4, o5, [h0, h1, h2, h3, h4]⟩) hlj hrj)
      all_goals have hal : Below w2.heap.size w2 (w2.alloc (acO ⟨o0, o1, o2, o3, o4, o5, [h0, h1, h2, h3, h4]⟩ (.slice Aj 5 cj))) := (Below.refl _ _).alloc (Nat.le_refl _) _
      all_goals replace CN2 := Lib.hid (CN2.out.below hal)
      all_goals clear hal hlj hrj
      all_goals simp only [acV, List.length_cons, List.length_nil, Nat.zero_add]
      all_goals go_wp2_with fail
      all_goals change Code.wp _ _ _ _ (w2.alloc (acO ⟨o0, o1, o2, o3, o4, o5, [h0, h1, h2, h3, h4]⟩ (.slice Aj 5 cj)))
      all_goals change Hid (AVar (w2.alloc (acO ⟨o0, o1, o2, o3, o4, o5, [h0, h1, h2, h3, h4]⟩ (.slice Aj 5 cj))) _ _ _ _) at VA
      all_goals generalize w2.alloc (acO ⟨o0, o1, o2, o3, o4, o5, [h0, h1, h2, h3, h4]⟩ (.slice Aj 5 cj)) = w3 at *
      all_goals generalize w2.heap.size = ob at *
      all_goals clear w2
      all_goals obtain ⟨a0, a1, a2, a3, a4, a5, a6, a7, a8, a9, a10, a11, a12, al⟩ := acO_facts VA.out.1
      all_goals simp only [List.length_cons, List.length_nil, Nat.zero_add] at a12
      all_goals clear a0 a1 a2 a3 a4 a5 a6 a7 a8 a9 a10 a11
      all_goals (
        refine Txt.wp_region_mix (by kernel_rfl) (by kernel_rfl) (fun HB => ?_)
        repeat (first
          | (refine Txt.mix_p (by rfl) rfl rfl (fun K hK => ?_); go_big_quiet_op; refine hK _ ?_; clear hK K)
          | (refine Txt.mix_re (by rfl) (by decide +kernel) (by rfl) (by rfl) (by go_simp) HB (fun K hK => ?_); go_big_quiet_op; refine hK _ ?_; clear hK K)
          | (refine Txt.mix_rl (by rfl) (by decide +kernel) (by rfl) (by rfl) (by go_simp) HB (fun K hK => ?_); go_big_quiet_op; refine hK _ ?_; clear hK K)
          | (refine Txt.mix_pass (by rfl) (by rfl) ?_; simp only [List.set_cons_succ, List.set_cons_zero]))
        refine Txt.mix_c (by rfl) (by decide +kernel) HB ?_
        intro wN hw1 K hK
        replace HB := HB.trans hw1
        clear hw1
        go_wp2_with fail
        refine (num_any _ _).mono ?_
        rintro e w' ⟨rfl, rfl⟩
        refine hK _ _ ⟨Txt.Bw.refl _, ?_⟩
        clear hK K
        repeat (first
          | (refine Txt.mix_p (by rfl) rfl rfl (fun K hK => ?_); go_big_quiet_op; refine hK _ ?_; clear hK K)
          | (refine Txt.mix_re (by rfl) (by decide +kernel) (by rfl) (by rfl) (by go_simp) HB (fun K hK => ?_); go_big_quiet_op; refine hK _ ?_; clear hK K)
          | (refine Txt.mix_rl (by rfl) (by decide +kernel) (by rfl) (by rfl) (by go_simp) HB (fun K hK => ?_); go_big_quiet_op; refine hK _ ?_; clear hK K)
          | (refine Txt.mix_pass (by rfl) (by rfl) ?_; simp only [List.set_cons_succ, List.set_cons_zero]))
        refine Txt.mix_c (by rfl) (by decide +kernel) HB ?_
        intro wN2 hw2 K hK
        have hVA := Lib.hid (VA.out.below (HB.trans hw2).undrew)
        replace HB := HB.trans hw2
        clear hw2
        go_wp2_with fail
        refine (ints_yes [h0, h1, h2, h3, h4] Aj (some ⟨gw, 0, none⟩) cj 5 _ hVA.out.2.2 hVA.out.2.1 (rdI_blk (blk_below CN2.out.wt HB.undrew) (by simp)) (by simp) (by simp)).mono ?_
        rintro e w' ⟨rfl, hb⟩
        refine hK _ _ ⟨hb, ?_⟩
        replace HB := HB.trans hb
        clear hK K hb
        repeat (first
          | (refine Txt.mix_p (by rfl) rfl rfl (fun K hK => ?_); go_big_quiet_op; refine hK _ ?_; clear hK K)
          | (refine Txt.mix_re (by rfl) (by decide +kernel) (by rfl) (by rfl) (by go_simp) HB (fun K hK => ?_); go_big_quiet_op; refine hK _ ?_; clear hK K)
          | (refine Txt.mix_rl (by rfl) (by decide +kernel) (by rfl) (by rfl) (by go_simp) HB (fun K hK => ?_); go_big_quiet_op; refine hK _ ?_; clear hK K)
          | (refine Txt.mix_pass (by rfl) (by rfl) ?_; simp only [List.set_cons_succ, List.set_cons_zero]))
        refine Txt.mix_nil ?_
        go_wp2_with fail
        go_ret
        exact ⟨rfl, CN2.out.bel.trans (HB.undrew.mono CN2.out.bel.size)⟩)
theorem buckets_walk (A : Option Addr) (l : List Int) (c : Nat) (w : World) (hA : RdI w A l) (hl : l.length * 8 ≤ 140737488351232) (_ : ∀ n ∈ l, (Lit.int .i64 n).wf = true) :
    Calls Try.prog 13 #[.slice A l.length c] w fun e w' => e = .returned (.bool true) ∧ Below w.heap.size w w' := buckets_any A l c w hA (by omega)
end Go.Proofs.Ytggaefklcpbfnaa.My
