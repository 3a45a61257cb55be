/- Lemmas, contracts of functions and plain laws, part 3: what the row's proof uses. No statement of the seed is proved here. -/
import Derived.Test.YtfgabafbcephaaaZTrees2
import Derived.Maps.Own
import Derived.Maps.Views
import Derived.DeepKeys4
import Derived.Test.YtfgabafbcephaaaYPaEq0
import Derived.Test.YtfgabafbcephaaaYPaItem19
import Derived.Test.YtfgabafbcephaaaYPa0
import Derived.Test.YtfgabafbcephaaaZTrees1
import Derived.Test.YtfgabafbcephaaaYPaBourneref1sorted
import Derived.Test.YtfgabafbcephaaaYPaBourneref1twin
import Derived.OwnWalk
import Derived.ChangeKeysEq
namespace Go.Proofs.Ytfgabafbcephaaa.My
open Go.RowKit Pa Go.Proofs.YtfgabafbcephaaaW.PrintWords
set_option linter.unusedSimpArgs false
def imays : Int → List S34 → Bool
  | _, [] => true
  | s, x :: r => imay x && (decide (s < 0) || x.f0 == s) && imays x.f0 r
def PT.ser : PT → Int
  | .nil => -1
  | .node _ x _ _ _ _ _ _ _ _ => x.f0
theorem dropX_cons {xs : List S34} {k : Nat} (hk : k < xs.length) : xs.drop k = xs.getD k z34 :: xs.drop (k + 1) := by
  rw [List.drop_eq_getElem_cons hk, List.getD_eq_getElem?_getD, List.getElem?_eq_getElem hk]
  rfl
theorem RdX.below {w w1 : World} {A : Option Addr} {ys : List S34} (h : RdX w A ys) (hb : Below w.heap.size w w1) : RdX w1 A ys := h.quiet hb
set_option maxHeartbeats 8000000 in
set_option maxRecDepth 100000 in
theorem tmay_any {w : World} {g : Nat} {bv : Value} {bs : List Int} (t : PT) (L : List S34) (xs : List S34) (A : Option Addr) (c : Nat) (hg : w.heap[g]? = some (tO bv t.ptr)) (h : TrAt w t) (k : TOk bs t L) (hL : L.length ≤ 8192) (hr : RdX w A xs) (hl : xs.length ≤ 17592186044415) :
    Calls Try.prog 58 #[.pointer (some ⟨g, 0, none⟩), .slice A xs.length c] w fun e w' => e = .returned (.bool (imays t.ser xs && decide ((L.length : Int) + xs.length ≤ 8192))) ∧ Below w.heap.size w w' := by
  have HG := Lib.hid hg
  have HT := Lib.hid h
  have HK := Lib.hid (And.intro k hL)
  have HA := Lib.hid hr
  clear hg h k hL hr
  obtain ⟨ser, hser⟩ : ∃ ser, t.ser = ser := ⟨_, rfl⟩
  have HS := Lib.hid hser
  clear hser
  go_enter Try.func58, Try.ntmps58
  obtain ⟨q0, q1, ql⟩ := tO_facts HG.out
  obtain ⟨P, hP⟩ := t.ptr_form
  have HP := Lib.hid hP
  cases t
  case' nil =>
    unfold PT.ptr at q1
  case' node b x o ov a av m q l r =>
    unfold PT.ptr at q1
    obtain ⟨e0, -, -, -, -, -, -, -, -, -, -, -, -, -, -, -, -, -, -, -, -, -, -, -, -, -, -, -, -, -, -, -, -, -, el⟩ := nO_facts HT.out.1
  all_goals (
    clear hP
    go_wp2_with fail
    go_loopw [5, 23] (fun s i wr => ∃ (k : Nat) (f : Int), i = .int .i64 k ∧ s = .int .i64 f ∧ k ≤ xs.length ∧ Below w.heap.size w wr ∧ Rel (imays ser xs = imays f (xs.drop k))) (fun _ i _ => xs.length - (intOf i).toNat)
    case atStart => exact ⟨0, ser, rfl, by rw [← HS.out]; rfl, by omega, Below.refl _ _, rfl⟩
    case round =>
      clear q0 q1 ql
      try clear e0 el
      obtain ⟨k, f, rfl, rfl, hk, hb, hx⟩ := hrel
      have HX := Lib.hid hx
      have HB := Lib.hid hb
      clear hx hb
      by_cases hlt : k < xs.length
      · obtain ⟨b, o, rfl, hbs, hcells⟩ := (HA.out.below HB.out) (by omega)
        obtain ⟨c0, c1, c2, c3⟩ := hcells k hlt
        have hx := HX.out
        unfold Rel at hx
        rw [dropX_cons hlt, imays] at hx
        unfold atX at c0 c1 c2 c3
        generalize xs.getD k z34 = x at *
        have hal : Below wr.heap.size wr (wr.alloc (itO x)) := (Below.refl wr.heap.size wr).alloc (Nat.le_refl _) _
        have hv : (wr.alloc (itO x)).heap[wr.heap.size]? = some (itO x) := heap_alloc_new wr _
        obtain ⟨a0, a1, a2, a3, al⟩ := itO_facts hv
        have HY := Lib.hid hx
        have HV := Lib.hid hv
        have HB2 := Lib.hid (HB.out.trans (hal.mono HB.out.size))
        clear hx hal hv hcells HB
        unfold itO at a0 a1 a2 a3 al
        go_wp2_with fail
        show Calls _ _ _ (wr.alloc (itO x)) _
        clear a0 a1 a2 a3 al c0 c1 c2 c3
        generalize wr.alloc (itO x) = wa at *
        generalize wr.heap.size = xb at *
        refine (im_any x _).mono ?_
        rintro e w2 ⟨rfl, hb⟩
        obtain ⟨a0, a1, a2, a3, al⟩ := itO_facts (blk_below HV.out hb)
        have HB3 := Lib.hid (HB2.out.trans (hb.mono HB2.out.size))
        have hy := HY.out
        clear hb HV HB2 HX HY
        by_cases hm : imay x = true
        · rw [hm]
          rw [hm] at hy
          clear hm
          by_cases h1 : 0 ≤ f
          · have hd1 : decide (0 ≤ f) = true := decide_eq_true h1
            rw [decide_eq_false (show ¬ f < 0 by omega)] at hy
            by_cases h2 : x.f0 = f
            · have hd2 : (x.f0 == f) = true := beq_iff_eq.2 h2
              rw [hd2] at hy
              have HZ := Lib.hid hy
              clear hy h1 h2
              go_wp2_with fail
              exact ⟨⟨k + 1, x.f0, by go_num, rfl, by omega, HB3.out, HZ.out⟩, by simp [intOf]; omega⟩
            · have hd2 : (x.f0 == f) = false := beq_eq_false_iff_ne.2 h2
              rw [hd2] at hy
              have HZ := Lib.hid hy
              clear hy h1 h2
              go_wp2_with fail
              go_ret
              exact ⟨by rw [HS.out, HZ.out]; rfl, HB3.out⟩
          · have hd1 : decide (0 ≤ f) = false := decide_eq_false h1
            rw [decide_eq_true (show f < 0 by omega)] at hy
            have HZ := Lib.hid hy
            clear hy h1
            go_wp2_with fail
            exact ⟨⟨k + 1, x.f0, by go_num, rfl, by omega, HB3.out, HZ.out⟩, by simp [intOf]; omega⟩
        · have hm' : imay x = false := by simpa using hm
          rw [hm']
          rw [hm'] at hy
          have HZ := Lib.hid hy
          clear hy hm hm'
          go_wp2_with fail
          go_ret
          exact ⟨by rw [HS.out, HZ.out]; rfl, HB3.out⟩
      · have ek : k = xs.length := by omega
        have HZ := Lib.hid (show imays ser xs = true from by
          have h := HX.out
          unfold Rel at h
          rw [h, List.drop_eq_nil_of_le (by omega)]
          rfl)
        subst ek
        obtain ⟨q0, q1, ql⟩ := tO_facts (blk_below HG.out HB.out)
        rw [HP.out] at q1
        go_wp2_with fail
        rw [← HP.out]
        refine (tsize_any _ (HT.out.below HB.out)).mono ?_
        rintro e w2 ⟨rfl, hb⟩
        rw [HK.out.1.size]
        have hL := HK.out.2
        have HB3 := Lib.hid (HB.out.trans (hb.mono HB.out.size))
        clear hb q0 q1 ql
        go_wp2_with fail
        go_ret
        exact ⟨by rw [HS.out, HZ.out, Bool.true_and]; first | rfl | (congr 3; omega), HB3.out⟩)
end Go.Proofs.Ytfgabafbcephaaa.My

namespace Go.Proofs.Ytfgabafbcephaaa.My
open Go.RowKit Pa Go.Proofs.YtfgabafbcephaaaW.PrintWords
set_option linter.unusedSimpArgs false
open Go.WideMaps in
theorem key_law : KeyLaw Try.prog 125 := deep_law_laid (show laidOutB Try.prog = true by kernel_rfl) (m := 2) (by omega) (of_decide_eq_true (by kernel_rfl)) (by kernel_rfl) (by kernel_rfl)
theorem key_keyed : Maps.Keyed Try.prog 125 := Maps.Keyed.of_law key_law
def keyV (x : S34) : Value := .agg #[.int .i64 x.f1, .int .i64 x.f2]
theorem imay_wf {x : S34} (h : imay x = true) : (Lit.int .i64 x.f1).wf = true ∧ (Lit.int .i64 x.f2).wf = true := by
  have h := of_decide_eq_true h
  exact ⟨WalkArith.wf_i64 (by omega), WalkArith.wf_i64 (by omega)⟩
theorem keyV_of {x : S34} (hx : imay x = true) : keyOf Try.prog 125 (keyV x) = some (.string (keyBytes [.int .i64 x.f1, .int .i64 x.f2])) := by
  obtain ⟨wa, wb⟩ := imay_wf hx
  have hsz : ∃ m, Try.prog.types.size = m + 1 := ⟨Try.prog.types.size - 1, by
    have : 0 < Try.prog.types.size := of_decide_eq_true (by kernel_rfl)
    omega⟩
  have hkt : Try.prog.keyType 125 = true := by kernel_rfl
  have hc : Try.prog.cellsOf 125 = 2 := by kernel_rfl
  have h1 : Try.prog.cellsOf 3 = 1 := by kernel_rfl
  obtain ⟨m, hm⟩ := hsz
  unfold keyOf keyV
  simp only [Try.underlying125]
  rw [if_pos (by simp [hkt, Value.formed, Try.underlying125, hc]), hm]
  cases m with
  | zero => exact absurd hm (of_decide_eq_true (by kernel_rfl))
  | succ m =>
    unfold Program.keyLits
    simp only [Try.underlying125, Value.cells]
    rw [if_pos ⟨by rw [hc]; rfl, by kernel_rfl⟩]
    simp [h1, Program.keyLits, Try.underlying3, wa, wb]
def seen (x : S34) (L : List S34) : Bool := L.any (fun y => y.f1 == x.f1 && y.f2 == x.f2)
def keyL (x : S34) : Lit := .string (keyBytes [.int .i64 x.f1, .int .i64 x.f2])
theorem keyL_ne {x y : S34} (hx : imay x = true) (hy : imay y = true) (h : (y.f1 == x.f1 && y.f2 == x.f2) = false) : keyL x ≠ keyL y := fun e => by
  have h2 := key_keyed.inj (keyV_of hx) ((keyV_of hy).trans (congrArg some e.symm))
  unfold keyV at h2
  simp only [Value.agg.injEq, Array.mk.injEq, List.cons.injEq, Value.int.injEq, true_and, and_true] at h2
  rw [h2.1, h2.2] at h
  simp at h
def SetAt (w : World) (b n : Nat) (L : List S34) : Prop := ∃ D : DataW Unit, w.ownsMap Try.prog 125 (plainElem Try.prog 4) b n D ∧ Maps.IsMap D ∧ ∀ x, imay x = true → D.atKey (keyL x) (.lit (.bool false)) = .lit (.bool (seen x L))
theorem SetAt.made (w : World) : SetAt (w.alloc (.map #[] 0)) w.heap.size 0 [] := ⟨.map [], World.ownsMap_made w _ _ _, ⟨_, rfl⟩, fun _ _ => rfl⟩
theorem SetAt.kept {w w1 : World} {b n : Nat} {L : List S34} {row : Option Nat} (h : SetAt w b n L) (hg : w.grownBy w1 row) (hne : some b ≠ row) : SetAt w1 b n L := by
  obtain ⟨D, h1, h2⟩ := h
  exact ⟨D, h1.kept hg hne, h2⟩
theorem SetAt.look {w : World} {b n : Nat} {L : List S34} (h : SetAt w b n L) {x : S34} (hx : imay x = true) : (Instr.lookup 123 (.map (some b)) (keyV x) false).run Try.prog w = .ok (.bool (seen x L)) w := by
  obtain ⟨D, h1, _, h3⟩ := h
  have hz : (zeroValue 4).run Try.prog w = .ok (.bool false) w := by go_simp
  obtain ⟨v, ps, hr, hv⟩ := h1.lookup key_keyed Try.underlying123 hz (plainElem_bool Try.underlying4 false) (keyV_of hx)
  have e : plainElem Try.prog 4 v = some ((.lit (.bool (seen x L)) : DataW Unit), ps) := by
    rw [← h3 x hx]
    exact hv
  rw [hr]
  have hu := Try.underlying4
  unfold plainElem at e
  generalize Try.prog.underlying 4 = u at e hu
  subst hu
  cases v <;> simp at e
  rw [e.1]
theorem seen_add {L : List S34} {D' : DataW Unit} {x : S34} (hx : imay x = true) (h : ∀ y, imay y = true → D'.atKey (keyL y) (.lit (.bool false)) = .lit (.bool (seen y L))) (hm : Maps.IsMap D') :
    ∀ y, imay y = true → (D'.put (keyL x) (.lit (.bool true))).atKey (keyL y) (.lit (.bool false)) = .lit (.bool (seen y (L ++ [x]))) := fun y hy => by
  have e : seen y (L ++ [x]) = (seen y L || (x.f1 == y.f1 && x.f2 == y.f2)) := by simp [seen]
  rw [e]
  by_cases he : (x.f1 == y.f1 && x.f2 == y.f2) = true
  · have hk : keyL y = keyL x := by
      simp only [Bool.and_eq_true, beq_iff_eq] at he
      unfold keyL
      rw [he.1, he.2]
    rw [hk, Maps.atKey_put_same hm (show WideAt.IsKeyLit (keyL x) from trivial), he, Bool.or_true]
  · have he : (x.f1 == y.f1 && x.f2 == y.f2) = false := by simpa using he
    rw [Maps.atKey_put_other (keyL_ne hy hx he), h y hy, he, Bool.or_false]
theorem SetAt.wp_add {w : World} {b n : Nat} {L : List S34} {x : S34} (h : SetAt w b n L) (hx : imay x = true) (hn : n < maxLen) {ops : Array Oper} {rest : List Oper} {o : Oper} {a : Act} {Q : Exit → Act → World → Prop}
    (hg : o.guard = none) (m k v : Operand) (hop : o.op = Op.mapUpdate 123 m k v) (hm : a.eval m = .map (some b)) (hk : a.eval k = keyV x) (hv : a.eval v = .bool true)
    (hK : ∀ w', SetAt w' b (n + 1) (L ++ [x]) → w.grownBy w' (some b) → wpList Try.prog ops Q rest (a.put o.dst undef) w') : wpList Try.prog ops Q (o :: rest) a w := by
  obtain ⟨D, h1, h2, h3⟩ := h
  exact wpList_mapUpdate_own w hg m k v _ hop _ _ key_keyed Try.underlying123 _ b n D hm h1 hn (keyV x) (.bool true) _ hk hv (keyV_of hx) (.lit (.bool true)) [] (plainElem_bool Try.underlying4 true) fun w' r1 r2 => hK w' ⟨_, r1, h2.put _ _, seen_add hx h3 h2⟩ r2
end Go.Proofs.Ytfgabafbcephaaa.My

namespace Go.Proofs.Ytfgabafbcephaaa.My
open Go.RowKit Pa Go.Proofs.YtfgabafbcephaaaW.PrintWords
set_option linter.unusedSimpArgs false
theorem below_grown {B : Nat} {w0 w w1 : World} {row : Option Nat} (h : Below B w0 w) (hg : w.grownBy w1 row) (hB : B ≤ w.heap.size) (hr : ∀ k, row = some k → B ≤ k) : Below B w0 w1 :=
  Chg.base h ((Chg.refl (fun k => row = some k) w).grown hg (fun _ hk => .inl hk)) hB hr
def twi (L : List S34) : List S34 → List S34 → Bool
  | _, [] => false
  | S, x :: r => seen x S || hasB x L || twi L (S ++ [x]) r
set_option maxHeartbeats 8000000 in
set_option maxRecDepth 100000 in
theorem twice_any {w : World} {g : Nat} {bv : Value} {bs : List Int} (t : PT) (L : List S34) (xs : List S34) (A : Option Addr) (c : Nat) (hg : w.heap[g]? = some (tO bv t.ptr)) (h : TrAt w t) (k : TOk bs t L) (hs : Srt L) (hr : RdX w A xs) (hl : xs.length ≤ 8192) (hm : ∀ x ∈ xs, imay x = true) :
    Calls Try.prog 59 #[.pointer (some ⟨g, 0, none⟩), .slice A xs.length c] w fun e w' => e = .returned (.bool (twi L [] xs)) ∧ Below w.heap.size w w' := by
  have HG := Lib.hid hg
  have HT := Lib.hid h
  have HK := Lib.hid (And.intro k hs)
  have HA := Lib.hid hr
  have HM := Lib.hid hm
  clear hg h k hs hr hm
  go_enter Try.func59, Try.ntmps59
  have hmk : (Instr.makeMap 123 none).run Try.prog w = .ok (.map (some w.heap.size)) (w.alloc (.map #[] 0)) := run_makeMap _ w
  go_wp2_with fail
  clear hmk
  have hal : Below w.heap.size w (w.alloc (.map #[] 0)) := (Below.refl _ _).alloc (Nat.le_refl _) _
  have HB0 := Lib.hid hal
  have HS0 := Lib.hid (SetAt.made w)
  clear hal
  generalize w.alloc (.map #[] 0) = w1 at *
  have HMB := Lib.hid (Nat.le_refl w.heap.size)
  go_loopw [12] (fun i wr => ∃ k : Nat, i = .int .i64 k ∧ k ≤ xs.length ∧ Below w.heap.size w wr ∧ SetAt wr w.heap.size k (xs.take k) ∧ Rel (twi L [] xs = twi L (xs.take k) (xs.drop k))) (fun i _ => xs.length - (intOf i).toNat)
  case atStart => exact ⟨0, rfl, by omega, HB0.out, HS0.out, rfl⟩
  case round =>
    obtain ⟨k, rfl, hk, hb, hset, hx⟩ := hrel
    have HX := Lib.hid hx
    have HB := Lib.hid hb
    have HS := Lib.hid hset
    clear hx hb hset
    by_cases hlt : k < xs.length
    · obtain ⟨b, o, rfl, hbs, hcells⟩ := (HA.out.below HB.out) (by omega)
      obtain ⟨c0, c1, c2, c3⟩ := hcells k hlt
      have hx := HX.out
      unfold Rel at hx
      rw [dropX_cons hlt, twi] at hx
      have HXM := Lib.hid (HM.out (xs.getD k z34) (by rw [List.getD_eq_getElem?_getD, List.getElem?_eq_getElem hlt]; exact List.getElem_mem hlt))
      have HTK := Lib.hid (show xs.take (k + 1) = xs.take k ++ [xs.getD k z34] from by
        rw [List.take_add_one, List.getElem?_eq_getElem hlt, List.getD_eq_getElem?_getD, List.getElem?_eq_getElem hlt]
        rfl)
      unfold atX at c0 c1 c2 c3
      generalize xs.getD k z34 = x at *
      have hal : Below wr.heap.size wr (wr.alloc (itO x)) := (Below.refl wr.heap.size wr).alloc (Nat.le_refl _) _
      have hv : (wr.alloc (itO x)).heap[wr.heap.size]? = some (itO x) := heap_alloc_new wr _
      obtain ⟨a0, a1, a2, a3, al⟩ := itO_facts hv
      have hal2 : Below (wr.alloc (itO x)).heap.size (wr.alloc (itO x)) ((wr.alloc (itO x)).alloc (.cells #[.int .i64 x.f1, .int .i64 x.f2] 125)) := (Below.refl _ _).alloc (Nat.le_refl _) _
      have hset2 : SetAt ((wr.alloc (itO x)).alloc (.cells #[.int .i64 x.f1, .int .i64 x.f2] 125)) w.heap.size k (xs.take k) := (HS.out.kept (World.grownBy_alloc wr _ none) (by simp)).kept (World.grownBy_alloc _ _ none) (by simp)
      have hlk := hset2.look HXM.out
      have HS2 := Lib.hid hset2
      have HV2 := Lib.hid (blk_below hv hal2)
      have HB2 := Lib.hid ((HB.out.trans (hal.mono HB.out.size)).trans (hal2.mono (Nat.le_trans HB.out.size hal.size)))
      unfold itO keyV at hlk
      have HY := Lib.hid hx
      have HV := Lib.hid hv
      have HAL := Lib.hid hal
      clear hx hal hv hcells hal2 hset2
      unfold itO at a0 a1 a2 a3 al
      by_cases hsn : seen x (xs.take k) = true
      · rw [hsn] at hlk
        have HZ := Lib.hid (show twi L [] xs = true from by rw [HY.out, hsn]; rfl)
        clear hsn
        go_wp2_with fail
        go_ret
        exact ⟨by rw [HZ.out]; rfl, HB2.out⟩
      · have hsn : seen x (xs.take k) = false := by simpa using hsn
        rw [hsn] at hlk
        have HZ := Lib.hid (show twi L [] xs = (hasB x L || twi L (xs.take (k + 1)) (xs.drop (k + 1))) from by
          rw [HY.out, hsn, HTK.out]
          rfl)
        clear hsn
        go_wp2_with fail
        show Calls _ _ _ ((wr.alloc (itO x)).alloc (.cells #[.int .i64 x.f1, .int .i64 x.f2] 125)) _
        clear a0 a1 a2 a3 al c0 c1 c2 c3 hlk HV HY HAL HX
        generalize (wr.alloc (itO x)).alloc (.cells #[.int .i64 x.f1, .int .i64 x.f2] 125) = w2 at *
        refine (has_any t L x (blk_below HG.out HB2.out) (HT.out.below HB2.out) HK.out.1 HK.out.2).mono ?_
        rintro e w3 ⟨rfl, hb⟩
        have HB3 := Lib.hid (HB2.out.trans (hb.mono HB2.out.size))
        have HV3 := Lib.hid (blk_below HV2.out hb)
        have HS3 := Lib.hid (show SetAt w3 w.heap.size k (xs.take k) from by
          obtain ⟨D, d1, d2, d3⟩ := HS2.out
          obtain ⟨es, ck, f1, f2, f3⟩ := d1
          exact ⟨D, ⟨es, ck, blk_below f1 hb, f2, f3⟩, d2, d3⟩)
        obtain ⟨a0, a1, a2, a3, al⟩ := itO_facts HV3.out
        clear hb
        by_cases hh : hasB x L = true
        · rw [hh]
          have HZ2 := Lib.hid (show twi L [] xs = true from by rw [HZ.out, hh]; rfl)
          clear hh
          go_wp2_with fail
          go_ret
          exact ⟨by rw [HZ2.out]; rfl, HB3.out⟩
        · have hh : hasB x L = false := by simpa using hh
          rw [hh]
          have HZ2 := Lib.hid (show twi L [] xs = twi L (xs.take (k + 1)) (xs.drop (k + 1)) from by rw [HZ.out, hh]; rfl)
          clear hh
          have hml : k < maxLen := Nat.lt_of_lt_of_le hlt (by unfold maxLen; omega)
          go_wp2_with (first | (at_mapUpdate; refine HS3.out.wp_add HXM.out hml rfl _ _ _ rfl rfl rfl rfl ?_) | go_in)
          intro w4 hs4 hg4
          have HB4 := Lib.hid (below_grown HB3.out hg4 HB3.out.size (fun j hj => by injection hj with hj; omega))
          rw [← HTK.out] at hs4
          have HS4 := Lib.hid hs4
          clear hs4 hg4 hml a0 a1 a2 a3 al
          go_wp2_with fail
          exact ⟨⟨k + 1, by go_num, by omega, HB4.out, HS4.out, HZ2.out⟩, by simp [intOf]; omega⟩
    · have ek : k = xs.length := by omega
      have HZ := Lib.hid (show twi L [] xs = false from by
        have h := HX.out
        unfold Rel at h
        rw [h, List.drop_eq_nil_of_le (by omega)]
        rfl)
      subst ek
      go_wp2_with fail
      go_ret
      exact ⟨by rw [HZ.out]; rfl, HB.out⟩
end Go.Proofs.Ytfgabafbcephaaa.My

namespace Go.Proofs.Ytfgabafbcephaaa.My
open Go.RowKit Pa Go.Proofs.YtfgabafbcephaaaW.PrintWords
set_option linter.unusedSimpArgs false
theorem ord_trans {a b c : S34} (h1 : ord a b < 0) (h2 : ord b c < 0) : ord a c < 0 := by
  unfold ord at *
  (repeat' split at h1) <;> (repeat' split at h2) <;> (repeat' split) <;> omega
def ahead (x : S34) (L : List S34) : List S34 := L.filter (fun y => decide (ord y x < 0))
def behind (x : S34) (L : List S34) : List S34 := L.filter (fun y => !decide (ord y x < 0))
def ins (x : S34) (L : List S34) : List S34 := ahead x L ++ x :: behind x L
theorem ins_cut {x : S34} {L : List S34} (h : Srt L) : L = ahead x L ++ behind x L := srt_cut (p := fun y => decide (ord y x < 0)) (fun _ _ hab hb => decide_eq_true (ord_trans hab (of_decide_eq_true hb))) h
theorem ahead_ok {x y : S34} {L : List S34} (h : y ∈ ahead x L) : y ∈ L ∧ ord y x < 0 := by
  have := List.mem_filter.1 h
  exact ⟨this.1, of_decide_eq_true this.2⟩
theorem behind_ok {x y : S34} {L : List S34} (h : y ∈ behind x L) : y ∈ L ∧ ¬ ord y x < 0 := by
  have := List.mem_filter.1 h
  exact ⟨this.1, by simpa using this.2⟩
theorem ins_srt {x : S34} {L : List S34} (h : Srt L) (hx : ∀ y ∈ L, ord x y ≠ 0) : Srt (ins x L) := by
  unfold ins Srt
  have h1 := ins_cut (x := x) h
  have h2 : Srt (ahead x L ++ behind x L) := h1 ▸ h
  refine List.pairwise_append.2 ⟨srt_left h2, List.pairwise_cons.2 ⟨fun y hy => ?_, srt_right h2⟩, fun a ha b hb => ?_⟩
  · have := behind_ok hy
    have h3 := hx y this.1
    have h4 := this.2
    rw [ord_anti] at h4
    omega
  · have h3 := ahead_ok ha
    rcases List.mem_cons.1 hb with rfl | hb
    · exact h3.2
    · exact (List.pairwise_append.1 h2).2.2 a ha b hb
end Go.Proofs.Ytfgabafbcephaaa.My

namespace Go.Proofs.Ytfgabafbcephaaa.My
open Go.RowKit Pa Go.Proofs.YtfgabafbcephaaaW.PrintWords
set_option linter.unusedSimpArgs false
structure TI (w0 w : World) (F : Nat → Prop) (g : Nat) (bv : Value) (bs : List Int) (t : PT) (L : List S34) : Prop where
  hg : w.heap[g]? = some (tO bv t.ptr)
  bo : Own w 0 bv bs
  tr : TrAt w t
  ok : TOk bs t L
  nd : t.blks.Nodup
  srt : Srt L
  fr : ∀ i, i ∈ t.blks ∨ i ∈ t.hbs → F i ∨ w0.heap.size ≤ i
  chg : Chg (fun i => i = g ∨ F i) w0 w
theorem TI.below {w0 w w1 : World} {F : Nat → Prop} {g : Nat} {bv : Value} {bs : List Int} {t : PT} {L : List S34} (h : TI w0 w F g bv bs t L) (hb : Below w.heap.size w w1) : TI w0 w1 F g bv bs t L :=
  ⟨blk_below h.hg hb, Own.below h.bo hb, h.tr.below hb, h.ok, h.nd, h.srt, h.fr, h.chg.below hb⟩
theorem gd_of {bs : List Int} {s : Int} {L : List S34} (hb : bmay bs = true) (h : ∀ x ∈ L, imay x = true ∧ x.f0 = s) (hl : L.length ≤ 8192) : Gd bs s (its bs L) := by
  refine ⟨hb, fun y hy => ?_, ?_⟩
  · obtain ⟨x, hx, rfl⟩ := List.mem_map.1 hy
    exact .inr ⟨may1_one (h x hx).1 hb, (h x hx).2⟩
  · unfold its
    rw [cnt_map]
    omega
def insAll (L : List S34) (xs : List S34) : List S34 := xs.foldl (fun M x => ins x M) L
end Go.Proofs.Ytfgabafbcephaaa.My

namespace Go.Proofs.Ytfgabafbcephaaa.My
open Go.RowKit Pa Go.Proofs.YtfgabafbcephaaaW.PrintWords
set_option linter.unusedSimpArgs false
theorem chg_cell {S : Nat → Prop} {w w1 : World} (hc : Chg S w w1) {p : Addr} (hb : p.block < w.heap.size) (hn : ¬ S p.block) : w1.cell? p = w.cell? p := by
  simp only [World.cell?, hc.block p.block hb hn]
theorem RdX.keep {S : Nat → Prop} {w w1 : World} {A : Option Addr} {ys : List S34} (h : RdX w A ys) (hc : Chg S w w1) (hn : ∀ b o, A = some ⟨b, o, none⟩ → ¬ S b) : RdX w1 A ys := fun hp => by
  obtain ⟨b, o, e, hbs, hcs⟩ := h hp
  refine ⟨b, o, e, Nat.lt_of_lt_of_le hbs hc.size, fun i hi => ?_⟩
  obtain ⟨a0, a1, a2, a3⟩ := hcs i hi
  have n := hn b o e
  exact ⟨(chg_cell hc (p := ⟨b, o + i * 4, none⟩) hbs n).trans a0, (chg_cell hc (p := ⟨b, o + i * 4 + 1, none⟩) hbs n).trans a1, (chg_cell hc (p := ⟨b, o + i * 4 + 2, none⟩) hbs n).trans a2, (chg_cell hc (p := ⟨b, o + i * 4 + 3, none⟩) hbs n).trans a3⟩
theorem ord_zero {x y : S34} : ord x y = 0 ↔ x.f1 = y.f1 ∧ x.f2 = y.f2 := by
  unfold ord
  (repeat' split) <;> omega
theorem ins_mem {x y : S34} {L : List S34} : y ∈ ins x L ↔ y = x ∨ y ∈ L := by
  unfold ins ahead behind
  simp only [List.mem_append, List.mem_cons, List.mem_filter]
  cases decide (ord y x < 0) <;> simp <;> constructor <;> intro h <;> rcases h with h | h <;> simp [h]
theorem ins_len {x : S34} {L : List S34} : (ins x L).length = L.length + 1 := by
  unfold ins ahead behind
  have h : (L.filter (fun y => decide (ord y x < 0))).length + (L.filter (fun y => !decide (ord y x < 0))).length = L.length := by
    induction L with
    | nil => rfl
    | cons y r ih =>
      rw [List.filter_cons, List.filter_cons]
      cases decide (ord y x < 0) <;> simp <;> omega
  simp only [List.length_append, List.length_cons]
  omega
theorem insAll_snoc (L xs : List S34) (x : S34) : insAll L (xs ++ [x]) = ins x (insAll L xs) := by simp [insAll]
theorem insAll_mem {xs : List S34} : ∀ {L : List S34} {y : S34}, y ∈ insAll L xs ↔ y ∈ L ∨ y ∈ xs := by
  induction xs with
  | nil => intro L y; simp [insAll]
  | cons x r ih =>
    intro L y
    have e : insAll L (x :: r) = insAll (ins x L) r := rfl
    rw [e, ih, ins_mem, List.mem_cons]
    constructor
    · rintro ((h | h) | h)
      · exact .inr (.inl h)
      · exact .inl h
      · exact .inr (.inr h)
    · rintro (h | h | h)
      · exact .inl (.inr h)
      · exact .inl (.inl h)
      · exact .inr h
theorem insAll_len {xs : List S34} : ∀ {L : List S34}, (insAll L xs).length = L.length + xs.length := by
  induction xs with
  | nil => intro L; rfl
  | cons x r ih =>
    intro L
    have e : insAll L (x :: r) = insAll (ins x L) r := rfl
    rw [e, ih, ins_len, List.length_cons]
    omega
theorem twi_ok {L : List S34} : ∀ {xs S : List S34}, twi L S xs = false → (∀ x ∈ xs, seen x S = false ∧ hasB x L = false) ∧ xs.Pairwise (fun a b => ord a b ≠ 0) := by
  intro xs
  induction xs with
  | nil => intro S _; exact ⟨(fun x hx => by cases hx), List.Pairwise.nil⟩
  | cons x r ih =>
    intro S h
    rw [twi, Bool.or_eq_false_iff, Bool.or_eq_false_iff] at h
    obtain ⟨⟨h1, h2⟩, h3⟩ := h
    obtain ⟨i1, i2⟩ := ih h3
    refine ⟨fun y hy => ?_, List.pairwise_cons.2 ⟨fun y hy e => ?_, i2⟩⟩
    · rcases List.mem_cons.1 hy with rfl | hy
      · exact ⟨h1, h2⟩
      · have := (i1 y hy).1
        unfold seen at this ⊢
        rw [List.any_append, Bool.or_eq_false_iff] at this
        exact ⟨this.1, (i1 y hy).2⟩
    · have := (i1 y hy).1
      unfold seen at this
      rw [List.any_append, Bool.or_eq_false_iff] at this
      have h4 := this.2
      have e := ord_zero.1 e
      simp [e.1, e.2] at h4
theorem hasB_no {x : S34} {L : List S34} (h : hasB x L = false) : ∀ y ∈ L, ord x y ≠ 0 := fun y hy e => by
  unfold hasB at h
  have := List.any_eq_false.1 h y hy
  simp [e] at this
theorem twi_next {L xs : List S34} (h : twi L [] xs = false) {k : Nat} (hk : k < xs.length) : ∀ y ∈ insAll L (xs.take k), ord (xs.getD k z34) y ≠ 0 := by
  obtain ⟨h1, h2⟩ := twi_ok h
  have hx : xs.getD k z34 ∈ xs := by rw [List.getD_eq_getElem?_getD, List.getElem?_eq_getElem hk]; exact List.getElem_mem hk
  intro y hy
  rcases insAll_mem.1 hy with hy | hy
  · exact hasB_no (h1 _ hx).2 y hy
  · intro e
    have e2 : xs = xs.take k ++ xs.getD k z34 :: xs.drop (k + 1) := by
      conv => lhs; rw [← List.take_append_drop k xs]
      rw [dropX_cons hk]
    rw [e2] at h2
    refine (List.pairwise_append.1 h2).2.2 y hy _ (List.mem_cons_self ..) ?_
    rw [ord_anti, e]
    rfl
theorem imays_ok : ∀ {xs : List S34} {s : Int}, 0 ≤ s → imays s xs = true → ∀ x ∈ xs, imay x = true ∧ x.f0 = s := by
  intro xs
  induction xs with
  | nil => intro s _ _ x hx; cases hx
  | cons y r ih =>
    intro s hs h x hx
    rw [imays, Bool.and_eq_true_iff, Bool.and_eq_true_iff] at h
    have h0 : y.f0 = s := by
      have := h.1.2
      rw [Bool.or_eq_true_iff] at this
      rcases this with h | h
      · exact absurd (of_decide_eq_true h) (by omega)
      · simpa using h
    rcases List.mem_cons.1 hx with rfl | hx
    · exact ⟨h.1.1, h0⟩
    · exact ih hs (h0 ▸ h.2) x hx
theorem imay_ser {x : S34} (h : imay x = true) : 0 ≤ x.f0 := (of_decide_eq_true h).1
def One1 (L : List S34) : Prop := ∃ s, ∀ x ∈ L, imay x = true ∧ x.f0 = s
theorem imays_all {bs : List Int} {t : PT} {L xs : List S34} (k : TOk bs t L) (hL : One1 L) (h : imays t.ser xs = true) : One1 (L ++ xs) := by
  cases t with
  | nil =>
    have e : L = [] := k
    subst e
    cases xs with
    | nil => exact hL
    | cons x r =>
      have h := h
      rw [imays, Bool.and_eq_true_iff, Bool.and_eq_true_iff] at h
      refine ⟨x.f0, fun y hy => ?_⟩
      rcases List.mem_cons.1 hy with rfl | hy
      · exact ⟨h.1.1, rfl⟩
      · exact imays_ok (imay_ser h.1.1) h.2 y hy
  | node b x o ov a av m q l r =>
    obtain ⟨L1, L2, e, -⟩ := k
    obtain ⟨s, hs⟩ := hL
    have hx := hs x (by rw [e]; simp)
    have h : imays x.f0 xs = true := h
    refine ⟨s, fun y hy => ?_⟩
    rcases List.mem_append.1 hy with hy | hy
    · exact hs y hy
    · have := imays_ok (imay_ser hx.1) h y hy
      exact ⟨this.1, this.2.trans hx.2⟩
theorem One1.sub {L M : List S34} (h : One1 L) (hm : ∀ x ∈ M, x ∈ L) : One1 M := by
  obtain ⟨s, hs⟩ := h
  exact ⟨s, fun x hx => hs x (hm x hx)⟩
theorem TI.join {w0 w w1 : World} {F : Nat → Prop} {g : Nat} {bv : Value} {bs : List Int} {t u : PT} {L M : List S34} (h : TI w0 w F g bv bs t L) (k : TI w w1 (fun i => i ∈ t.blks ∨ i ∈ t.hbs) g bv bs u M) : TI w0 w1 F g bv bs u M :=
  ⟨k.hg, k.bo, k.tr, k.ok, k.nd, k.srt, fun i hi => (k.fr i hi).elim (fun h1 => h.fr i h1) (fun h1 => .inr (Nat.le_trans h.chg.size h1)), h.chg.trans k.chg (fun i hi hs => hs.elim .inl (fun h1 => (h.fr i h1).elim .inr (fun h2 => absurd hi (by omega))))⟩
set_option maxHeartbeats 8000000 in
set_option maxRecDepth 100000 in
theorem tins_form {w0 w : World} {F : Nat → Prop} {g : Nat} {bv : Value} {bs : List Int} {t : PT} {L : List S34} (hT : TI w0 w F g bv bs t L) (xs : List S34) (A : Option Addr) (c : Nat) (hr : RdX w A xs) (hl : xs.length ≤ 17592186044415) (hL : L.length ≤ 8192)
    (hbad : (imays t.ser xs && decide ((L.length : Int) + xs.length ≤ 8192)) = false) :
    Calls Try.prog 34 #[.pointer (some ⟨g, 0, none⟩), .slice A xs.length c] w fun e w' => e = .returned (.int .i64 1900) ∧ Below w.heap.size w w' := by
  have HT := Lib.hid hT
  have HR := Lib.hid hr
  have HBD := Lib.hid hbad
  clear hT hr hbad
  go_enter Try.func34, Try.ntmps34
  go_wp2_with fail
  refine (tmay_any t L xs A c HT.out.hg HT.out.tr HT.out.ok hL HR.out hl).mono ?_
  rintro e w1 ⟨rfl, hb⟩
  have HB1 := Lib.hid hb
  rw [HBD.out]
  clear hb
  go_wp2_with fail
  go_ret
  exact ⟨rfl, HB1.out⟩
set_option maxHeartbeats 8000000 in
set_option maxRecDepth 100000 in
theorem tins_twice {w0 w : World} {F : Nat → Prop} {g : Nat} {bv : Value} {bs : List Int} {t : PT} {L : List S34} (hT : TI w0 w F g bv bs t L) (xs : List S34) (A : Option Addr) (c : Nat) (hr : RdX w A xs) (hl : xs.length ≤ 17592186044415) (hL : L.length ≤ 8192) (h1 : One1 L)
    (hmay : (imays t.ser xs && decide ((L.length : Int) + xs.length ≤ 8192)) = true) (htw : twi L [] xs = true) :
    Calls Try.prog 34 #[.pointer (some ⟨g, 0, none⟩), .slice A xs.length c] w fun e w' => e = .returned (.int .i64 1901) ∧ Below w.heap.size w w' := by
  have HT := Lib.hid hT
  have HR := Lib.hid hr
  have HMY := Lib.hid hmay
  have HTW := Lib.hid htw
  have h12 := (Bool.and_eq_true_iff.1 hmay)
  have hle : xs.length ≤ 8192 := by have := of_decide_eq_true h12.2; omega
  obtain ⟨s, hs⟩ := imays_all hT.ok h1 h12.1
  have HM := Lib.hid (fun x (hx : x ∈ xs) => (hs x (List.mem_append_right _ hx)).1)
  clear hT hr hmay h1 hs h12 htw
  go_enter Try.func34, Try.ntmps34
  go_wp2_with fail
  refine (tmay_any t L xs A c HT.out.hg HT.out.tr HT.out.ok hL HR.out hl).mono ?_
  rintro e w1 ⟨rfl, hb⟩
  have HB1 := Lib.hid hb
  rw [HMY.out]
  clear hb
  go_wp2_with fail
  refine (twice_any t L xs A c (blk_below HT.out.hg HB1.out) (HT.out.tr.below HB1.out) HT.out.ok HT.out.srt (HR.out.below HB1.out) hle HM.out).mono ?_
  rintro e w2 ⟨rfl, hb⟩
  rw [HTW.out]
  have HB2 := Lib.hid (HB1.out.trans (hb.mono HB1.out.size))
  clear hb
  go_wp2_with fail
  go_ret
  exact ⟨rfl, HB2.out⟩
end Go.Proofs.Ytfgabafbcephaaa.My

namespace Go.Proofs.Ytfgabafbcephaaa.My
open Go.RowKit Pa Go.Proofs.YtfgabafbcephaaaW.PrintWords
set_option linter.unusedSimpArgs false
set_option maxHeartbeats 16000000 in
set_option maxRecDepth 100000 in
theorem tins_self {w : World} {g : Nat} {bv : Value} {bs : List Int} {t : PT} {L : List S34} (hT : TI w w (fun i => i ∈ t.blks ∨ i ∈ t.hbs) g bv bs t L) (xs : List S34) (A : Option Addr) (c : Nat) (hr : RdX w A xs) (hl : xs.length ≤ 17592186044415) (hL : L.length ≤ 8192) (h1 : One1 L) (hbm : bmay bs = true)
    (hmay : (imays t.ser xs && decide ((L.length : Int) + xs.length ≤ 8192)) = true) (htw : twi L [] xs = false) (hn : ∀ b o, A = some ⟨b, o, none⟩ → ¬ (b = g ∨ b ∈ t.blks ∨ b ∈ t.hbs)) :
    Calls Try.prog 34 #[.pointer (some ⟨g, 0, none⟩), .slice A xs.length c] w fun e w' => e = .returned (.int .i64 0) ∧ ∃ u, TI w w' (fun i => i ∈ t.blks ∨ i ∈ t.hbs) g bv bs u (insAll L xs) := by
  have HT := Lib.hid hT
  have HR := Lib.hid hr
  have HMY := Lib.hid hmay
  have HTW := Lib.hid htw
  have h12 := (Bool.and_eq_true_iff.1 hmay)
  have hle : L.length + xs.length ≤ 8192 := by have := of_decide_eq_true h12.2; omega
  have HLE := Lib.hid hle
  have hall := imays_all hT.ok h1 h12.1
  have HALL := Lib.hid hall
  obtain ⟨s, hs⟩ := hall
  have HM := Lib.hid (fun x (hx : x ∈ xs) => (hs x (List.mem_append_right _ hx)).1)
  have HS := Lib.hid hs
  have HN := Lib.hid hn
  have HBM := Lib.hid hbm
  clear hT hr hmay h1 hs h12 htw hn hbm
  go_enter Try.func34, Try.ntmps34
  go_wp2_with fail
  refine (tmay_any t L xs A c HT.out.hg HT.out.tr HT.out.ok hL HR.out hl).mono ?_
  rintro e w1 ⟨rfl, hb⟩
  have HB1 := Lib.hid hb
  rw [HMY.out]
  clear hb
  go_wp2_with fail
  refine (twice_any t L xs A c (blk_below HT.out.hg HB1.out) (HT.out.tr.below HB1.out) HT.out.ok HT.out.srt (HR.out.below HB1.out) (by omega) HM.out).mono ?_
  rintro e w2 ⟨rfl, hb⟩
  rw [HTW.out]
  have HB2 := Lib.hid (HB1.out.trans (hb.mono HB1.out.size))
  clear hb
  go_wp2_with fail
  clear hle
  go_loopw [25] (fun i wr => ∃ (k : Nat) (u : PT), i = .int .i64 k ∧ k ≤ xs.length ∧ TI w wr (fun i => i ∈ t.blks ∨ i ∈ t.hbs) g bv bs u (insAll L (xs.take k))) (fun i _ => xs.length - (intOf i).toNat)
  case atStart => exact ⟨0, t, rfl, by omega, HT.out.below HB2.out⟩
  case round =>
    obtain ⟨k, u, rfl, hk, hti⟩ := hrel
    have HI := Lib.hid hti
    clear hti
    by_cases hlt : k < xs.length
    · have hnx := twi_next HTW.out hlt
      have hrx := HR.out.keep HI.out.chg HN.out
      obtain ⟨b, o, hA, hbs, hcells⟩ := hrx (by omega)
      subst hA
      obtain ⟨c0, c1, c2, c3⟩ := hcells k hlt
      unfold atX at c0 c1 c2 c3
      have HTK := Lib.hid (show insAll L (xs.take (k + 1)) = ins (xs.getD k z34) (insAll L (xs.take k)) from by
        rw [← insAll_snoc, List.take_add_one, List.getElem?_eq_getElem hlt, List.getD_eq_getElem?_getD, List.getElem?_eq_getElem hlt]
        rfl)
      have hxm : xs.getD k z34 ∈ xs := by rw [List.getD_eq_getElem?_getD, List.getElem?_eq_getElem hlt]; exact List.getElem_mem hlt
      have hgd : Gd bs s (its bs (ins (xs.getD k z34) (insAll L (xs.take k)))) := gd_of HBM.out (fun y hy => by
        rcases ins_mem.1 hy with rfl | hy
        · exact HS.out _ (List.mem_append_right _ hxm)
        · rcases insAll_mem.1 hy with hy | hy
          · exact HS.out _ (List.mem_append_left _ hy)
          · exact HS.out _ (List.mem_append_right _ (List.mem_of_mem_take hy))) (by
        rw [ins_len, insAll_len, List.length_take]
        have := HLE.out
        omega)
      have hgm : Gd bs s (its bs (insAll L (xs.take k))) := gd_of HBM.out (fun y hy => by
        rcases insAll_mem.1 hy with hy | hy
        · exact HS.out _ (List.mem_append_left _ hy)
        · exact HS.out _ (List.mem_append_right _ (List.mem_of_mem_take hy))) (by
        rw [insAll_len, List.length_take]
        have := HLE.out
        omega)
      have HGD := Lib.hid (And.intro hgd hgm)
      have HNX := Lib.hid hnx
      have HXM := Lib.hid (HM.out _ hxm)
      clear hgd hgm hnx hxm hrx hcells
      generalize xs.getD k z34 = x at *
      generalize insAll L (xs.take k) = M at *
      obtain ⟨A0, d0, rfl, hd0, hrd0⟩ := HI.out.bo.reads
      have HD := Lib.hid (And.intro hd0 hrd0)
      have hal : Below wr.heap.size wr (wr.alloc (itO x)) := (Below.refl wr.heap.size wr).alloc (Nat.le_refl _) _
      have hv : (wr.alloc (itO x)).heap[wr.heap.size]? = some (itO x) := heap_alloc_new wr _
      obtain ⟨a0, a1, a2, a3, al⟩ := itO_facts hv
      have hI2 := HI.out.below hal
      obtain ⟨g0, g1, gl⟩ := tO_facts hI2.hg
      have HV := Lib.hid hv
      have HI1 := Lib.hid hI2
      have HAL := Lib.hid hal
      clear hal hv hI2 hd0 hrd0
      unfold itO at a0 a1 a2 a3 al g0 g1 gl
      go_wp2_with fail
      show Code.wp _ _ _ _ (wr.alloc (itO x))
      have HXB := Lib.hid (Nat.le_trans HI.out.chg.size (Nat.le_refl wr.heap.size))
      have HRD := Lib.hid (RdI.below HD.out.2 HAL.out)
      clear HI HAL c0 c1 c2 c3 a0 a1 a2 a3 al g0 g1 gl
      generalize wr.heap.size = xb at HV HXB ⊢
      generalize wr.alloc (itO x) = w3 at *
      obtain ⟨a0, a1, a2, a3, al⟩ := itO_facts HV.out
      obtain ⟨g0, g1, gl⟩ := tO_facts HI1.out.hg
      refine Txt.wp_region_mix (by kernel_rfl) (by kernel_rfl) (fun HB => ?_)
      repeat (first
        | (refine Txt.mix_p (by rfl) rfl rfl (fun K hK => ?_); go_big_quiet_op; refine hK _ ?_; clear hK K)
        | (refine Txt.mix_re (by rfl) (by decide +kernel) (by rfl) (by rfl) (by go_simp) HB (fun K hK => ?_); go_big_quiet_op; refine hK _ ?_; clear hK K)
        | (refine Txt.mix_rl (by rfl) (by decide +kernel) (by rfl) (by rfl) (by go_simp) HB (fun K hK => ?_); go_big_quiet_op; refine hK _ ?_; clear hK K)
        | (refine Txt.mix_pass (by rfl) (by rfl) ?_; simp only [List.set_cons_succ, List.set_cons_zero]))
      refine Txt.mix_c (by rfl) (by decide +kernel) HB ?_
      intro w4 hw4 K hK
      replace HB := HB.trans hw4
      clear hw4
      go_wp2_with fail
      refine (one_any x bs A0 d0 _ (RdI.below HRD.out HB.undrew) HD.out.1).mono ?_
      rintro e w5 ⟨v, rfl, how, hb⟩
      refine hK _ _ ⟨hb, ?_⟩
      obtain ⟨p, hpe⟩ : ∃ p, p = one x bs := ⟨_, rfl⟩
      rw [show oneRes x bs = (p, 0) from by unfold oneRes; rw [HXM.out, HBM.out, hpe]; rfl] at how ⊢
      have HON := Lib.hid hpe
      have HO := Lib.hid (show Own w5 0 v p.f6 from own_zero how)
      have HOB := Lib.hid (fun k (hk : v.ownBlock = some k) => Nat.le_trans HB.undrew.size (own_base how k hk))
      obtain ⟨A2, c2, rfl, _, _⟩ := how.reads
      replace HB := HB.trans hb
      clear hK K hb how hpe
      simp only [acV]
      repeat (first
        | (refine Txt.mix_p (by rfl) rfl rfl (fun K hK => ?_); go_big_quiet_op; refine hK _ ?_; clear hK K)
        | (refine Txt.mix_re (by rfl) (by decide +kernel) (by rfl) (by rfl) (by go_simp) HB (fun K hK => ?_); go_big_quiet_op; refine hK _ ?_; clear hK K)
        | (refine Txt.mix_rl (by rfl) (by decide +kernel) (by rfl) (by rfl) (by go_simp) HB (fun K hK => ?_); go_big_quiet_op; refine hK _ ?_; clear hK K)
        | (refine Txt.mix_pass (by rfl) (by rfl) ?_; simp only [List.set_cons_succ, List.set_cons_zero]))
      refine Txt.mix_m (fun g => .pointer (some ⟨g, 0, none⟩)) (acO z36 (.slice none 0 0)) (by rfl) (by decide +kernel) (fun w1 => by unfold acO; go_simp; rfl) HB ?_
      intro rb w7 hb7 hg7 ho7
      replace HB := HB.trans hb7
      have HRB := Lib.hid (show w3.heap.size ≤ rb from hg7)
      replace HO := Lib.hid (Own.below HO.out hb7)
      clear hb7 hg7
      simp only [Act.put, List.setIfInBounds_toArray, List.set_cons_succ, List.set_cons_zero]
      repeat (first
        | (refine Txt.mix_p (by rfl) rfl rfl (fun K hK => ?_); go_big_quiet_op; refine hK _ ?_; clear hK K)
        | (refine Txt.mix_re (by rfl) (by decide +kernel) (by rfl) (by rfl) (by go_simp) HB (fun K hK => ?_); go_big_quiet_op; refine hK _ ?_; clear hK K)
        | (refine Txt.mix_rl (by rfl) (by decide +kernel) (by rfl) (by rfl) (by go_simp) HB (fun K hK => ?_); go_big_quiet_op; refine hK _ ?_; clear hK K)
        | (refine Txt.mix_pass (by rfl) (by rfl) ?_; simp only [List.set_cons_succ, List.set_cons_zero]))
      refine Txt.mix_a (by rfl) (by decide +kernel) (fun K hK => ?_)
      obtain ⟨z0, z1, z2, z3, z4, z5, z6, z7, z8, z9, z10, z11, z12, zl⟩ := acO_facts ho7
      have hf := fun j => blk_free ho7 j
      go_wp2_with fail
      clear z0 z1 z2 z3 z4 z5 z6 z7 z8 z9 z10 z11 z12 zl hf
      show Txt.wpMix _ _ _ _ _ _ _ (putA w7 rb p (.slice A2 p.f6.length c2))
      have hch := putA_chg w7 rb p (.slice A2 p.f6.length c2)
      have HP := Lib.hid (putA_blk ho7 (a := p) (v := .slice A2 p.f6.length c2))
      have HB8 := Lib.hid (show Below w3.heap.size w3 (putA w7 rb p (.slice A2 p.f6.length c2)) from Chg.base HB.undrew hch HB.undrew.size (fun i hi => by rw [show i = rb from hi]; exact HRB.out))
      replace HO := Lib.hid (HO.out.keep hch (fun k hk e => row_noq HO.out ho7 (by decide) (by rw [hk, show k = rb from e])))
      clear HB hch ho7
      generalize putA w7 rb p (.slice A2 p.f6.length c2) = w8 at *
      repeat (first
        | (refine Txt.mix_p (by rfl) rfl rfl (fun K hK => ?_); go_big_quiet_op; refine hK _ ?_; clear hK K)
        | (refine Txt.mix_re (by rfl) (by decide +kernel) (by rfl) (by rfl) (by go_simp) HB (fun K hK => ?_); go_big_quiet_op; refine hK _ ?_; clear hK K)
        | (refine Txt.mix_rl (by rfl) (by decide +kernel) (by rfl) (by rfl) (by go_simp) HB (fun K hK => ?_); go_big_quiet_op; refine hK _ ?_; clear hK K)
        | (refine Txt.mix_pass (by rfl) (by rfl) ?_; simp only [List.set_cons_succ, List.set_cons_zero]))
      refine Txt.mix_nil ?_
      have HI8 := Lib.hid (HI1.out.below HB8.out)
      have HV8 := Lib.hid (blk_below HV.out HB8.out)
      have HSW := Lib.hid HI1.out.chg.size
      clear HI1 HV a0 a1 a2 a3 al g0 g1 gl
      obtain ⟨g0, g1, gl⟩ := tO_facts HI8.out.hg
      go_wp2_with fail
      refine (split_any (tells_insert xb x) u M (ahead x M) (behind x M) w8 HI8.out.hg HI8.out.bo HV8.out HI8.out.tr HI8.out.nd HI8.out.ok HGD.out.2 (ins_cut HI8.out.srt) (fun y hy => decide_eq_true (ahead_ok hy).2) (fun y hy => decide_eq_false (behind_ok hy).2)).mono ?_
      rintro e w9 ⟨t1, t2, rfl, hp, k1, k2⟩
      have hxO : ∀ cs, itO x ≠ .cells cs 108 (0, 0) := (tells_insert 0 x).far
      have hg9 := far_obj HI8.out.hg (tO_far _ _) HI8.out.tr hp.chg (fun i hi => hi)
      have hv9 := far_obj HV8.out hxO HI8.out.tr hp.chg (fun i hi => hi)
      have hp9 := far_obj HP.out (fun cs e => by unfold acO at e; injection e with _ e; exact absurd e (by decide)) HI8.out.tr hp.chg (fun i hi => hi)
      have hbo9 := HI8.out.tr.hist HI8.out.bo hp.chg (fun i hi => hi)
      have ho9 := HI8.out.tr.hist HO.out hp.chg (fun i hi => hi)
      have G9 := Lib.hid (And.intro hg9 hbo9)
      have V9 := Lib.hid hv9
      have P9 := Lib.hid hp9
      have O9 := Lib.hid ho9
      have SP := Lib.hid hp
      have KK := Lib.hid (And.intro k1 k2)
      obtain ⟨B1, hB1⟩ := t1.ptr_form
      obtain ⟨B2, hB2⟩ := t2.ptr_form
      have HBB := Lib.hid (And.intro hB1 hB2)
      rw [hB1, hB2]
      clear hp k1 k2 hg9 hv9 hp9 hbo9 ho9 hB1 hB2 g0 g1 gl hxO HO HP HV8
      go_wp2_with fail
      obtain ⟨a0, a1, a2, a3, al⟩ := itO_facts V9.out
      obtain ⟨z0, z1, z2, z3, z4, z5, z6, z7, z8, z9, z10, z11, z12, zl⟩ := acO_facts P9.out
      obtain ⟨g0, g1, gl⟩ := tO_facts G9.out.1
      refine Txt3.wp_region_mix (V := [(10, .a), (11, .a), (13, .a)]) (S := fun _ => False) (by kernel_rfl) (by kernel_rfl) (fun HB => ?_)
      repeat (first
        | (refine Txt3.mix_p (by rfl) rfl (by decide +kernel) (fun K hK => ?_); go_big_quiet_op; refine hK _ ?_; clear hK K)
        | (refine Txt3.mix_re (by rfl) (by decide +kernel) (by rfl) (by rfl) (by go_simp) (by first | exact HS1.out | exact HS2.out | exact id) HB (fun K hK => ?_); go_big_quiet_op; refine hK _ ?_; clear hK K)
        | (refine Txt3.mix_r (by rfl) (by decide) (by decide +kernel) (fun K hK => ?_); go_big_quiet_op; refine hK _ ?_; clear hK K)
        | (refine Txt3.mix_pass (by rfl) (by rfl) ?_; simp only [List.set_cons_succ, List.set_cons_zero]))
      refine Txt3.mix_c (by rfl) (by decide +kernel) HB ?_
      intro w10 hw10 K hK
      have hb10 : Below w9.heap.size w9 w10 := Txt.Bw.undrew hw10
      replace HB := HB.then_ hw10
      clear hw10
      go_wp2_with fail
      refine (lot_any (blk_below V9.out hb10)).mono ?_
      rintro e w11 ⟨q, rfl, q0, q1, hb⟩
      refine hK _ _ ⟨hb, ?_⟩
      have HB11 := Lib.hid (hb10.trans (hb.mono hb10.size))
      have HQ := Lib.hid (And.intro q0 q1)
      replace HB := HB.then_ hb
      clear hK K hb hb10 q0 q1
      repeat (first
        | (refine Txt3.mix_p (by rfl) rfl (by decide +kernel) (fun K hK => ?_); go_big_quiet_op; refine hK _ ?_; clear hK K)
        | (refine Txt3.mix_re (by rfl) (by decide +kernel) (by rfl) (by rfl) (by go_simp) (by first | exact HS1.out | exact HS2.out | exact id) HB (fun K hK => ?_); go_big_quiet_op; refine hK _ ?_; clear hK K)
        | (refine Txt3.mix_r (by rfl) (by decide) (by decide +kernel) (fun K hK => ?_); go_big_quiet_op; refine hK _ ?_; clear hK K)
        | (refine Txt3.mix_pass (by rfl) (by rfl) ?_; simp only [List.set_cons_succ, List.set_cons_zero]))
      refine Txt3.mix_m (fun g => .pointer (some ⟨g, 0, none⟩)) (nO x p (.slice A2 p.f6.length c2) z36 (.slice none 0 0) 0 q (.pointer none) (.pointer none)) (by rfl) (by decide +kernel) (fun w1 => by unfold nO z36 z34; go_simp) HB ?_
      intro pb w12 hb12 hg12 ho12
      have HB12 := Lib.hid (HB11.out.trans (hb12.mono HB11.out.size))
      have HPB := Lib.hid (show w9.heap.size ≤ pb from hg12)
      have N12 := Lib.hid (show TrAt w12 (.node pb x p (.slice A2 p.f6.length c2) z36 (.slice none 0 0) 0 q .nil .nil) from ⟨ho12, Own.below O9.out HB12.out, Own.nil _ _, trivial, trivial⟩)
      clear HB hb12 hg12 ho12 HB11
      simp only [Act.put, List.setIfInBounds_toArray, List.set_cons_succ, List.set_cons_zero]
      repeat (first
        | (refine Txt3.mix_p (by rfl) rfl (by decide +kernel) (fun K hK => ?_); go_big_quiet_op; refine hK _ ?_; clear hK K)
        | (refine Txt3.mix_re (by rfl) (by decide +kernel) (by rfl) (by rfl) (by go_simp) (by first | exact HS1.out | exact HS2.out | exact id) HB (fun K hK => ?_); go_big_quiet_op; refine hK _ ?_; clear hK K)
        | (refine Txt3.mix_r (by rfl) (by decide) (by decide +kernel) (fun K hK => ?_); go_big_quiet_op; refine hK _ ?_; clear hK K)
        | (refine Txt3.mix_pass (by rfl) (by rfl) ?_; simp only [List.set_cons_succ, List.set_cons_zero]))
      refine Txt3.mix_a (by rfl) (by decide +kernel) (fun K hK => ?_)
      go_wp2_with fail
      have hren := renew_any (blk_below G9.out.1 HB12.out) (Own.below G9.out.2 HB12.out) N12.out (by simp [PT.blks]) (by simp [PT.blks]) (by simp [PT.size]) (by simp [PT.size])
      refine hren.mono ?_
      clear hren
      rintro e w13 ⟨av1, rfl, ht13, hav1, hc13⟩
      have hkn : TOk bs (.node pb x p (.slice A2 p.f6.length c2) (allN bs p .nil .nil) av1 (PT.nil.size + 1 + PT.nil.size) q .nil .nil) [x] := by
        have hgx : Gd bs s (its bs ([] ++ x :: [])) := by
          have := HGD.out.1
          unfold ins at this
          exact gd_left (L := [x]) (M := behind x M) (gd_right (L := ahead x M) this)
        refine ⟨[], [], rfl, rfl, rfl, HON.out, ?_, by simp [PT.size], HQ.out.1, HQ.out.2⟩
        rw [HON.out]
        exact allN_ok (l := .nil) (r := .nil) rfl rfl hgx
      have HSZ := Lib.hid (And.intro (show w9.heap.size ≤ w12.heap.size from HB12.out.size) hc13.size)
      have hl1 := SP.out.a1.lt
      have hl2 := SP.out.a2.lt
      have hgl := blk_lt G9.out.1
      have hpb := HPB.out
      have hg13 := hc13.obj (blk_below G9.out.1 HB12.out) (fun e => by have e : g = pb := e; omega)
      have hbo13 := (Own.below G9.out.2 HB12.out).keep hc13 (fun k hk e => by have e : k = pb := e; have := own_lt G9.out.2 k hk; omega)
      have ht1 := (SP.out.a1.below HB12.out).keep hc13 (fun i hi e => by have e : i = pb := e; have := hl1.1 i hi; omega) (fun i hi e => by have e : i = pb := e; have := hl1.2 i hi; omega)
      have ht2 := (SP.out.a2.below HB12.out).keep hc13 (fun i hi e => by have e : i = pb := e; have := hl2.1 i hi; omega) (fun i hi e => by have e : i = pb := e; have := hl2.2 i hi; omega)
      have hn12 : (t1.blks ++ t2.blks).Nodup := SP.out.perm.nodup_iff.2 HI8.out.nd
      have hnp1 : pb ∉ t1.blks := fun hi => by have := hl1.1 pb hi; omega
      have hnp2 : pb ∉ t2.blks := fun hi => by have := hl2.1 pb hi; omega
      have HND := Lib.hid (And.intro hn12 (And.intro hnp1 hnp2))
      have G13 := Lib.hid (And.intro hg13 hbo13)
      have T13 := Lib.hid (And.intro ht1 (And.intro ht2 ht13))
      have HKN := Lib.hid hkn
      have HAV := Lib.hid hav1
      have HC13 := Lib.hid hc13
      clear hl1 hl2 hgl hpb hg13 hbo13 ht1 ht2 hn12 hnp1 hnp2 ht13 hkn hav1 hc13 N12
      obtain ⟨nd, hnd⟩ : ∃ nd : PT, nd = .node pb x p (.slice A2 p.f6.length c2) (allN bs p .nil .nil) av1 (PT.nil.size + 1 + PT.nil.size) q .nil .nil := ⟨_, rfl⟩
      have HNP := Lib.hid (show nd.ptr = .pointer (some ⟨pb, 0, none⟩) ∧ nd.blks = [pb] ∧ nd.hbs = (Value.slice A2 p.f6.length c2).ownBlock.toList ++ av1.ownBlock.toList from by subst hnd; exact ⟨rfl, rfl, by simp [PT.hbs]⟩)
      rw [← hnd] at T13 HKN
      simp only
      refine hK _ _ ?_
      clear hK K hnd
      repeat (first
        | (refine Txt3.mix_p (by rfl) rfl (by decide +kernel) (fun K hK => ?_); go_big_quiet_op; refine hK _ ?_; clear hK K)
        | (refine Txt3.mix_re (by rfl) (by decide +kernel) (by rfl) (by rfl) (by go_simp) (by first | exact HS1.out | exact HS2.out | exact id) HB (fun K hK => ?_); go_big_quiet_op; refine hK _ ?_; clear hK K)
        | (refine Txt3.mix_r (by rfl) (by decide) (by decide +kernel) (fun K hK => ?_); go_big_quiet_op; refine hK _ ?_; clear hK K)
        | (refine Txt3.mix_pass (by rfl) (by rfl) ?_; simp only [List.set_cons_succ, List.set_cons_zero]))
      refine Txt3.mix_a (by rfl) (by decide +kernel) (fun K hK => ?_)
      go_wp2_with fail
      have hm := merge_any (g := g) (bv := .slice A0 bs.length d0) (rv := u.ptr) (bs := bs) (s := s) (t1.cnt + nd.cnt) t1 nd (ahead x M) [x] w13 (Nat.le_refl _) G13.out.1 G13.out.2 T13.out.1 T13.out.2.2 (by
        rw [HNP.out.2.1]
        refine List.nodup_append.2 ⟨(List.nodup_append.1 HND.out.1).1, by simp, fun a ha b hb e => ?_⟩
        rw [List.mem_singleton.1 hb] at e
        exact HND.out.2.1 (e ▸ ha)) KK.out.1 HKN.out (by
        have := HGD.out.1
        unfold ins at this
        exact gd_left (M := behind x M) (by rw [List.append_assoc]; exact this))
      rw [HBB.out.1, HNP.out.1] at hm
      refine hm.mono ?_
      clear hm
      rintro e w14 ⟨t3, rfl, hmg, k3⟩
      have hpp : AllParts w13 (fun k => k ∈ t1.blks ∨ k ∈ nd.blks) := fun i hi => hi.elim (fun h => T13.out.1.kind.1 i h) (fun h => T13.out.2.2.kind.1 i h)
      have hg14 := obj_parts G13.out.1 (tO_far _ _) hmg.chg hpp
      have hbo14 := G13.out.2.parts hmg.chg hpp
      have ht14 := T13.out.2.1.parts hmg.chg hpp (fun i hi hs => hs.elim (fun h => (List.nodup_append.1 HND.out.1).2.2 i h i hi rfl) (fun h => by
        rw [HNP.out.2.1, List.mem_singleton] at h
        exact HND.out.2.2 (h ▸ hi)))
      have hnd14 : (t3.blks ++ t2.blks).Nodup := by
        have h1 : (t3.blks ++ t2.blks).Perm ((t1.blks ++ [pb]) ++ t2.blks) := (HNP.out.2.1 ▸ hmg.perm).append_right _
        refine h1.nodup_iff.2 ?_
        rw [List.append_assoc]
        refine (List.perm_middle (a := pb) (l₁ := t1.blks) (l₂ := t2.blks)).nodup_iff.2 (List.nodup_cons.2 ⟨fun h => ?_, HND.out.1⟩)
        exact (List.mem_append.1 h).elim HND.out.2.1 HND.out.2.2
      have G14 := Lib.hid (And.intro hg14 hbo14)
      have T14 := Lib.hid (And.intro ht14 hnd14)
      have MG := Lib.hid hmg
      have K3 := Lib.hid k3
      obtain ⟨B3, hB3⟩ := t3.ptr_form
      have HB3 := Lib.hid hB3
      rw [hB3]
      clear hpp hg14 hbo14 ht14 hnd14 hmg k3 hB3
      simp only
      refine hK _ _ ?_
      clear hK K
      repeat (first
        | (refine Txt3.mix_p (by rfl) rfl (by decide +kernel) (fun K hK => ?_); go_big_quiet_op; refine hK _ ?_; clear hK K)
        | (refine Txt3.mix_re (by rfl) (by decide +kernel) (by rfl) (by rfl) (by go_simp) (by first | exact HS1.out | exact HS2.out | exact id) HB (fun K hK => ?_); go_big_quiet_op; refine hK _ ?_; clear hK K)
        | (refine Txt3.mix_r (by rfl) (by decide) (by decide +kernel) (fun K hK => ?_); go_big_quiet_op; refine hK _ ?_; clear hK K)
        | (refine Txt3.mix_pass (by rfl) (by rfl) ?_; simp only [List.set_cons_succ, List.set_cons_zero]))
      refine Txt3.mix_a (by rfl) (by decide +kernel) (fun K hK => ?_)
      go_wp2_with fail
      have hm := merge_any (g := g) (bv := .slice A0 bs.length d0) (rv := u.ptr) (bs := bs) (s := s) (t3.cnt + t2.cnt) t3 t2 (ahead x M ++ [x]) (behind x M) w14 (Nat.le_refl _) G14.out.1 G14.out.2 MG.out.a T14.out.1 T14.out.2 K3.out KK.out.2 (by
        have := HGD.out.1
        unfold ins at this
        rw [List.append_assoc]
        exact this)
      rw [HBB.out.2, HB3.out] at hm
      refine hm.mono ?_
      clear hm
      rintro e w15 ⟨t4, rfl, hmg, k4⟩
      have hpp : AllParts w14 (fun k => k ∈ t3.blks ∨ k ∈ t2.blks) := fun i hi => hi.elim (fun h => MG.out.a.kind.1 i h) (fun h => T14.out.1.kind.1 i h)
      have hg15 := obj_parts G14.out.1 (tO_far _ _) hmg.chg hpp
      have hbo15 := G14.out.2.parts hmg.chg hpp
      have G15 := Lib.hid (And.intro hg15 hbo15)
      have MH := Lib.hid hmg
      have K4 := Lib.hid k4
      obtain ⟨B4, hB4⟩ := t4.ptr_form
      have HB4 := Lib.hid hB4
      rw [hB4]
      clear hpp hg15 hbo15 hmg k4 hB4
      simp only
      refine hK _ _ ?_
      clear hK K a0 a1 a2 a3 al z0 z1 z2 z3 z4 z5 z6 z7 z8 z9 z10 z11 z12 zl g0 g1 gl
      repeat (first
        | (refine Txt3.mix_p (by rfl) rfl (by decide +kernel) (fun K hK => ?_); go_big_quiet_op; refine hK _ ?_; clear hK K)
        | (refine Txt3.mix_re (by rfl) (by decide +kernel) (by rfl) (by rfl) (by go_simp) (by first | exact HS1.out | exact HS2.out | exact id) HB (fun K hK => ?_); go_big_quiet_op; refine hK _ ?_; clear hK K)
        | (refine Txt3.mix_r (by rfl) (by decide) (by decide +kernel) (fun K hK => ?_); go_big_quiet_op; refine hK _ ?_; clear hK K)
        | (refine Txt3.mix_pass (by rfl) (by rfl) ?_; simp only [List.set_cons_succ, List.set_cons_zero]))
      refine Txt3.mix_a (by rfl) (by decide +kernel) (fun K hK => ?_)
      obtain ⟨g0, g1, gl⟩ := tO_facts G15.out.1
      have hf := fun j => blk_free G15.out.1 j
      go_wp2_with fail
      clear g0 g1 gl hf
      show Txt3.wpMix _ _ _ _ _ _ _ _ _ (w15.setCell ⟨g, 1, none⟩ (.pointer B4))
      have HC16 := Lib.hid ((Chg.refl (fun k => k = g) w15).setCell (p := ⟨g, 1, none⟩) (.inl rfl) (.pointer B4))
      have HG16 := Lib.hid (show (w15.setCell ⟨g, 1, none⟩ (.pointer B4)).heap[g]? = some (tO (.slice A0 bs.length d0) (.pointer B4)) from by
        have h := blk_set G15.out.1 1 (.pointer B4)
        simp only [List.setIfInBounds_toArray, List.set_cons_zero, List.set_cons_succ] at h
        exact h)
      generalize w15.setCell ⟨g, 1, none⟩ (.pointer B4) = w16 at *
      repeat (first
        | (refine Txt3.mix_p (by rfl) rfl (by decide +kernel) (fun K hK => ?_); go_big_quiet_op; refine hK _ ?_; clear hK K)
        | (refine Txt3.mix_re (by rfl) (by decide +kernel) (by rfl) (by rfl) (by go_simp) (by first | exact HS1.out | exact HS2.out | exact id) HB (fun K hK => ?_); go_big_quiet_op; refine hK _ ?_; clear hK K)
        | (refine Txt3.mix_r (by rfl) (by decide) (by decide +kernel) (fun K hK => ?_); go_big_quiet_op; refine hK _ ?_; clear hK K)
        | (refine Txt3.mix_pass (by rfl) (by rfl) ?_; simp only [List.set_cons_succ, List.set_cons_zero]))
      refine Txt3.mix_nil ?_
      have hti : TI w w16 (fun i => i ∈ t.blks ∨ i ∈ t.hbs) g (.slice A0 bs.length d0) bs t4 (ins x M) := by
        have s0 := HI8.out.chg.size
        have s1 := SP.out.chg.size
        have s2 := HSZ.out.1
        have s3 := HSZ.out.2
        have s4 := MG.out.chg.size
        have s5 := HSW.out
        have s6 := HPB.out
        have hng : g ∉ t4.blks := MH.out.a.none_ G15.out.1 (by decide)
        have hngh : g ∉ t4.hbs := fun hi => by
          obtain ⟨cs, h1⟩ := MH.out.a.kind.2 g hi
          rw [G15.out.1] at h1
          unfold tO at h1
          injection h1 with h1
          injection h1 with _ h1
          exact absurd h1 (by decide)
        have hb3 : ∀ i ∈ t3.blks, i ∈ u.blks ∨ i = pb := fun i hi => by
          rcases List.mem_append.1 (MG.out.perm.mem_iff.1 hi) with h | h
          · exact .inl (SP.out.perm.mem_iff.1 (List.mem_append_left _ h))
          · rw [HNP.out.2.1, List.mem_singleton] at h
            exact .inr h
        have hb4 : ∀ i ∈ t4.blks, i ∈ u.blks ∨ i = pb := fun i hi => by
          rcases List.mem_append.1 (MH.out.perm.mem_iff.1 hi) with h | h
          · exact hb3 i h
          · exact .inl (SP.out.perm.mem_iff.1 (List.mem_append_right _ h))
        have hbh : ∀ i ∈ t4.hbs, i ∈ u.hbs ∨ w.heap.size ≤ i := fun i hi => by
          rcases MH.out.hb i hi with (h | h) | h
          · rcases MG.out.hb i h with (h | h) | h
            · exact (SP.out.hb i (.inl h)).imp id (fun h => by omega)
            · rw [HNP.out.2.2, List.mem_append] at h
              rcases h with h | h
              · have := HOB.out i (by simpa using h)
                exact .inr (by omega)
              · have := HAV.out i (by simpa using h)
                exact .inr (by omega)
            · exact .inr (by omega)
          · exact (SP.out.hb i (.inr h)).imp id (fun h => by omega)
          · exact .inr (by omega)
        have hub : ∀ i, i < w.heap.size → i ∈ u.blks → i = g ∨ i ∈ t.blks ∨ i ∈ t.hbs := fun i hi hu => (HI8.out.fr i (.inl hu)).elim .inr (fun h => absurd hi (by omega))
        refine ⟨by rw [HB4.out]; exact HG16.out, G15.out.2.keep HC16.out (fun k hk e => row_noq G15.out.2 G15.out.1 (by decide) (by rw [hk, show k = g from e])), MH.out.a.keep HC16.out (fun i hi e => hng ((show i = g from e) ▸ hi)) (fun i hi e => hngh ((show i = g from e) ▸ hi)), by
          have := K4.out
          rw [List.append_assoc] at this
          exact this, MH.out.perm.nodup_iff.2 T14.out.2, ins_srt HI8.out.srt HNX.out, fun i hi => ?_, ?_⟩
        · rcases hi with hi | hi
          · rcases hb4 i hi with h | h
            · exact HI8.out.fr i (.inl h)
            · exact .inr (by omega)
          · rcases hbh i hi with h | h
            · exact HI8.out.fr i (.inr h)
            · exact .inr h
        · refine ((((((HI8.out.chg.trans SP.out.chg (fun i hi h => hub i hi h)).below HB12.out).trans HC13.out (fun i hi h => ?_)).trans MG.out.chg (fun i hi h => ?_)).trans MH.out.chg (fun i hi h => ?_)).trans HC16.out (fun i _ h => .inl h))
          · have h : i = pb := h
            omega
          · rcases h with h | h
            · exact hub i hi (SP.out.perm.mem_iff.1 (List.mem_append_left _ h))
            · rw [HNP.out.2.1, List.mem_singleton] at h
              omega
          · rcases h with h | h
            · rcases hb3 i h with h | h
              · exact hub i hi h
              · omega
            · exact hub i hi (SP.out.perm.mem_iff.1 (List.mem_append_right _ h))
      have HTI := Lib.hid hti
      clear hti MG MH K3 K4 HC16 HG16 G15 G14 T14 G13 T13 HC13 HND HNP HAV HKN SP HI8 O9 P9 V9 G9 HB12
      go_wp2_with fail
      exact ⟨⟨k + 1, t4, by go_num, by omega, by rw [HTK.out]; exact HTI.out⟩, by simp [intOf]; omega⟩
    · have ek : k = xs.length := by omega
      have HZ := Lib.hid (show TI w wr (fun i => i ∈ t.blks ∨ i ∈ t.hbs) g bv bs u (insAll L xs) from by
        have := HI.out
        rwa [ek, List.take_length] at this)
      clear HI
      subst ek
      go_wp2_with fail
      go_ret
      exact ⟨rfl, u, HZ.out⟩
end Go.Proofs.Ytfgabafbcephaaa.My

namespace Go.Proofs.Ytfgabafbcephaaa.My
open Go.RowKit Pa Go.Proofs.YtfgabafbcephaaaW.PrintWords
set_option linter.unusedSimpArgs false
theorem info_itm : (Try.prog.info? 34).map (fun i => (i.zero, i.size, i.bytes)) = some (some (.agg #[(.int .i64 0), (.int .i64 0), (.int .i64 0), (.int .i64 0)]), 4, 32) := by kernel_rfl
def OwX (w : World) (base : Nat) (v : Value) (xs : List S34) : Prop := w.ownsRow base 34 4 v xs.length (flatX xs)
theorem OwX.keep {S : Nat → Prop} {w w1 : World} {base : Nat} {v : Value} {xs : List S34} (h : OwX w base v xs) (hc : Chg S w w1) (hn : ∀ k, v.ownBlock = some k → ¬ S k) : OwX w1 base v xs := row_keep h hc hn
theorem OwX.below {w w1 : World} {base : Nat} {v : Value} {xs : List S34} (h : OwX w base v xs) (hb : Below w.heap.size w w1) : OwX w1 base v xs := h.keep (S := fun _ => False) (Chg.of_below hb) (fun _ _ h => h)
structure Lay (w0 w : World) (fb sb : Nat) (v : Value) (xs : List S34) : Prop where
  hf : w.heap[fb]? = some (.cells #[.func (.func 74) #[] #[.pointer (some ⟨fb, 0, none⟩), .pointer (some ⟨sb, 0, none⟩)]] 116)
  hs : w.heap[sb]? = some (.cells #[v] 65)
  ow : OwX w w0.heap.size v xs
  bel : Below w0.heap.size w0 w
  f0 : w0.heap.size ≤ fb
  s0 : w0.heap.size ≤ sb
theorem Lay.below {w0 w w1 : World} {fb sb : Nat} {v : Value} {xs : List S34} (h : Lay w0 w fb sb v xs) (hb : Below w.heap.size w w1) : Lay w0 w1 fb sb v xs :=
  ⟨blk_below h.hf hb, blk_below h.hs hb, h.ow.below hb, h.bel.trans (hb.mono h.bel.size), h.f0, h.s0⟩
set_option maxHeartbeats 16000000 in
set_option maxRecDepth 100000 in
theorem twalk_any {w0 : World} {bs : List Int} {fb sb : Nat} (hcf : ∀ args w, (callFunc 74 args).run Try.prog w = .ok (.enter 74 args) w) : ∀ (t : PT) (S L : List S34) (w : World) (v : Value), TrAt w0 t → TOk bs t L → Lay w0 w fb sb v S → S.length + L.length ≤ 100000 →
    Calls Try.prog 74 #[t.ptr, .pointer (some ⟨fb, 0, none⟩), .pointer (some ⟨sb, 0, none⟩)] w fun e w' => e = .returned (.tuple #[]) ∧ ∃ v', Lay w0 w' fb sb v' (S ++ L) := by
  intro t
  induction t with
  | nil =>
    intro S L w v ht hok hl hn
    have e : L = [] := hok
    subst e
    have HL := Lib.hid hl
    clear ht hok hl hn
    unfold PT.ptr
    go_enter Try.func74, Try.ntmps74
    go_wp2_with fail
    exact bodyPost_end (results_none rfl _ _ _) rfl ⟨rfl, v, by rw [List.append_nil]; exact HL.out⟩
  | node b x o ov a av m q l r ihl ihr =>
    intro S L w v ht hok hl hn
    obtain ⟨L1, L2, rfl, kl, kr, -⟩ := hok
    have HT := Lib.hid ht
    have HL := Lib.hid hl
    have HN := Lib.hid hn
    have HK := Lib.hid (And.intro kl kr)
    have HIL := Lib.hid ihl
    have HIR := Lib.hid ihr
    clear ht hl hn kl kr ihl ihr
    obtain ⟨A1, hA1⟩ := l.ptr_form
    obtain ⟨A2, hA2⟩ := r.ptr_form
    have HA := Lib.hid (And.intro hA1 hA2)
    clear hA1 hA2
    have hb := HL.out.bel.block b (blk_lt HT.out.1) |>.trans HT.out.1
    rw [HA.out.1, HA.out.2] at hb
    obtain ⟨e0, e1, e2, e3, -, -, -, -, -, -, -, -, -, -, -, -, -, -, -, -, -, -, -, -, -, -, -, -, -, -, -, -, e32, e33, el⟩ := nO_facts hb
    have f0 : w.cell? ⟨fb, 0, none⟩ = _ := (blk_cell HL.out.hf 0).trans rfl
    have fl := blk_lt HL.out.hf
    have s0 : w.cell? ⟨sb, 0, none⟩ = some v := (blk_cell HL.out.hs 0).trans rfl
    have sl := blk_lt HL.out.hs
    have HW := Lib.hid hb
    clear hb
    show Calls _ _ #[.pointer (some ⟨b, 0, none⟩), _, _] _ _
    go_enter Try.func74, Try.ntmps74
    go_wp2_with fail
    refine Txt3.wp_region_mix (V := [(5, .a)]) (S := fun _ => False) (by kernel_rfl) (by kernel_rfl) (fun HB => ?_)
    repeat (first
      | (refine Txt3.mix_p (by rfl) rfl (by decide +kernel) (fun K hK => ?_); go_big_quiet_op; refine hK _ ?_; clear hK K)
      | (refine Txt3.mix_re (by rfl) (by decide +kernel) (by rfl) (by rfl) (by go_simp) (by first | exact HS1.out | exact HS2.out | exact id) HB (fun K hK => ?_); go_big_quiet_op; refine hK _ ?_; clear hK K)
      | (refine Txt3.mix_r (by rfl) (by decide) (by decide +kernel) (fun K hK => ?_); go_big_quiet_op; refine hK _ ?_; clear hK K)
      | (refine Txt3.mix_pass (by rfl) (by rfl) ?_; simp only [List.set_cons_succ, List.set_cons_zero]))
    refine Txt3.mix_a (by rfl) (by decide +kernel) (fun K hK => ?_)
    go_wp2_with fail
    have hq := HIL.out S L1 w.drew v HT.out.2.2.2.1 HK.out.1 (HL.out.below (Below.refl _ _).drew) (by
      have := HN.out
      rw [List.length_append] at this
      omega)
    rw [HA.out.1] at hq
    refine hq.mono ?_
    clear hq
    rintro e w1 ⟨rfl, v1, hl⟩
    have L1' := Lib.hid hl
    clear hl HL HW e0 e1 e2 e3 e32 e33 el f0 fl s0 sl
    simp only
    refine hK _ _ ?_
    clear hK K
    repeat (first
      | (refine Txt3.mix_p (by rfl) rfl (by decide +kernel) (fun K hK => ?_); go_big_quiet_op; refine hK _ ?_; clear hK K)
      | (refine Txt3.mix_re (by rfl) (by decide +kernel) (by rfl) (by rfl) (by go_simp) (by first | exact HS1.out | exact HS2.out | exact id) HB (fun K hK => ?_); go_big_quiet_op; refine hK _ ?_; clear hK K)
      | (refine Txt3.mix_r (by rfl) (by decide) (by decide +kernel) (fun K hK => ?_); go_big_quiet_op; refine hK _ ?_; clear hK K)
      | (refine Txt3.mix_pass (by rfl) (by rfl) ?_; simp only [List.set_cons_succ, List.set_cons_zero]))
    refine Txt3.mix_nil ?_
    have hb := L1'.out.bel.block b (blk_lt HT.out.1) |>.trans HT.out.1
    rw [HA.out.1, HA.out.2] at hb
    obtain ⟨e0, e1, e2, e3, -, -, -, -, -, -, -, -, -, -, -, -, -, -, -, -, -, -, -, -, -, -, -, -, -, -, -, -, e32, e33, el⟩ := nO_facts hb
    have f0 : w1.cell? ⟨fb, 0, none⟩ = _ := (blk_cell L1'.out.hf 0).trans rfl
    have fl := blk_lt L1'.out.hf
    have s0 : w1.cell? ⟨sb, 0, none⟩ = some v1 := (blk_cell L1'.out.hs 0).trans rfl
    have sl := blk_lt L1'.out.hs
    have HS1 := Lib.hid (row_noq L1'.out.ow hb (by decide))
    have HS2 := Lib.hid (row_noq L1'.out.ow L1'.out.hs (by decide))
    clear hb
    go_wp2_with fail
    refine Txt2.wp_region_mix (S := fun k => some k = v1.ownBlock) (by kernel_rfl) (by kernel_rfl) (fun HB => ?_)
    repeat (first
      | (refine Txt2.mix_p (by rfl) rfl rfl (fun K hK => ?_); go_big_quiet_op; refine hK _ ?_; clear hK K)
      | (refine Txt2.mix_re (by rfl) (by decide +kernel) (by rfl) (by rfl) (by go_simp) (by first | exact HS1.out | exact HS2.out) HB (fun K hK => ?_); go_big_quiet_op; refine hK _ ?_; clear hK K)
      | (refine Txt2.mix_pass (by rfl) (by rfl) ?_; simp only [List.set_cons_succ, List.set_cons_zero]))
    refine Txt2.mix_m (fun g => .slice (some ⟨g, 0, none⟩) 1 1) (.cells #[.int .i64 x.f0, .int .i64 x.f1, .int .i64 x.f2, .int .i64 x.f3] 34) (by rfl) (by decide +kernel) (fun w1 => by go_simp) HB ?_
    intro pb wb hb2 hg2 ho2
    replace HB := HB.then_ hb2
    have HO2 := Lib.hid ho2
    have LB := Lib.hid (L1'.out.below (Txt.Bw.undrew hb2))
    clear hb2 hg2 ho2
    simp only [Act.put, List.setIfInBounds_toArray, List.set_cons_succ, List.set_cons_zero]
    repeat (first
      | (refine Txt2.mix_p (by rfl) rfl rfl (fun K hK => ?_); go_big_quiet_op; refine hK _ ?_; clear hK K)
      | (refine Txt2.mix_re (by rfl) (by decide +kernel) (by rfl) (by rfl) (by go_simp) (by first | exact HS1.out | exact HS2.out) HB (fun K hK => ?_); go_big_quiet_op; refine hK _ ?_; clear hK K)
      | (refine Txt2.mix_pass (by rfl) (by rfl) ?_; simp only [List.set_cons_succ, List.set_cons_zero]))
    refine Txt2.mix_e (by rfl) (by decide +kernel) HB ?_
    intro wc hwc K hK
    have lc := LB.out.below hwc
    have hvk := fun k hk => own_lt L1'.out.ow k hk
    have hoc := blk_below HO2.out hwc
    have hlen : (S ++ L1).length + 1 ≤ 100000 := by
      have := HN.out
      simp only [List.length_append, List.length_cons] at this ⊢
      omega
    refine wp_append (.tmp 12) (.tmp 17) 65 34 _ 4 32 w0.heap.size rfl Try.underlying65 info_itm rfl (by decide) v1 (S ++ L1).length 1 (flatX (S ++ L1)) (cellsX x) pb 1 rfl rfl lc.ow lc.bel.size rfl ?_ ?_ (by omega) (by omega) ?_
    · intro j u hu
      rw [blk_cell hoc]
      exact (List.getElem?_toArray).trans hu
    · intro u hu
      simp only [cellsX, List.mem_cons, List.not_mem_nil, or_false] at hu
      rcases hu with rfl | rfl | rfl | rfl <;> rfl
    intro v2 wd hown hgr hat
    have hch : Chg (fun k => some k = v1.ownBlock) wc wd := (Chg.refl _ wc).grown hgr (fun k hk => .inl hk.symm)
    have hkx : Txt2.Kx (fun k => some k = v1.ownBlock) w1.drew wc wd := ⟨hch.os, hch.tape, hch.output, hch.size, fun i hi hn => hch.block i hi (fun hs => hn ⟨hs, hvk i hs.symm⟩)⟩
    refine hK _ _ ⟨hkx, ?_⟩
    have hfd := hch.obj lc.hf (row_noq lc.ow lc.hf (by decide))
    have hsd := hch.obj lc.hs (row_noq lc.ow lc.hs (by decide))
    have hbd : Below w0.heap.size w0 wd := Chg.base lc.bel hch lc.bel.size (fun i hi => own_base lc.ow i hi.symm)
    have hod : OwX wd w0.heap.size v2 ((S ++ L1) ++ [x]) := by
      unfold OwX
      rw [flatX_append, flatX_one, List.length_append]
      exact hown
    have WD := Lib.hid (And.intro hfd (And.intro hsd (And.intro hod hbd)))
    have HFS := Lib.hid (And.intro lc.f0 lc.s0)
    obtain ⟨A9, c9, hv9, _⟩ := row_form hown
    clear lc hvk hoc hlen hown hgr hat hch hkx hfd hsd hbd hod hK K hwc LB HO2 HB L1' HS1 HS2 e0 e1 e2 e3 e32 e33 el f0 fl s0 sl
    obtain ⟨n9, hn9⟩ : ∃ n, n = (S ++ L1).length + 1 := ⟨_, rfl⟩
    rw [← hn9] at hv9
    clear hn9
    subst hv9
    obtain ⟨s0, sl⟩ : wd.cell? ⟨sb, 0, none⟩ = some v1 ∧ sb < wd.heap.size := ⟨(blk_cell WD.out.2.1 0).trans rfl, blk_lt WD.out.2.1⟩
    have hfr := fun j => blk_free WD.out.2.1 j
    simp only [Act.put, List.setIfInBounds_toArray, List.set_cons_succ, List.set_cons_zero]
    repeat (first
      | (refine Txt2.mix_p (by rfl) rfl rfl (fun K hK => ?_); go_big_quiet_op; refine hK _ ?_; clear hK K)
      | (refine Txt2.mix_re (by rfl) (by decide +kernel) (by rfl) (by rfl) (by go_simp) (by first | exact HS1.out | exact HS2.out) HB (fun K hK => ?_); go_big_quiet_op; refine hK _ ?_; clear hK K)
      | (refine Txt2.mix_pass (by rfl) (by rfl) ?_; simp only [List.set_cons_succ, List.set_cons_zero]))
    refine Txt2.mix_a (by rfl) (by decide +kernel) (fun K hK => ?_)
    go_wp2_with fail
    clear s0 sl hfr
    show Txt2.wpMix _ _ _ _ _ _ _ _ (wd.setCell ⟨sb, 0, none⟩ (.slice A9 n9 c9))
    have hcx : Chg (fun k => k = sb) wd (wd.setCell ⟨sb, 0, none⟩ (.slice A9 n9 c9)) := (Chg.refl (fun k => k = sb) wd).setCell (p := ⟨sb, 0, none⟩) (.inl rfl) (.slice A9 n9 c9)
    have hsx := blk_set WD.out.2.1 0 (.slice A9 n9 c9)
    simp only [List.setIfInBounds_toArray, List.set_cons_zero, List.set_cons_succ] at hsx
    have LX := Lib.hid (show Lay w0 (wd.setCell ⟨sb, 0, none⟩ (.slice A9 n9 c9)) fb sb (.slice A9 n9 c9) ((S ++ L1) ++ [x]) from ⟨hcx.obj WD.out.1 (fun e => by
        have h1 := WD.out.1
        rw [show fb = sb from e, WD.out.2.1] at h1
        injection h1 with h1
        injection h1 with _ h1
        exact absurd h1 (by decide)), hsx, WD.out.2.2.1.keep hcx (fun k hk e => row_noq WD.out.2.2.1 WD.out.2.1 (by decide) (by rw [hk, show k = sb from e])), Chg.base WD.out.2.2.2 hcx WD.out.2.2.2.size (fun i hi => by rw [show i = sb from hi]; exact HFS.out.2), HFS.out.1, HFS.out.2⟩)
    clear hcx hsx WD
    generalize wd.setCell ⟨sb, 0, none⟩ (.slice A9 n9 c9) = w4 at *
    repeat (first
      | (refine Txt2.mix_p (by rfl) rfl rfl (fun K hK => ?_); go_big_quiet_op; refine hK _ ?_; clear hK K)
      | (refine Txt2.mix_re (by rfl) (by decide +kernel) (by rfl) (by rfl) (by go_simp) (by first | exact HS1.out | exact HS2.out) HB (fun K hK => ?_); go_big_quiet_op; refine hK _ ?_; clear hK K)
      | (refine Txt2.mix_pass (by rfl) (by rfl) ?_; simp only [List.set_cons_succ, List.set_cons_zero]))
    refine Txt2.mix_nil ?_
    have hb := LX.out.bel.block b (blk_lt HT.out.1) |>.trans HT.out.1
    rw [HA.out.1, HA.out.2] at hb
    obtain ⟨-, -, -, -, -, -, -, -, -, -, -, -, -, -, -, -, -, -, -, -, -, -, -, -, -, -, -, -, -, -, -, -, e32, e33, el⟩ := nO_facts hb
    have f0 : w4.cell? ⟨fb, 0, none⟩ = _ := (blk_cell LX.out.hf 0).trans rfl
    have fl := blk_lt LX.out.hf
    clear hb
    go_wp2_with fail
    refine Txt3.wp_region_mix (V := [(5, .a)]) (S := fun _ => False) (by kernel_rfl) (by kernel_rfl) (fun HB => ?_)
    repeat (first
      | (refine Txt3.mix_p (by rfl) rfl (by decide +kernel) (fun K hK => ?_); go_big_quiet_op; refine hK _ ?_; clear hK K)
      | (refine Txt3.mix_re (by rfl) (by decide +kernel) (by rfl) (by rfl) (by go_simp) (by first | exact HS1.out | exact HS2.out | exact id) HB (fun K hK => ?_); go_big_quiet_op; refine hK _ ?_; clear hK K)
      | (refine Txt3.mix_r (by rfl) (by decide) (by decide +kernel) (fun K hK => ?_); go_big_quiet_op; refine hK _ ?_; clear hK K)
      | (refine Txt3.mix_pass (by rfl) (by rfl) ?_; simp only [List.set_cons_succ, List.set_cons_zero]))
    refine Txt3.mix_a (by rfl) (by decide +kernel) (fun K hK => ?_)
    go_wp2_with fail
    have hq := HIR.out ((S ++ L1) ++ [x]) L2 w4.drew (.slice A9 n9 c9) HT.out.2.2.2.2 HK.out.2 (LX.out.below (Below.refl _ _).drew) (by
      have := HN.out
      simp only [List.length_append, List.length_cons, List.length_nil] at this ⊢
      omega)
    rw [HA.out.2] at hq
    refine hq.mono ?_
    clear hq
    rintro e w5 ⟨rfl, v3, hl⟩
    have LY := Lib.hid hl
    clear hl LX e32 e33 el f0 fl
    simp only
    refine hK _ _ ?_
    clear hK K
    repeat (first
      | (refine Txt3.mix_p (by rfl) rfl (by decide +kernel) (fun K hK => ?_); go_big_quiet_op; refine hK _ ?_; clear hK K)
      | (refine Txt3.mix_re (by rfl) (by decide +kernel) (by rfl) (by rfl) (by go_simp) (by first | exact HS1.out | exact HS2.out | exact id) HB (fun K hK => ?_); go_big_quiet_op; refine hK _ ?_; clear hK K)
      | (refine Txt3.mix_r (by rfl) (by decide) (by decide +kernel) (fun K hK => ?_); go_big_quiet_op; refine hK _ ?_; clear hK K)
      | (refine Txt3.mix_pass (by rfl) (by rfl) ?_; simp only [List.set_cons_succ, List.set_cons_zero]))
    refine Txt3.mix_nil ?_
    go_wp2_with fail
    refine bodyPost_end (results_none rfl _ _ _) rfl ⟨rfl, v3, ?_⟩
    have := LY.out
    simp only [List.append_assoc, List.cons_append, List.nil_append] at this
    exact this
theorem run_store_fn {P : Program} {w : World} {a : Addr} {m : Mode} (fn : Fn) (first captured : Array Value) : (store a (.func fn first captured) m).run P w = stored P w a (.func fn first captured) m := run_store P w a _ m rfl
attribute [local go_sem] run_store_fn
set_option maxHeartbeats 16000000 in
set_option maxRecDepth 100000 in
theorem titems_any {w : World} {g : Nat} {bv : Value} {bs : List Int} (t : PT) (L : List S34) (hg : w.heap[g]? = some (tO bv t.ptr)) (h : TrAt w t) (k : TOk bs t L) (hl : L.length ≤ 8192) :
    Calls Try.prog 42 #[.pointer (some ⟨g, 0, none⟩)] w fun e w' => ∃ v, e = .returned v ∧ OwX w' w.heap.size v L ∧ Below w.heap.size w w' := by
  have HG := Lib.hid hg
  have HT := Lib.hid h
  have HK := Lib.hid k
  have hcf : ∀ args w, (callFunc 74 args).run Try.prog w = .ok (.enter 74 args) w := fun args w => by go_simp
  have HCF := Lib.hid hcf
  clear hg h k hcf
  go_enter Try.func42, Try.ntmps42
  go_wp2_with fail
  have hlay : Lay w ((w.alloc (.cells #[.slice none 0 0] 65)).alloc (.cells #[.func (.func 74) #[] #[.pointer (some ⟨w.heap.size + 1, 0, none⟩), .pointer (some ⟨w.heap.size, 0, none⟩)]] 116)) (w.heap.size + 1) w.heap.size (.slice none 0 0) [] := by
    refine ⟨?_, blk_below (heap_alloc_new w _) ((Below.refl _ _).alloc (Nat.le_refl _) _), World.ownsRow_nil _ _ _ _, ((Below.refl w.heap.size w).alloc (Nat.le_refl _) _).alloc (by simp) _, by omega, Nat.le_refl _⟩
    have := heap_alloc_new (w.alloc (.cells #[.slice none 0 0] 65)) (.cells #[.func (.func 74) #[] #[.pointer (some ⟨w.heap.size + 1, 0, none⟩), .pointer (some ⟨w.heap.size, 0, none⟩)]] 116)
    rw [show (w.alloc (.cells #[.slice none 0 0] 65)).heap.size = w.heap.size + 1 from by simp] at this
    exact this
  have LL := Lib.hid hlay
  clear hlay
  generalize (w.alloc (.cells #[.slice none 0 0] 65)).alloc (.cells #[.func (.func 74) #[] #[.pointer (some ⟨w.heap.size + 1, 0, none⟩), .pointer (some ⟨w.heap.size, 0, none⟩)]] 116) = w2 at *
  obtain ⟨A1, hA1⟩ := t.ptr_form
  have HA := Lib.hid hA1
  have hg2 := LL.out.bel.block g (blk_lt HG.out) |>.trans HG.out
  rw [hA1] at hg2
  obtain ⟨-, g1, gl⟩ := tO_facts hg2
  have f0 : w2.cell? ⟨w.heap.size + 1, 0, none⟩ = _ := (blk_cell LL.out.hf 0).trans rfl
  have fl := blk_lt LL.out.hf
  clear hA1 hg2
  refine Txt3.wp_region_mix (V := [(5, .a)]) (S := fun _ => False) (by kernel_rfl) (by kernel_rfl) (fun HB => ?_)
  repeat (first
    | (refine Txt3.mix_p (by rfl) rfl (by decide +kernel) (fun K hK => ?_); go_big_quiet_op; refine hK _ ?_; clear hK K)
    | (refine Txt3.mix_re (by rfl) (by decide +kernel) (by rfl) (by rfl) (by go_simp) (by first | exact HS1.out | exact HS2.out | exact id) HB (fun K hK => ?_); go_big_quiet_op; refine hK _ ?_; clear hK K)
    | (refine Txt3.mix_r (by rfl) (by decide) (by decide +kernel) (fun K hK => ?_); go_big_quiet_op; refine hK _ ?_; clear hK K)
    | (refine Txt3.mix_pass (by rfl) (by rfl) ?_; simp only [List.set_cons_succ, List.set_cons_zero]))
  refine Txt3.mix_a (by rfl) (by decide +kernel) (fun K hK => ?_)
  go_wp2_with fail
  have hq := twalk_any HCF.out t [] L w2.drew (.slice none 0 0) HT.out HK.out (LL.out.below (Below.refl _ _).drew) (by simp only [List.length_nil]; omega)
  rw [HA.out] at hq
  refine hq.mono ?_
  clear hq
  rintro e w5 ⟨rfl, v3, hl5⟩
  have LY := Lib.hid hl5
  clear hl5 LL g1 gl f0 fl
  simp only
  refine hK _ _ ?_
  clear hK K
  repeat (first
    | (refine Txt3.mix_p (by rfl) rfl (by decide +kernel) (fun K hK => ?_); go_big_quiet_op; refine hK _ ?_; clear hK K)
    | (refine Txt3.mix_re (by rfl) (by decide +kernel) (by rfl) (by rfl) (by go_simp) (by first | exact HS1.out | exact HS2.out | exact id) HB (fun K hK => ?_); go_big_quiet_op; refine hK _ ?_; clear hK K)
    | (refine Txt3.mix_r (by rfl) (by decide) (by decide +kernel) (fun K hK => ?_); go_big_quiet_op; refine hK _ ?_; clear hK K)
    | (refine Txt3.mix_pass (by rfl) (by rfl) ?_; simp only [List.set_cons_succ, List.set_cons_zero]))
  refine Txt3.mix_nil ?_
  have s0 : w5.cell? ⟨w.heap.size, 0, none⟩ = some v3 := (blk_cell LY.out.hs 0).trans rfl
  have sl := blk_lt LY.out.hs
  obtain ⟨A3, c3, rfl, _⟩ := row_form LY.out.ow
  go_wp2_with fail
  go_ret
  exact ⟨_, rfl, LY.out.ow, LY.out.bel⟩
end Go.Proofs.Ytfgabafbcephaaa.My

namespace Go.Proofs.Ytfgabafbcephaaa.My
open Go.RowKit Pa Go.Proofs.YtfgabafbcephaaaW.PrintWords
set_option linter.unusedSimpArgs false
section
attribute [local go_sem high] eqA34
set_option maxHeartbeats 8000000 in
set_option maxRecDepth 100000 in
theorem xsame_any (A B : Option Addr) (c d : Nat) (ys : List S34) (w : World) (hA : RdX w A ys) (hB : RdX w B ys) (hn : ys.length ≤ 4000000000000) :
    Calls Try.prog 43 #[.slice A ys.length c, .slice B ys.length d] w fun e w' => e = .returned (.bool true) ∧ Below w.heap.size w w' := by
  have HA := Lib.hid hA
  have HB := Lib.hid hB
  clear hA hB
  go_enter Try.func43, Try.ntmps43
  go_wp2_with fail
  go_loopw [5] (fun i wr => ∃ k : Nat, i = .int .i64 k ∧ k ≤ ys.length ∧ Below w.heap.size w wr) (fun i _ => ys.length - (intOf i).toNat)
  case atStart => exact ⟨0, rfl, Nat.zero_le _, Below.refl _ _⟩
  case round =>
    obtain ⟨k, rfl, hk, hb⟩ := hrel
    have HL := Lib.hid hb
    clear hb
    by_cases hlt : k < ys.length
    · obtain ⟨b, o, rfl, hbs, hcells⟩ := (HA.out.quiet HL.out) (by omega)
      obtain ⟨a0, a1, a2, a3⟩ := hcells k hlt
      obtain ⟨b2, o2, rfl, hbs2, hcells2⟩ := (HB.out.quiet HL.out) (by omega)
      obtain ⟨b0, b1, b2, b3⟩ := hcells2 k hlt
      clear hcells hcells2
      go_wp2_with fail
      refine Txt.wp_region_text (by kernel_rfl) (by kernel_rfl) ?_
      repeat (first
        | (refine Txt.text_p (by rfl) rfl (fun K hK => ?_); go_big_quiet_op; refine hK _ ?_; clear hK K)
        | (refine Txt.text_r (by rfl) rfl (fun K hK => ?_); go_big_quiet_op; refine hK _ ?_; clear hK K)
        | (refine Txt.text_pass (by rfl) (by rfl) ?_; simp only [List.set_cons_succ, List.set_cons_zero]))
      refine Txt.text_nil ?_
      go_wp2_with fail
      exact ⟨⟨k + 1, by go_num, by omega, HL.out.drew⟩, by simp [intOf]; omega⟩
    · obtain rfl : k = ys.length := by omega
      go_wp2_with fail
      go_ret
      exact ⟨rfl, HL.out⟩
end
theorem OwX.reads {w : World} {base : Nat} {v : Value} {xs : List S34} (h : OwX w base v xs) : ∃ A c, v = .slice A xs.length c ∧ xs.length ≤ c ∧ RdX w A xs := by
  obtain ⟨A, c, rfl, hc⟩ := row_form h
  refine ⟨A, c, rfl, hc, fun hp => ?_⟩
  rcases h.2 with ⟨e1, h0⟩ | ⟨b, cap, cur, e1, -, -, -, -⟩
  · injection e1 with _ e2 _
    omega
  · injection e1 with e2 _ _
    subst e2
    obtain ⟨cur, hcur⟩ : ∃ cur, w.heap[b]? = some (.cells cur 34 (0, 0)) := own_typed h b rfl
    refine ⟨b, 0, rfl, blk_lt hcur, fun i hi => ?_⟩
    obtain ⟨a0, a1, a2, a3⟩ := xrow_get (e := 34) h hi
    rw [Nat.zero_add]
    exact ⟨a0, a1, a2, a3⟩
theorem item19_any (s t q v : Int) (w : World) : Calls Try.prog 44 #[.int .i64 s, .int .i64 t, .int .i64 q, .int .i64 v] w fun e w' => e = .returned (.agg #[.int .i64 s, .int .i64 t, .int .i64 q, .int .i64 v]) ∧ Below w.heap.size w w' :=
  bournelaw19_item.calls s t q v s t q v w rfl
end Go.Proofs.Ytfgabafbcephaaa.My

namespace Go.Proofs.Ytfgabafbcephaaa.My
open Go.RowKit Pa Go.Proofs.YtfgabafbcephaaaW.PrintWords
set_option linter.unusedSimpArgs false
structure TS (w0 w : World) (F : Nat → Prop) (g : Nat) (bs : List Int) (L : List S34) : Prop where
  st : ∃ bv t, w.heap[g]? = some (tO bv t.ptr) ∧ Own w 0 bv bs ∧ TrAt w t ∧ TOk bs t L ∧ t.blks.Nodup ∧ F g ∧ (∀ k, bv.ownBlock = some k → F k) ∧ ∀ i, i ∈ t.blks ∨ i ∈ t.hbs → F i
  srt : Srt L
  one : One1 L
  len : L.length ≤ 8192
  bm : bmay bs = true
  new : ∀ i, F i → w0.heap.size ≤ i ∧ i < w.heap.size
  bel : Below w0.heap.size w0 w
def serL : List S34 → Int
  | [] => -1
  | x :: _ => x.f0
def mayL (L xs : List S34) : Bool := imays (serL L) xs && decide ((L.length : Int) + xs.length ≤ 8192)
theorem ser_eq {bs : List Int} {t : PT} {L : List S34} (k : TOk bs t L) (h : One1 L) : t.ser = serL L := by
  cases t with
  | nil =>
    have e : L = [] := k
    rw [e]
    rfl
  | node b x o ov a av m q l r =>
    obtain ⟨L1, L2, e, -⟩ := k
    obtain ⟨s, hs⟩ := h
    have h1 := (hs x (by rw [e]; simp)).2
    show x.f0 = serL L
    cases L with
    | nil => simp at e
    | cons y r => exact h1.trans (hs y (by simp)).2.symm
theorem One1.gd {bs : List Int} {L : List S34} (h : One1 L) (hb : bmay bs = true) (hl : L.length ≤ 8192) : ∃ s, Gd bs s (its bs L) := by
  obtain ⟨s, hs⟩ := h
  exact ⟨s, gd_of hb hs hl⟩
section
variable {w0 w w1 : World} {F S : Nat → Prop} {g : Nat} {bs : List Int} {L : List S34}
theorem TS.chg (h : TS w0 w F g bs L) (hc : Chg S w w1) (hS : ∀ k, S k → ¬ F k ∧ w0.heap.size ≤ k) : TS w0 w1 F g bs L := by
  obtain ⟨bv, t, h1, h2, h3, h4, h5, h6, h7, h8⟩ := h.st
  exact ⟨⟨bv, t, hc.obj h1 (fun hs => (hS _ hs).1 h6), h2.keep hc (fun k hk hs => (hS _ hs).1 (h7 k hk)), h3.keep hc (fun i hi hs => (hS _ hs).1 (h8 i (.inl hi))) (fun i hi hs => (hS _ hs).1 (h8 i (.inr hi))), h4, h5, h6, h7, h8⟩,
    h.srt, h.one, h.len, h.bm, fun i hi => ⟨(h.new i hi).1, Nat.lt_of_lt_of_le (h.new i hi).2 hc.size⟩, Chg.base h.bel hc h.bel.size (fun i hi => (hS i hi).2)⟩
theorem TS.quiet (h : TS w0 w F g bs L) (hb : Below w.heap.size w w1) : TS w0 w1 F g bs L := h.chg (S := fun _ => False) (Chg.of_below hb) (fun _ h => h.elim)
theorem tsnew_any (bs : List Int) (A : Option Addr) (c : Nat) (hw : Below w0.heap.size w0 w) (hr : RdI w A bs) (hc : bs.length ≤ c) :
    Calls Try.prog 29 #[.slice A bs.length c] w fun e w' =>
      (bmay bs = false ∧ e = .returned (.tuple #[.pointer none, .int .i64 1900]) ∧ Below w.heap.size w w') ∨
      (bmay bs = true ∧ ∃ (g : Nat) (F : Nat → Prop), e = .returned (.tuple #[.pointer (some ⟨g, 0, none⟩), .int .i64 0]) ∧ TS w0 w' F g bs [] ∧ (∀ i, F i → w.heap.size ≤ i) ∧ Below w.heap.size w w') :=
  (tnew_any bs A c w hr hc).mono fun e w' h => by
    rcases h with h | ⟨h0, g, bv, h1, h2, h3, h4, h5⟩
    · exact .inl h
    · have := hw.size
      have hgl := blk_lt h2
      refine .inr ⟨h0, g, fun i => w.heap.size ≤ i ∧ i < w'.heap.size, h1, ⟨⟨bv, .nil, h2, own_zero h3, trivial, rfl, List.nodup_nil, ⟨h4, hgl⟩, fun k hk => ⟨own_base h3 k hk, own_lt h3 k hk⟩, fun i hi => ?_⟩, List.Pairwise.nil, ⟨0, fun x hx => by cases hx⟩, by simp, h0, fun i hi => ⟨by omega, hi.2⟩, hw.trans (h5.mono this)⟩, fun i hi => hi.1, h5⟩
      rcases hi with hi | hi <;> cases hi
theorem tsins_any (h : TS w0 w F g bs L) (xs : List S34) (A : Option Addr) (c : Nat) (hr : RdX w A xs) (hl : xs.length ≤ 17592186044415) (hn : ∀ b o, A = some ⟨b, o, none⟩ → ¬ F b) :
    Calls Try.prog 34 #[.pointer (some ⟨g, 0, none⟩), .slice A xs.length c] w fun e w' =>
      (mayL L xs = false ∧ e = .returned (.int .i64 1900) ∧ Below w.heap.size w w') ∨
      (mayL L xs = true ∧ twi L [] xs = true ∧ e = .returned (.int .i64 1901) ∧ Below w.heap.size w w') ∨
      (mayL L xs = true ∧ twi L [] xs = false ∧ e = .returned (.int .i64 0) ∧ ∃ F', TS w0 w' F' g bs (insAll L xs) ∧ (∀ i, F' i → F i ∨ w.heap.size ≤ i) ∧ Chg F w w') := by
  obtain ⟨bv, t, h1, h2, h3, h4, h5, h6, h7, h8⟩ := h.st
  have hti : TI w w (fun i => i ∈ t.blks ∨ i ∈ t.hbs) g bv bs t L := ⟨h1, h2, h3, h4, h5, h.srt, fun i hi => .inl hi, Chg.refl _ _⟩
  have he : (imays t.ser xs && decide ((L.length : Int) + xs.length ≤ 8192)) = mayL L xs := by unfold mayL; rw [ser_eq h4 h.one]
  by_cases hm : mayL L xs = true
  · by_cases ht : twi L [] xs = true
    · exact (tins_twice hti xs A c hr hl h.len h.one (he.trans hm) ht).mono fun e w' hh => .inr (.inl ⟨hm, ht, hh⟩)
    · have ht : twi L [] xs = false := by simpa using ht
      refine (tins_self hti xs A c hr hl h.len h.one h.bm (he.trans hm) ht (fun b o e hb => hn b o e (by
        rcases hb with rfl | hb | hb
        · exact h6
        · exact h8 _ (.inl hb)
        · exact h8 _ (.inr hb)))).mono fun e w' hh => .inr (.inr ⟨hm, ht, hh.1, ?_⟩)
      obtain ⟨-, u, k⟩ := hh
      have hmm := Bool.and_eq_true_iff.1 (he.trans hm)
      have hle := of_decide_eq_true hmm.2
      have hc : Chg F w w' := k.chg.mono (fun i _ hi => by
        rcases hi with rfl | hi
        · exact h6
        · exact h8 i hi)
      refine ⟨fun i => (F i ∨ w.heap.size ≤ i) ∧ i < w'.heap.size, ⟨⟨bv, u, k.hg, k.bo, k.tr, k.ok, k.nd, ⟨.inl h6, blk_lt k.hg⟩, fun i hi => ⟨.inl (h7 i hi), own_lt k.bo i hi⟩, fun i hi => ⟨?_, ?_⟩⟩, k.srt, ?_, ?_, h.bm, fun i hi => ⟨?_, hi.2⟩, Chg.base h.bel hc h.bel.size (fun i hi => (h.new i hi).1)⟩, fun i hi => hi.1, hc⟩
      · exact (k.fr i hi).imp (fun hh => h8 i hh) id
      · exact hi.elim (fun hh => k.tr.lt.1 i hh) (fun hh => k.tr.lt.2 i hh)
      · exact (imays_all h4 h.one hmm.1).sub (fun x hx => List.mem_append.2 (insAll_mem.1 hx))
      · rw [insAll_len]
        omega
      · have := h.bel.size
        rcases hi.1 with hi | hi
        · exact (h.new i hi).1
        · omega
  · have hm : mayL L xs = false := by simpa using hm
    exact (tins_form hti xs A c hr hl h.len (he.trans hm)).mono fun e w' hh => .inl ⟨hm, hh⟩
theorem tsrange_any (h : TS w0 w F g bs L) (S E : Int) :
    Calls Try.prog 38 #[.pointer (some ⟨g, 0, none⟩), .agg #[.int .i64 S, .int .i64 E]] w fun e w' => ∃ v, e = .returned (acV (joinA bs (its bs (flt S E L))) v) ∧ Own w' w.heap.size v (joinA bs (its bs (flt S E L))).f6 ∧ Below w.heap.size w w' := by
  obtain ⟨bv, t, h1, h2, h3, h4, h5, h6, h7, h8⟩ := h.st
  obtain ⟨s, gd⟩ := h.one.gd h.bm h.len
  exact trange_any t L S E h1 h2 h3 h4 h.srt gd
def low (v : Int) (L : List S34) : List S34 := L.filter (fun y => decide (y.f1 < v))
def hig (v : Int) (L : List S34) : List S34 := L.filter (fun y => !decide (y.f1 < v))
theorem low_cut {v : Int} {L : List S34} (h : Srt L) : L = low v L ++ hig v L := srt_cut (p := fun y => decide (y.f1 < v)) (fun a b hab hb => by
  have := ord_time hab
  have hb := of_decide_eq_true hb
  exact decide_eq_true (by omega)) h
theorem tsevict_any (h : TS w0 w F g bs L) (v : Int) :
    Calls Try.prog 40 #[.pointer (some ⟨g, 0, none⟩), .int .i64 v] w fun e w' => e = .returned (.int .i64 (low v L).length) ∧ ∃ F', TS w0 w' F' g bs (hig v L) ∧ (∀ i, F' i → F i ∨ w.heap.size ≤ i) ∧ Chg F w w' := by
  obtain ⟨bv, t, h1, h2, h3, h4, h5, h6, h7, h8⟩ := h.st
  obtain ⟨s, gd⟩ := h.one.gd h.bm h.len
  refine (tevict_any t L (low v L) (hig v L) v h1 h2 h3 h5 h4 gd (low_cut h.srt) (fun y hy => by have := (List.mem_filter.1 hy).2; exact this) (fun y hy => by have := (List.mem_filter.1 hy).2; simpa using this)).mono fun e w' hh => ?_
  obtain ⟨u, r0, r1, r2, r3, r4, r5, r6, r7⟩ := hh
  have hc : Chg F w w' := r7.mono (fun i _ hi => by
    rcases hi with rfl | hi
    · exact h6
    · exact h8 i (.inl hi))
  refine ⟨r0, fun i => (F i ∨ w.heap.size ≤ i) ∧ i < w'.heap.size, ⟨⟨bv, u, r1, h2.keep r7 (fun k hk hs => ?_), r2, r3, r4, ⟨.inl h6, blk_lt r1⟩, fun i hi => ⟨.inl (h7 i hi), Nat.lt_of_lt_of_le (own_lt h2 i hi) r7.size⟩, fun i hi => ⟨?_, ?_⟩⟩, ?_, h.one.sub (fun x hx => (List.mem_filter.1 hx).1), Nat.le_trans (List.length_filter_le ..) h.len, h.bm, fun i hi => ⟨?_, hi.2⟩, Chg.base h.bel hc h.bel.size (fun i hi => (h.new i hi).1)⟩, fun i hi => hi.1, hc⟩
  · rcases hs with e | hs
    · exact row_noq h2 h1 (by decide) (by rw [hk, e])
    · obtain ⟨cs, h9⟩ := h3.kind.1 k hs
      exact row_noq h2 h9 (by decide) hk.symm
  · rcases hi with hi | hi
    · exact .inl (h8 i (.inl (r5 i hi)))
    · exact (r6 i hi).imp (fun hh => h8 i (.inr hh)) id
  · exact hi.elim (fun hh => r2.lt.1 i hh) (fun hh => r2.lt.2 i hh)
  · have := low_cut (v := v) h.srt ▸ h.srt
    exact srt_right this
  · have := h.bel.size
    rcases hi.1 with hi | hi
    · exact (h.new i hi).1
    · omega
theorem tsitems_any (h : TS w0 w F g bs L) :
    Calls Try.prog 42 #[.pointer (some ⟨g, 0, none⟩)] w fun e w' => ∃ v, e = .returned v ∧ OwX w' w.heap.size v L ∧ Below w.heap.size w w' := by
  obtain ⟨bv, t, h1, h2, h3, h4, h5, h6, h7, h8⟩ := h.st
  exact titems_any t L h1 h3 h4 h.len
end
end Go.Proofs.Ytfgabafbcephaaa.My

namespace Go.Proofs.Ytfgabafbcephaaa.My
open Go.RowKit Pa Go.Proofs.YtfgabafbcephaaaW.PrintWords
set_option linter.unusedSimpArgs false
def y1 : S34 := ⟨0, 5, 1, 2⟩
def y2 : S34 := ⟨0, 3, 2, 4⟩
def y3 : S34 := ⟨0, 5, 3, 8⟩
def yA : S36 := ⟨1, 4, 4, 4, y2, y2, [1]⟩
def yB : S36 := ⟨2, 10, 2, 8, y1, y3, [2]⟩
theorem y_ins : mayL [] [y1, y2, y3] = true ∧ twi [] [] [y1, y2, y3] = false ∧ insAll [] [y1, y2, y3] = [y2, y1, y3] := ⟨by kernel_rfl, by kernel_rfl, by kernel_rfl⟩
theorem y_two : twi [y2, y1, y3] [] [⟨0, 9, 4, 1⟩, ⟨0, 5, 3, 1⟩] = true := by decide +kernel
theorem y_two2 : mayL [y2, y1, y3] [⟨0, 9, 4, 1⟩, ⟨0, 5, 3, 1⟩] = true := by decide +kernel
theorem y_form : mayL [y2, y1, y3] [⟨1, 9, 4, 1⟩] = false := by decide +kernel
theorem y_ra : joinA [] (its [] (flt 3 5 [y2, y1, y3])) = yA := by kernel_rfl
theorem y_rb : joinA [] (its [] (flt 5 6 [y2, y1, y3])) = yB := by kernel_rfl
theorem y_ev : (low 5 [y2, y1, y3]).length = 1 ∧ hig 5 [y2, y1, y3] = [y1, y3] := ⟨by kernel_rfl, by kernel_rfl⟩
theorem two_new (w : World) (a b : Obj) : ((w.alloc a).alloc b).heap[w.heap.size]? = some a ∧ ((w.alloc a).alloc b).heap[w.heap.size + 1]? = some b ∧ Below w.heap.size w ((w.alloc a).alloc b) := by
  refine ⟨blk_below (heap_alloc_new w a) ((Below.refl _ _).alloc (Nat.le_refl _) _), ?_, ((Below.refl w.heap.size w).alloc (Nat.le_refl _) _).alloc (by simp) _⟩
  have := heap_alloc_new (w.alloc a) b
  rw [show (w.alloc a).heap.size = w.heap.size + 1 from by simp] at this
  exact this
set_option maxHeartbeats 16000000 in
set_option maxRecDepth 100000 in
theorem awake19_any (w : World) : Calls Try.prog 31 #[] w fun e w' => e = .returned (.bool true) ∧ Below w.heap.size w w' := by
  go_enter Try.func31, Try.ntmps31
  go_wp2_with fail
  refine (tsnew_any (w0 := w) [] none 0 (Below.refl _ _) (rdI_none _) (by simp)).mono ?_
  rintro e w1 (⟨h, _⟩ | ⟨_, g, F1, rfl, hq, -, -⟩)
  · exact absurd h (by rw [q_new.1]; simp)
  have Q1 := Lib.hid hq
  clear hq
  go_wp2_with fail
  have hb : Below w1.heap.size w1 (w1.alloc (.cells #[.int .i64 2, .int .i64 1] 3)) := (Below.refl w1.heap.size w1).alloc (Nat.le_refl _) _
  have hrb : RdI (w1.alloc (.cells #[.int .i64 2, .int .i64 1] 3)) (some ⟨w1.heap.size, 0, none⟩) [2, 1] := rdI_blk (heap_alloc_new w1 (.cells #[.int .i64 2, .int .i64 1] 3)) (by decide)
  have Q2 := Lib.hid (Q1.out.quiet hb)
  have HR := Lib.hid hrb
  clear hb hrb Q1
  generalize w1.alloc (.cells #[.int .i64 2, .int .i64 1] 3) = w2 at *
  refine (tnew_any [2, 1] (some ⟨w1.heap.size, 0, none⟩) 2 w2 HR.out (by simp)).mono ?_
  rintro e w3 (⟨_, rfl, hb⟩ | ⟨h, _⟩)
  rotate_left 1
  · exact absurd h (by rw [q_new.2]; simp)
  have Q3 := Lib.hid (Q2.out.quiet hb)
  clear hb Q2 HR
  go_wp2_with fail
  refine (num_any _ _).mono ?_
  rintro e w' ⟨rfl, rfl⟩
  go_wp2_with fail
  refine (item19_any 0 5 1 2 _).mono ?_
  rintro e w4 ⟨rfl, hb⟩
  have Q4 := Lib.hid (Q3.out.quiet hb)
  clear hb Q3
  go_wp2_with fail
  refine (item19_any 0 3 2 4 _).mono ?_
  rintro e w5 ⟨rfl, hb⟩
  have Q5 := Lib.hid (Q4.out.quiet hb)
  clear hb Q4
  go_wp2_with fail
  refine (item19_any 0 5 3 8 _).mono ?_
  rintro e w6 ⟨rfl, hb⟩
  have Q6 := Lib.hid (Q5.out.quiet hb)
  clear hb Q5
  go_wp2_with fail
  show Calls _ _ _ (w6.alloc (.cells (flatX [y1, y2, y3] ++ []).toArray 34)) _
  have hal : Below w6.heap.size w6 (w6.alloc (.cells (flatX [y1, y2, y3] ++ []).toArray 34)) := (Below.refl _ _).alloc (Nat.le_refl _) _
  have HX := Lib.hid (rdX_blk (heap_alloc_new w6 (.cells (flatX [y1, y2, y3] ++ []).toArray 34)))
  have HN := Lib.hid (fun h => by have := (Q6.out.new w6.heap.size h).2; omega : ¬ F1 w6.heap.size)
  have Q7 := Lib.hid (Q6.out.quiet hal)
  clear hal Q6
  generalize w6.alloc (.cells (flatX [y1, y2, y3] ++ []).toArray 34) = w7 at *
  generalize w6.heap.size = ab at *
  refine (tsins_any Q7.out [y1, y2, y3] (some ⟨ab, 0, none⟩) 3 HX.out (by decide) (fun b o e hf => HN.out (by injection e with e; injection e with e; exact e ▸ hf))).mono ?_
  rintro e w8 (⟨h, _⟩ | ⟨_, h, _⟩ | ⟨-, -, rfl, F2, hq, -, -⟩)
  · exact absurd h (by rw [y_ins.1]; simp)
  · exact absurd h (by rw [y_ins.2.1]; simp)
  rw [y_ins.2.2] at hq
  have Q8 := Lib.hid hq
  clear hq HX HN Q7
  go_wp2_with fail
  refine (item19_any 0 9 4 1 _).mono ?_
  rintro e w9 ⟨rfl, hb⟩
  have Q9 := Lib.hid (Q8.out.quiet hb)
  clear hb Q8
  go_wp2_with fail
  refine (item19_any 0 5 3 1 _).mono ?_
  rintro e wa ⟨rfl, hb⟩
  have Qa := Lib.hid (Q9.out.quiet hb)
  clear hb Q9
  go_wp2_with fail
  show Calls _ _ _ (wa.alloc (.cells (flatX [⟨0, 9, 4, 1⟩, ⟨0, 5, 3, 1⟩] ++ []).toArray 34)) _
  have hal : Below wa.heap.size wa (wa.alloc (.cells (flatX [⟨0, 9, 4, 1⟩, ⟨0, 5, 3, 1⟩] ++ []).toArray 34)) := (Below.refl _ _).alloc (Nat.le_refl _) _
  have HX := Lib.hid (rdX_blk (heap_alloc_new wa (.cells (flatX [⟨0, 9, 4, 1⟩, ⟨0, 5, 3, 1⟩] ++ []).toArray 34)))
  have HN := Lib.hid (fun h => by have := (Qa.out.new wa.heap.size h).2; omega : ¬ F2 wa.heap.size)
  have Qb := Lib.hid (Qa.out.quiet hal)
  clear hal Qa
  generalize wa.alloc (.cells (flatX [⟨0, 9, 4, 1⟩, ⟨0, 5, 3, 1⟩] ++ []).toArray 34) = wb at *
  generalize wa.heap.size = ac at *
  refine (tsins_any Qb.out [⟨0, 9, 4, 1⟩, ⟨0, 5, 3, 1⟩] (some ⟨ac, 0, none⟩) 2 HX.out (by decide) (fun b o e hf => HN.out (by injection e with e; injection e with e; exact e ▸ hf))).mono ?_
  rintro e wc (⟨h, _⟩ | ⟨-, -, rfl, hb⟩ | ⟨_, h, _⟩)
  · exact absurd h (by rw [y_two2]; simp)
  rotate_left 1
  · exact absurd h (by rw [y_two]; simp)
  have Qc := Lib.hid (Qb.out.quiet hb)
  clear hb HX HN Qb
  go_wp2_with fail
  refine (item19_any 1 9 4 1 _).mono ?_
  rintro e wd ⟨rfl, hb⟩
  have Qd := Lib.hid (Qc.out.quiet hb)
  clear hb Qc
  go_wp2_with fail
  show Calls _ _ _ (wd.alloc (.cells (flatX [⟨1, 9, 4, 1⟩] ++ []).toArray 34)) _
  have hal : Below wd.heap.size wd (wd.alloc (.cells (flatX [⟨1, 9, 4, 1⟩] ++ []).toArray 34)) := (Below.refl _ _).alloc (Nat.le_refl _) _
  have HX := Lib.hid (rdX_blk (heap_alloc_new wd (.cells (flatX [⟨1, 9, 4, 1⟩] ++ []).toArray 34)))
  have HN := Lib.hid (fun h => by have := (Qd.out.new wd.heap.size h).2; omega : ¬ F2 wd.heap.size)
  have Qe := Lib.hid (Qd.out.quiet hal)
  clear hal Qd
  generalize wd.alloc (.cells (flatX [⟨1, 9, 4, 1⟩] ++ []).toArray 34) = we at *
  generalize wd.heap.size = ad at *
  refine (tsins_any Qe.out [⟨1, 9, 4, 1⟩] (some ⟨ad, 0, none⟩) 1 HX.out (by decide) (fun b o e hf => HN.out (by injection e with e; injection e with e; exact e ▸ hf))).mono ?_
  rintro e wf (⟨-, rfl, hb⟩ | ⟨h, _⟩ | ⟨h, _⟩)
  rotate_left 1
  · exact absurd h (by rw [y_form]; simp)
  · exact absurd h (by rw [y_form]; simp)
  have Qf := Lib.hid (Qe.out.quiet hb)
  clear hb HX HN Qe
  go_wp2_with fail
  refine (tsrange_any Qf.out 3 5).mono ?_
  rintro e wg ⟨v, rfl, how, hb⟩
  rw [y_ra] at how ⊢
  obtain ⟨A4, c4, rfl, _, _⟩ := how.reads
  have Qg := Lib.hid (Qf.out.quiet hb)
  clear hb how Qf
  simp only [acV, yA, List.length_cons, List.length_nil, Nat.zero_add, Nat.reduceAdd]
  go_wp2_with fail
  refine (tsrange_any Qg.out 5 6).mono ?_
  rintro e wh ⟨v, rfl, how, hb⟩
  rw [y_rb] at how ⊢
  obtain ⟨A5, c5, rfl, _, _⟩ := how.reads
  have Qh := Lib.hid (Qg.out.quiet hb)
  clear hb how Qg
  simp only [acV, yB, List.length_cons, List.length_nil, Nat.zero_add, Nat.reduceAdd]
  go_wp2_with fail
  show Calls _ _ _ ((wh.alloc (acO yA (.slice A4 1 c4))).alloc (acO yB (.slice A5 1 c5))) _
  obtain ⟨ha, hbb, hal⟩ := two_new wh (acO yA (.slice A4 1 c4)) (acO yB (.slice A5 1 c5))
  have VA := Lib.hid ha
  have VB := Lib.hid hbb
  have NF := Lib.hid (And.intro (fun h => by have := (Qh.out.new wh.heap.size h).2; omega : ¬ F2 wh.heap.size) (fun h => by have := (Qh.out.new (wh.heap.size + 1) h).2; omega : ¬ F2 (wh.heap.size + 1)))
  have Qi := Lib.hid (Qh.out.quiet hal)
  clear ha hbb hal Qh
  generalize (wh.alloc (acO yA (.slice A4 1 c4))).alloc (acO yB (.slice A5 1 c5)) = wi at *
  generalize wh.heap.size + 1 = vb at *
  generalize wh.heap.size = va at *
  refine (tsevict_any Qi.out 5).mono ?_
  rintro e wj ⟨rfl, F3, hq, hF, hc⟩
  rw [y_ev.1]
  rw [y_ev.2] at hq
  have VAj := Lib.hid (hc.obj VA.out NF.out.1)
  have VBj := Lib.hid (hc.obj VB.out NF.out.2)
  have Qj := Lib.hid hq
  clear hq hF hc VA VB NF Qi
  obtain ⟨x0, x1, x2, x3, x4, x5, x6, x7, x8, x9, x10, x11, x12, xl⟩ := acO_facts VAj.out
  obtain ⟨z0, z1, z2, z3, z4, z5, z6, z7, z8, z9, z10, z11, z12, zl⟩ := acO_facts VBj.out
  clear x2 x3 x4 x5 x6 x7 x8 x9 x10 x11 x12 z2 z3 z4 z5 z6 z7 z8 z9 z10 z11 z12
  simp only [yA, yB] at x0 x1 z0 z1
  go_wp2_with fail
  refine (num_any _ _).mono ?_
  rintro e w' ⟨rfl, rfl⟩
  iterate 3 (
    go_wp2_with fail
    refine (num_any _ _).mono ?_
    rintro e w' ⟨rfl, rfl⟩)
  go_wp2_with fail
  refine (tsitems_any Qj.out).mono ?_
  rintro e wk ⟨v, rfl, how, hb⟩
  have Qk := Lib.hid (Qj.out.quiet hb)
  have OX := Lib.hid how
  obtain ⟨A6, c6, rfl, _⟩ := row_form how
  clear hb how Qj x0 x1 z0 z1 xl zl VAj VBj
  go_wp2_with fail
  refine (item19_any 0 5 1 2 _).mono ?_
  rintro e wl ⟨rfl, hb⟩
  have Ql := Lib.hid (Qk.out.quiet hb)
  replace OX := Lib.hid (OX.out.below hb)
  clear hb Qk
  go_wp2_with fail
  refine (item19_any 0 5 3 8 _).mono ?_
  rintro e wm ⟨rfl, hb⟩
  have Qm := Lib.hid (Ql.out.quiet hb)
  replace OX := Lib.hid (OX.out.below hb)
  clear hb Ql
  go_wp2_with fail
  show Calls _ _ _ (wm.alloc (.cells (flatX [y1, y3] ++ []).toArray 34)) _
  have hal : Below wm.heap.size wm (wm.alloc (.cells (flatX [y1, y3] ++ []).toArray 34)) := (Below.refl _ _).alloc (Nat.le_refl _) _
  have HX := Lib.hid (rdX_blk (heap_alloc_new wm (.cells (flatX [y1, y3] ++ []).toArray 34)))
  have Qn := Lib.hid (Qm.out.quiet hal)
  replace OX := Lib.hid (OX.out.below hal)
  clear hal Qm
  generalize wm.alloc (.cells (flatX [y1, y3] ++ []).toArray 34) = wn at *
  generalize wm.heap.size = ae at *
  obtain ⟨A7, c7, he, hc7, hr7⟩ := OX.out.reads
  injection he with he1 he2 he3
  subst he1 he3
  refine (xsame_any A6 (some ⟨ae, 0, none⟩) c6 2 [y1, y3] wn hr7 HX.out (by simp)).mono ?_
  rintro e wo ⟨rfl, hb⟩
  have Qo := Lib.hid (Qn.out.quiet hb)
  clear hb Qn
  go_wp2_with fail
  go_ret
  exact ⟨rfl, Qo.out.bel⟩
end Go.Proofs.Ytfgabafbcephaaa.My

namespace Go.Proofs.Ytfgabafbcephaaa.My
open Go.RowKit Pa Go.Proofs.YtfgabafbcephaaaW.PrintWords
set_option linter.unusedSimpArgs false
theorem imays_yes {s : Int} : ∀ {xs : List S34} {r : Int}, (r < 0 ∨ r = s) → (∀ x ∈ xs, imay x = true ∧ x.f0 = s) → imays r xs = true := by
  intro xs
  induction xs with
  | nil => intro r _ _; rfl
  | cons x xs ih =>
    intro r hr h
    have hx := h x (List.mem_cons_self ..)
    rw [imays, hx.1, ih (.inr hx.2) (fun y hy => h y (List.mem_cons_of_mem _ hy))]
    rcases hr with hr | hr
    · simp [hr]
    · simp [hr, hx.2]
theorem seen_no {x : S34} {S : List S34} (h : ∀ y ∈ S, ord y x ≠ 0) : seen x S = false := by
  unfold seen
  refine List.any_eq_false.2 (fun y hy e => h y hy ?_)
  rw [Bool.and_eq_true_iff] at e
  exact ord_zero.2 ⟨by simpa using e.1, by simpa using e.2⟩
theorem twi_yes {L : List S34} : ∀ {xs S : List S34}, xs.Pairwise (fun a b => ord a b ≠ 0) → (∀ x ∈ xs, ∀ y ∈ L, ord x y ≠ 0) → (∀ x ∈ xs, ∀ y ∈ S, ord y x ≠ 0) → twi L S xs = false := by
  intro xs
  induction xs with
  | nil => intro S _ _ _; rfl
  | cons x r ih =>
    intro S hp hL hS
    obtain ⟨p1, p2⟩ := List.pairwise_cons.1 hp
    rw [twi, seen_no (hS x (List.mem_cons_self ..)), hasB_false (hL x (List.mem_cons_self ..)), ih p2 (fun y hy => hL y (List.mem_cons_of_mem _ hy)) (fun y hy z hz => ?_)]
    · rfl
    · rcases List.mem_append.1 hz with hz | hz
      · exact hS y (List.mem_cons_of_mem _ hy) z hz
      · rw [List.mem_singleton.1 hz]
        exact p1 y hy
end Go.Proofs.Ytfgabafbcephaaa.My

namespace Go.Proofs.Ytfgabafbcephaaa.Pa
open Go.RowKit Go.Proofs.YtfgabafbcephaaaW.PrintWords Go.Proofs.YtfgabafbcephaaaW.PrintLast Go.Proofs.YtfgabafbcephaaaW.PrintMore
attribute [local go_sem] max2_int min2_int max_two min_two max_three min_three max_four min_four   -- for this text's walks alone
set_option linter.unusedVariables false
set_option linter.unusedSimpArgs false

def bourneref1_One.f (a0_0 : Int) (a0_1 : Int) (a0_2 : Int) (a0_3 : Int) (l1 : List Int) : Option (Int × Int × Int × Int × Int × Int × Int × Int × Int × Int × Int × Int × List Int × Int) := (fun p => some (p.1.f0, p.1.f1, p.1.f2, p.1.f3, p.1.f4.f0, p.1.f4.f1, p.1.f4.f2, p.1.f4.f3, p.1.f5.f0, p.1.f5.f1, p.1.f5.f2, p.1.f5.f3, p.1.f6, p.2)) (My.oneRes ⟨a0_0, a0_1, a0_2, a0_3⟩ l1)
theorem bourneref1_One.calls (a0_0 : Int) (a0_1 : Int) (a0_2 : Int) (a0_3 : Int) (A1 : Option Addr) (c1 : Nat) (l1 : List Int) (r1 : Int) (r2 : Int) (r3 : Int) (r4 : Int) (r5 : Int) (r6 : Int) (r7 : Int) (r8 : Int) (r9 : Int) (r10 : Int) (r11 : Int) (r12 : Int) (r13 : List Int) (r14 : Int) (w : World) (hr1 : Kd.C (Kd.int .i64) w A1 l1.length l1) (hc1 : l1.length ≤ c1) (h : bourneref1_One.f a0_0 a0_1 a0_2 a0_3 l1 = some (r1, r2, r3, r4, r5, r6, r7, r8, r9, r10, r11, r12, r13, r14)) :
    Calls Try.prog 53 #[.agg #[.int .i64 a0_0, .int .i64 a0_1, .int .i64 a0_2, .int .i64 a0_3], .slice A1 l1.length c1] w fun e w' => ∃ v12_ : Value, e = .returned (.tuple #[.agg #[.int .i64 r1, .int .i64 r2, .int .i64 r3, .int .i64 r4, .int .i64 r5, .int .i64 r6, .int .i64 r7, .int .i64 r8, .int .i64 r9, .int .i64 r10, .int .i64 r11, .int .i64 r12, v12_], .int .i64 r14]) ∧ Kd.R (Kd.int .i64) 3 w' w.heap.size (fun _ => True) v12_ r13 ∧ Below w.heap.size w w' := by
  unfold bourneref1_One.f at h
  simp only [Option.some.injEq, Prod.mk.injEq] at h
  obtain ⟨rfl, rfl, rfl, rfl, rfl, rfl, rfl, rfl, rfl, rfl, rfl, rfl, rfl, rfl⟩ := h
  refine (My.rone_any ⟨a0_0, a0_1, a0_2, a0_3⟩ l1 A1 c1 w hr1 hc1).mono ?_
  rintro e w' ⟨v, he, ho, hb⟩
  exact ⟨v, he, Kd.R_of_own ho (fun _ _ => trivial), hb⟩
end Go.Proofs.Ytfgabafbcephaaa.Pa

namespace Go.Proofs.Ytfgabafbcephaaa.Pa
open Go.RowKit Go.Proofs.YtfgabafbcephaaaW.PrintWords Go.Proofs.YtfgabafbcephaaaW.PrintLast Go.Proofs.YtfgabafbcephaaaW.PrintMore
attribute [local go_sem] max2_int min2_int max_two min_two max_three min_three max_four min_four   -- for this text's walks alone
set_option linter.unusedVariables false
set_option linter.unusedSimpArgs false

def bourneref1_two.f (a0_0 : Int) (a0_1 : Int) (a0_2 : Int) (a0_3 : Int) (a0_4 : Int) (a0_5 : Int) (a0_6 : Int) (a0_7 : Int) (a0_8 : Int) (a0_9 : Int) (a0_10 : Int) (a0_11 : Int) (l0_12 : List Int) (a1_0 : Int) (a1_1 : Int) (a1_2 : Int) (a1_3 : Int) (a1_4 : Int) (a1_5 : Int) (a1_6 : Int) (a1_7 : Int) (a1_8 : Int) (a1_9 : Int) (a1_10 : Int) (a1_11 : Int) (l1_12 : List Int) : Option (Int × Int × Int × Int × Int × Int × Int × Int × Int × Int × Int × Int × List Int) := if My.TwoOk ⟨a0_0, a0_1, a0_2, a0_3, ⟨a0_4, a0_5, a0_6, a0_7⟩, ⟨a0_8, a0_9, a0_10, a0_11⟩, l0_12⟩ ⟨a1_0, a1_1, a1_2, a1_3, ⟨a1_4, a1_5, a1_6, a1_7⟩, ⟨a1_8, a1_9, a1_10, a1_11⟩, l1_12⟩ then ((fun (p : S36) => some (p.f0, p.f1, p.f2, p.f3, p.f4.f0, p.f4.f1, p.f4.f2, p.f4.f3, p.f5.f0, p.f5.f1, p.f5.f2, p.f5.f3, p.f6)) (My.twoA ⟨a0_0, a0_1, a0_2, a0_3, ⟨a0_4, a0_5, a0_6, a0_7⟩, ⟨a0_8, a0_9, a0_10, a0_11⟩, l0_12⟩ ⟨a1_0, a1_1, a1_2, a1_3, ⟨a1_4, a1_5, a1_6, a1_7⟩, ⟨a1_8, a1_9, a1_10, a1_11⟩, l1_12⟩)) else none
theorem bourneref1_two.calls (a0_0 : Int) (a0_1 : Int) (a0_2 : Int) (a0_3 : Int) (a0_4 : Int) (a0_5 : Int) (a0_6 : Int) (a0_7 : Int) (a0_8 : Int) (a0_9 : Int) (a0_10 : Int) (a0_11 : Int) (A0_12 : Option Addr) (c0_12 : Nat) (l0_12 : List Int) (a1_0 : Int) (a1_1 : Int) (a1_2 : Int) (a1_3 : Int) (a1_4 : Int) (a1_5 : Int) (a1_6 : Int) (a1_7 : Int) (a1_8 : Int) (a1_9 : Int) (a1_10 : Int) (a1_11 : Int) (A1_12 : Option Addr) (c1_12 : Nat) (l1_12 : List Int) (r1 : Int) (r2 : Int) (r3 : Int) (r4 : Int) (r5 : Int) (r6 : Int) (r7 : Int) (r8 : Int) (r9 : Int) (r10 : Int) (r11 : Int) (r12 : Int) (r13 : List Int) (w : World) (hr0_12 : Kd.C (Kd.int .i64) w A0_12 l0_12.length l0_12) (hc0_12 : l0_12.length ≤ c0_12) (hr1_12 : Kd.C (Kd.int .i64) w A1_12 l1_12.length l1_12) (hc1_12 : l1_12.length ≤ c1_12) (h : bourneref1_two.f a0_0 a0_1 a0_2 a0_3 a0_4 a0_5 a0_6 a0_7 a0_8 a0_9 a0_10 a0_11 l0_12 a1_0 a1_1 a1_2 a1_3 a1_4 a1_5 a1_6 a1_7 a1_8 a1_9 a1_10 a1_11 l1_12 = some (r1, r2, r3, r4, r5, r6, r7, r8, r9, r10, r11, r12, r13)) :
    Calls Try.prog 76 #[.agg #[.int .i64 a0_0, .int .i64 a0_1, .int .i64 a0_2, .int .i64 a0_3, .int .i64 a0_4, .int .i64 a0_5, .int .i64 a0_6, .int .i64 a0_7, .int .i64 a0_8, .int .i64 a0_9, .int .i64 a0_10, .int .i64 a0_11, .slice A0_12 l0_12.length c0_12], .agg #[.int .i64 a1_0, .int .i64 a1_1, .int .i64 a1_2, .int .i64 a1_3, .int .i64 a1_4, .int .i64 a1_5, .int .i64 a1_6, .int .i64 a1_7, .int .i64 a1_8, .int .i64 a1_9, .int .i64 a1_10, .int .i64 a1_11, .slice A1_12 l1_12.length c1_12]] w fun e w' => ∃ v12_ : Value, e = .returned (.agg #[.int .i64 r1, .int .i64 r2, .int .i64 r3, .int .i64 r4, .int .i64 r5, .int .i64 r6, .int .i64 r7, .int .i64 r8, .int .i64 r9, .int .i64 r10, .int .i64 r11, .int .i64 r12, v12_]) ∧ Kd.R (Kd.int .i64) 3 w' w.heap.size (fun _ => True) v12_ r13 ∧ Below w.heap.size w w' := by
  unfold bourneref1_two.f at h
  by_cases hk : My.TwoOk ⟨a0_0, a0_1, a0_2, a0_3, ⟨a0_4, a0_5, a0_6, a0_7⟩, ⟨a0_8, a0_9, a0_10, a0_11⟩, l0_12⟩ ⟨a1_0, a1_1, a1_2, a1_3, ⟨a1_4, a1_5, a1_6, a1_7⟩, ⟨a1_8, a1_9, a1_10, a1_11⟩, l1_12⟩
  · rw [if_pos hk] at h
    simp only [Option.some.injEq, Prod.mk.injEq] at h
    obtain ⟨rfl, rfl, rfl, rfl, rfl, rfl, rfl, rfl, rfl, rfl, rfl, rfl, rfl⟩ := h
    refine (My.two_any ⟨a0_0, a0_1, a0_2, a0_3, ⟨a0_4, a0_5, a0_6, a0_7⟩, ⟨a0_8, a0_9, a0_10, a0_11⟩, l0_12⟩ ⟨a1_0, a1_1, a1_2, a1_3, ⟨a1_4, a1_5, a1_6, a1_7⟩, ⟨a1_8, a1_9, a1_10, a1_11⟩, l1_12⟩ A0_12 c0_12 A1_12 c1_12 w hr0_12 hr1_12 hk).mono ?_
    rintro e w' ⟨v, he, ho, hb⟩
    exact ⟨v, he, Kd.R_of_own ho (fun _ _ => trivial), hb⟩
  · rw [if_neg hk] at h
    cases h
end Go.Proofs.Ytfgabafbcephaaa.Pa

namespace Go.Proofs.Ytfgabafbcephaaa.Pa
open Go.RowKit Go.Proofs.YtfgabafbcephaaaW.PrintWords Go.Proofs.YtfgabafbcephaaaW.PrintLast Go.Proofs.YtfgabafbcephaaaW.PrintMore
attribute [local go_sem] max2_int min2_int max_two min_two max_three min_three max_four min_four   -- for this text's walks alone
set_option linter.unusedVariables false
set_option linter.unusedSimpArgs false

def bourneref1_Fold.l0 : Nat → List (S34) → List Int → Int → Int → Int → Int → Int → Int → Int → Int → Int → Int → Int → Int → Int → List Int → Option (Int × Int × Int × Int × Int × Int × Int × Int × Int × Int × Int × Int × List Int)
  | 0, _, _, _, _, _, _, _, _, _, _, _, _, _, _, _, _ => none
  | k + 1, x0, x1, x6, x303000, x303001, x303002, x303003, x303004, x303005, x303006, x303007, x303008, x303009, x303010, x303011, x303012 => if x6 < (x0.length : Int) then (if 0 ≤ x6 then ((bourneref1_One.f ((rd_T34 x0 x6).f0) ((rd_T34 x0 x6).f1) ((rd_T34 x0 x6).f2) ((rd_T34 x0 x6).f3) x1).bind fun bt304 => (if x303000 = 0 then (bourneref1_Fold.l0 k x0 x1 (wrap64 (x6 + 1)) bt304.1 bt304.2.1 bt304.2.2.1 bt304.2.2.2.1 bt304.2.2.2.2.1 bt304.2.2.2.2.2.1 bt304.2.2.2.2.2.2.1 bt304.2.2.2.2.2.2.2.1 bt304.2.2.2.2.2.2.2.2.1 bt304.2.2.2.2.2.2.2.2.2.1 bt304.2.2.2.2.2.2.2.2.2.2.1 bt304.2.2.2.2.2.2.2.2.2.2.2.1 bt304.2.2.2.2.2.2.2.2.2.2.2.2.1) else ((bourneref1_two.f x303000 x303001 x303002 x303003 x303004 x303005 x303006 x303007 x303008 x303009 x303010 x303011 x303012 bt304.1 bt304.2.1 bt304.2.2.1 bt304.2.2.2.1 bt304.2.2.2.2.1 bt304.2.2.2.2.2.1 bt304.2.2.2.2.2.2.1 bt304.2.2.2.2.2.2.2.1 bt304.2.2.2.2.2.2.2.2.1 bt304.2.2.2.2.2.2.2.2.2.1 bt304.2.2.2.2.2.2.2.2.2.2.1 bt304.2.2.2.2.2.2.2.2.2.2.2.1 bt304.2.2.2.2.2.2.2.2.2.2.2.2.1).bind fun bt321 => (bourneref1_Fold.l0 k x0 x1 (wrap64 (x6 + 1)) bt321.1 bt321.2.1 bt321.2.2.1 bt321.2.2.2.1 bt321.2.2.2.2.1 bt321.2.2.2.2.2.1 bt321.2.2.2.2.2.2.1 bt321.2.2.2.2.2.2.2.1 bt321.2.2.2.2.2.2.2.2.1 bt321.2.2.2.2.2.2.2.2.2.1 bt321.2.2.2.2.2.2.2.2.2.2.1 bt321.2.2.2.2.2.2.2.2.2.2.2.1 bt321.2.2.2.2.2.2.2.2.2.2.2.2)))) else (none)) else (some (x303000, x303001, x303002, x303003, x303004, x303005, x303006, x303007, x303008, x303009, x303010, x303011, x303012))
def bourneref1_Fold.f (k : Nat) (l0 : List (S34)) (l1 : List Int) : Option (Int × Int × Int × Int × Int × Int × Int × Int × Int × Int × Int × Int × List Int) := if 0 ≤ (wrap64 ((l1.length : Int) + 1)) then (if (wrap64 ((l1.length : Int) + 1) : Int).toNat ≤ 35184372088832 then (bourneref1_Fold.l0 k l0 l1 0 0 0 0 0 0 0 0 0 0 0 0 0 (List.replicate (wrap64 ((l1.length : Int) + 1) : Int).toNat 0)) else (none)) else (none)
set_option maxHeartbeats 8000000 in
set_option maxRecDepth 100000 in
theorem bourneref1_Fold.calls (k : Nat) (A0 : Option Addr) (c0 : Nat) (l0 : List (S34)) (A1 : Option Addr) (c1 : Nat) (l1 : List Int) (r1 : Int) (r2 : Int) (r3 : Int) (r4 : Int) (r5 : Int) (r6 : Int) (r7 : Int) (r8 : Int) (r9 : Int) (r10 : Int) (r11 : Int) (r12 : Int) (r13 : List Int) (w : World) (hr0 : Kd.C k34 w A0 l0.length l0) (hc0 : l0.length ≤ c0) (hr1 : Kd.C (Kd.int .i64) w A1 l1.length l1) (hc1 : l1.length ≤ c1) (h : bourneref1_Fold.f k l0 l1 = some (r1, r2, r3, r4, r5, r6, r7, r8, r9, r10, r11, r12, r13)) :
    Calls Try.prog 71 #[.slice A0 l0.length c0, .slice A1 l1.length c1] w fun e w' => ∃ v12_ : Value, e = .returned (.agg #[.int .i64 r1, .int .i64 r2, .int .i64 r3, .int .i64 r4, .int .i64 r5, .int .i64 r6, .int .i64 r7, .int .i64 r8, .int .i64 r9, .int .i64 r10, .int .i64 r11, .int .i64 r12, v12_]) ∧ Kd.R (Kd.int .i64) 3 w' w.heap.size (fun _ => True) v12_ r13 ∧ Below w.heap.size w w' := by
  have hu36 := Try.underlying36
  have hu34 := Try.underlying34
  have HR0 := Aside0.mk hr0
  have HC0 := Aside0.mk hc0
  clear hr0 hc0
  have HR1 := Aside0.mk hr1
  have HC1 := Aside0.mk hc1
  clear hr1 hc1
  have HB := Aside0.mk (Below.refl w.heap.size w)
  have H : (if 0 ≤ (wrap64 ((l1.length : Int) + 1)) then (if (wrap64 ((l1.length : Int) + 1) : Int).toNat ≤ 35184372088832 then (bourneref1_Fold.l0 k l0 l1 0 0 0 0 0 0 0 0 0 0 0 0 0 (List.replicate (wrap64 ((l1.length : Int) + 1) : Int).toNat 0)) else (none)) else (none)) = some (r1, r2, r3, r4, r5, r6, r7, r8, r9, r10, r11, r12, r13) := h
  clear h
  obtain ⟨ji3, hji3⟩ : ∃ j_ : Int, (wrap64 ((l1.length : Int) + 1)) = j_ := ⟨_, rfl⟩
  replace H : (if 0 ≤ (ji3) then (if (ji3 : Int).toNat ≤ 35184372088832 then (bourneref1_Fold.l0 k l0 l1 0 0 0 0 0 0 0 0 0 0 0 0 0 (List.replicate (ji3 : Int).toNat 0)) else (none)) else (none)) = some (r1, r2, r3, r4, r5, r6, r7, r8, r9, r10, r11, r12, r13) := by first | (rw [hji3] at H; exact H) | (simp only [hji3] at H ⊢; exact H)
  have hji3w : (IntKind.i64.wrap ((l1.length : Int) + 1)) = ji3 := (i64_w _).trans hji3
  by_cases c4 : 0 ≤ (ji3)
  · rw [if_pos c4] at H
    have c4b0 := eq_true c4
    have c4b1 : decide (0 ≤ (ji3)) = true := decide_eq_true c4
    clear c4
    by_cases c5 : (ji3 : Int).toNat ≤ 35184372088832
    · rw [if_pos c5] at H
      have c5b0 := eq_true c5
      have c5b1 : decide ((ji3 : Int).toNat ≤ 35184372088832) = true := decide_eq_true c5
      clear c5
      obtain ⟨y299, hy299⟩ : ∃ y_ : List Int, y_ = (List.replicate (ji3 : Int).toNat 0) := ⟨_, rfl⟩
      replace H : (bourneref1_Fold.l0 k l0 l1 0 0 0 0 0 0 0 0 0 0 0 0 0 y299) = some (r1, r2, r3, r4, r5, r6, r7, r8, r9, r10, r11, r12, r13) := by first | (rw [hy299]; with_reducible exact H) | (have H2_ := (Option.bind_some _ _).symm.trans H; rw [hy299]; with_reducible exact H2_) | (have H2_ := (Option.bind_some _ _).symm.trans H; with_reducible exact H2_) | with_reducible exact H | (rw [hy299]; exact H) | exact H
      have Ny299 := Aside0.mk hy299
      clear hy299
      have H' := Aside0.mk H
      clear H
      go_enter Try.func71, Try.ntmps71
      go_wp2_with (first | ((with_reducible refine gate_dst (N := 4) rfl ?_); refine box_event ?hg (N := 4) ?hd (cs := #[.int .i64 0, .int .i64 0, .int .i64 0, .int .i64 0, .int .i64 0, .int .i64 0, .int .i64 0, .int .i64 0, .int .i64 0, .int .i64 0, .int .i64 0, .int .i64 0, .slice none 0 0]) (t := 36) ?hr ?_; (case hd => rfl); (case hg => rfl); (case hr => first | (go_simp; done) | (go_simp; rfl)); intro gb298 hg w6 hbox hb; have n0_ := Aside0.mk (below_step (by repeat (first | (with_reducible first | exact HB.out | apply below_alloc | apply pw_below_drewN | apply below_drew1) | exact HB.out)) hb); have n1_ := Aside0.mk (hbox); have n2_ := Aside0.mk ((by rw [hg]; exact (below_size (by repeat (first | (with_reducible first | exact HB.out | apply below_alloc | apply pw_below_drewN | apply below_drew1) | exact HB.out))) : w.heap.size ≤ gb298)); have n3_ := Aside0.mk ((by rw [hg]; exact (below_size (by repeat (first | (with_reducible first | exact HB.out | apply below_alloc | apply pw_below_drewN | apply below_drew1) | exact HB.out))) : w.heap.size ≤ gb298)); clear HB; have HB := n0_; have BK298 := n1_; have GW298 := n2_; have GE298 := n3_; clear n0_ n1_ n2_ n3_; clear hb hbox hg) | ((with_reducible refine gate_dst (N := 12) rfl ?_); refine Kd.R_make (Kd.int .i64) _ 3 rfl (N := 12) rfl 22 _ _ rfl ji3 rfl rfl Try.underlying22 (.int .i64 0) 8 info3 rfl (by decide) (by omega) 0 (ok := fun _ => True) (okp := fun _ => True) rfl (fun _ hk => hk) trivial (of_decide_eq_true (by first | (with_reducible assumption) | assumption)) (Nat.le_trans (Nat.mul_le_mul_right _ (of_decide_eq_true (by first | (with_reducible assumption) | assumption) : ji3.toNat ≤ 35184372088832)) (by omega)) (Below.refl _ _) (Nat.le_refl _) ?_; intro v300 w7 ho8 hb hg_ hnew_; clear hg_ hnew_; (first | rw [← Ny299.out] at ho8 | (simp only [Int.reduceToNat] at ho8; rw [← Ny299.out] at ho8)); have n0_ := Aside0.mk (Kd.R_lower ho8 (below_size (by repeat (first | (with_reducible first | exact HB.out | apply below_alloc | apply pw_below_drewN | apply below_drew1 | refine below_set ?_ GE298.out) | exact HB.out)))); have n1_ := Aside0.mk (blk_below (g := gb298) (o := .cells #[.int .i64 0, .int .i64 0, .int .i64 0, .int .i64 0, .int .i64 0, .int .i64 0, .int .i64 0, .int .i64 0, .int .i64 0, .int .i64 0, .int .i64 0, .int .i64 0, .slice none 0 0] 36 (0, 0)) (by (with_reducible repeat (first | refine blk_drewN ?_ _ | refine blk_drew ?_ | refine blk_alloc ?_ _)); exact BK298.out) hb); have n2_ := Aside0.mk (below_step (by repeat (first | (with_reducible first | exact HB.out | apply below_alloc | apply pw_below_drewN | apply below_drew1 | refine below_set ?_ GE298.out) | exact HB.out)) hb); clear BK298; clear HB; have HO301 := n0_; have BK298 := n1_; have HB := n2_; clear n0_ n1_ n2_; clear hb ho8; obtain ⟨Ao9, co9, eo9⟩ := Kd.R_slice HO301.out; subst eo9) | ((with_reducible refine gate_dst (N := 5) rfl ?_); refine box_event ?hg (N := 5) ?hd (cs := #[.int .i64 0, .int .i64 0, .int .i64 0, .int .i64 0, .int .i64 0, .int .i64 0, .int .i64 0, .int .i64 0, .int .i64 0, .int .i64 0, .int .i64 0, .int .i64 0, .slice none 0 0]) (t := 36) ?hr ?_; (case hd => rfl); (case hg => rfl); (case hr => first | (go_simp; done) | (go_simp; rfl)); intro gb302 hg w10 hbox hb; have n0_ := Aside0.mk (Kd.R_below (by (with_reducible repeat (first | apply Kd.R_alloc | apply Kd.R_drewN | apply Kd.R_drew)); exact HO301.out) hb); have n1_ := Aside0.mk (blk_below (g := gb298) (o := .cells #[.int .i64 0, .int .i64 0, .int .i64 0, .int .i64 0, .int .i64 0, .int .i64 0, .int .i64 0, .int .i64 0, .int .i64 0, .int .i64 0, .int .i64 0, .int .i64 0, .slice none 0 0] 36 (0, 0)) (by (with_reducible repeat (first | refine blk_drewN ?_ _ | refine blk_drew ?_ | refine blk_alloc ?_ _)); exact BK298.out) hb); have n2_ := Aside0.mk (below_step (by repeat (first | (with_reducible first | exact HB.out | apply below_alloc | apply pw_below_drewN | apply below_drew1 | refine below_set ?_ GE298.out) | exact HB.out)) hb); have n3_ := Aside0.mk (hbox); have n4_ := Aside0.mk ((by rw [hg]; exact (below_size (by repeat (first | (with_reducible first | exact HB.out | apply below_alloc | apply pw_below_drewN | apply below_drew1 | refine below_set ?_ GE298.out) | exact HB.out))) : w.heap.size ≤ gb302)); have n5_ := Aside0.mk ((by rw [hg]; exact (below_size (by repeat (first | (with_reducible first | exact HB.out | apply below_alloc | apply pw_below_drewN | apply below_drew1 | refine below_set ?_ GE298.out) | exact HB.out))) : w.heap.size ≤ gb302)); have n6_ := Aside0.mk ((by rw [hg]; exact Nat.ne_of_lt (blk_lt (g := gb298) (o := .cells #[.int .i64 0, .int .i64 0, .int .i64 0, .int .i64 0, .int .i64 0, .int .i64 0, .int .i64 0, .int .i64 0, .int .i64 0, .int .i64 0, .int .i64 0, .int .i64 0, .slice none 0 0] 36 (0, 0)) (by (with_reducible repeat (first | refine blk_drewN ?_ _ | refine blk_drew ?_ | refine blk_alloc ?_ _)); exact BK298.out)) : gb298 ≠ gb302)); have n7_ := Aside0.mk ((by rw [hg]; exact Nat.ne_of_gt (blk_lt (g := gb298) (o := .cells #[.int .i64 0, .int .i64 0, .int .i64 0, .int .i64 0, .int .i64 0, .int .i64 0, .int .i64 0, .int .i64 0, .int .i64 0, .int .i64 0, .int .i64 0, .int .i64 0, .slice none 0 0] 36 (0, 0)) (by (with_reducible repeat (first | refine blk_drewN ?_ _ | refine blk_drew ?_ | refine blk_alloc ?_ _)); exact BK298.out)) : gb302 ≠ gb298)); clear HO301; clear BK298; clear HB; have HO301 := n0_; have BK298 := n1_; have HB := n2_; have BK302 := n3_; have GW302 := n4_; have GE302 := n5_; have NB298_302 := n6_; have NB302_298 := n7_; clear n0_ n1_ n2_ n3_ n4_ n5_ n6_ n7_; clear hb hbox hg; have hnb11 := NB302_298.out; have hnc11 := NB298_302.out; have hcz12_0 : w10.cell? ⟨gb302, 0, none⟩ = some (.int .i64 0) := (blk_cell BK302.out 0).trans rfl; have hcz12_1 : w10.cell? ⟨gb302, 1, none⟩ = some (.int .i64 0) := (blk_cell BK302.out 1).trans rfl; have hcz12_2 : w10.cell? ⟨gb302, 2, none⟩ = some (.int .i64 0) := (blk_cell BK302.out 2).trans rfl; have hcz12_3 : w10.cell? ⟨gb302, 3, none⟩ = some (.int .i64 0) := (blk_cell BK302.out 3).trans rfl; have hcz12_4 : w10.cell? ⟨gb302, 4, none⟩ = some (.int .i64 0) := (blk_cell BK302.out 4).trans rfl; have hcz12_5 : w10.cell? ⟨gb302, 5, none⟩ = some (.int .i64 0) := (blk_cell BK302.out 5).trans rfl; have hcz12_6 : w10.cell? ⟨gb302, 6, none⟩ = some (.int .i64 0) := (blk_cell BK302.out 6).trans rfl; have hcz12_7 : w10.cell? ⟨gb302, 7, none⟩ = some (.int .i64 0) := (blk_cell BK302.out 7).trans rfl; have hcz12_8 : w10.cell? ⟨gb302, 8, none⟩ = some (.int .i64 0) := (blk_cell BK302.out 8).trans rfl; have hcz12_9 : w10.cell? ⟨gb302, 9, none⟩ = some (.int .i64 0) := (blk_cell BK302.out 9).trans rfl; have hcz12_10 : w10.cell? ⟨gb302, 10, none⟩ = some (.int .i64 0) := (blk_cell BK302.out 10).trans rfl; have hcz12_11 : w10.cell? ⟨gb302, 11, none⟩ = some (.int .i64 0) := (blk_cell BK302.out 11).trans rfl; have hcz12_12 : w10.cell? ⟨gb302, 12, none⟩ = some (.slice none 0 0) := (blk_cell BK302.out 12).trans rfl; have hfz12_0 := blk_frozen BK302.out 0; have hfz12_1 := blk_frozen BK302.out 1; have hfz12_2 := blk_frozen BK302.out 2; have hfz12_3 := blk_frozen BK302.out 3; have hfz12_4 := blk_frozen BK302.out 4; have hfz12_5 := blk_frozen BK302.out 5; have hfz12_6 := blk_frozen BK302.out 6; have hfz12_7 := blk_frozen BK302.out 7; have hfz12_8 := blk_frozen BK302.out 8; have hfz12_9 := blk_frozen BK302.out 9; have hfz12_10 := blk_frozen BK302.out 10; have hfz12_11 := blk_frozen BK302.out 11; have hfz12_12 := blk_frozen BK302.out 12))
      go_loopg [6] k (fun kq v6 w' => ∃ (x6_1 : Int) (x303000_1 : Int) (x303001_1 : Int) (x303002_1 : Int) (x303003_1 : Int) (x303004_1 : Int) (x303005_1 : Int) (x303006_1 : Int) (x303007_1 : Int) (x303008_1 : Int) (x303009_1 : Int) (x303010_1 : Int) (x303011_1 : Int) (x303012_1 : List Int) (u303012 : Value), v6 = .int .i64 x6_1 ∧ Aside0 (bourneref1_Fold.l0 kq l0 l1 x6_1 x303000_1 x303001_1 x303002_1 x303003_1 x303004_1 x303005_1 x303006_1 x303007_1 x303008_1 x303009_1 x303010_1 x303011_1 x303012_1 = some (r1, r2, r3, r4, r5, r6, r7, r8, r9, r10, r11, r12, r13)) ∧ Aside0 (kq ≤ k) ∧ Aside0 (Kd.R (Kd.int .i64) 3 w' w.heap.size (fun _ => True) u303012 x303012_1) ∧ Aside0 (w'.heap[gb298]? = some (.cells #[.int .i64 0, .int .i64 0, .int .i64 0, .int .i64 0, .int .i64 0, .int .i64 0, .int .i64 0, .int .i64 0, .int .i64 0, .int .i64 0, .int .i64 0, .int .i64 0, (.slice none 0 0)] 36 (0, 0))) ∧ Aside0 (w'.heap[gb302]? = some (.cells #[.int .i64 x303000_1, .int .i64 x303001_1, .int .i64 x303002_1, .int .i64 x303003_1, .int .i64 x303004_1, .int .i64 x303005_1, .int .i64 x303006_1, .int .i64 x303007_1, .int .i64 x303008_1, .int .i64 x303009_1, .int .i64 x303010_1, .int .i64 x303011_1, u303012] 36 (0, 0))) ∧ Aside0 (Below w.heap.size w w'))
      case atStart => exact ⟨(0), (0), (0), (0), (0), (0), (0), (0), (0), (0), (0), (0), (0), (y299), (.slice Ao9 y299.length co9), (by first | rfl | (simp; done) | (simp [*]; done)), H', ⟨Nat.le_refl _⟩, ⟨by (with_reducible repeat (first | apply Kd.R_alloc | apply Kd.R_drewN | apply Kd.R_drew)); exact Kd.R_mono (Kd.R_far (p := ⟨gb302, 12, none⟩) (Kd.R_far (p := ⟨gb302, 11, none⟩) (Kd.R_far (p := ⟨gb302, 10, none⟩) (Kd.R_far (p := ⟨gb302, 9, none⟩) (Kd.R_far (p := ⟨gb302, 8, none⟩) (Kd.R_far (p := ⟨gb302, 7, none⟩) (Kd.R_far (p := ⟨gb302, 6, none⟩) (Kd.R_far (p := ⟨gb302, 5, none⟩) (Kd.R_far (p := ⟨gb302, 4, none⟩) (Kd.R_far (p := ⟨gb302, 3, none⟩) (Kd.R_far (p := ⟨gb302, 2, none⟩) (Kd.R_far (p := ⟨gb302, 1, none⟩) (Kd.R_far (p := ⟨gb302, 0, none⟩) (Kd.R_types HO301.out BK302.out (by decide)) (fun _ hk => hk.2) (.int .i64 0)) (fun _ hk => hk.2) (.int .i64 0)) (fun _ hk => hk.2) (.int .i64 0)) (fun _ hk => hk.2) (.int .i64 0)) (fun _ hk => hk.2) (.int .i64 0)) (fun _ hk => hk.2) (.int .i64 0)) (fun _ hk => hk.2) (.int .i64 0)) (fun _ hk => hk.2) (.int .i64 0)) (fun _ hk => hk.2) (.int .i64 0)) (fun _ hk => hk.2) (.int .i64 0)) (fun _ hk => hk.2) (.int .i64 0)) (fun _ hk => hk.2) (.int .i64 0)) (fun _ hk => hk.2) (.slice Ao9 y299.length co9)) (fun _ hk => trivial)⟩, ⟨by (with_reducible repeat (first | refine blk_drewN ?_ _ | refine blk_drew ?_ | refine blk_alloc ?_ _)); refine blk_far ?_ NB298_302.out _; (with_reducible repeat (first | refine blk_drewN ?_ _ | refine blk_drew ?_ | refine blk_alloc ?_ _)); refine blk_far ?_ NB298_302.out _; (with_reducible repeat (first | refine blk_drewN ?_ _ | refine blk_drew ?_ | refine blk_alloc ?_ _)); refine blk_far ?_ NB298_302.out _; (with_reducible repeat (first | refine blk_drewN ?_ _ | refine blk_drew ?_ | refine blk_alloc ?_ _)); refine blk_far ?_ NB298_302.out _; (with_reducible repeat (first | refine blk_drewN ?_ _ | refine blk_drew ?_ | refine blk_alloc ?_ _)); refine blk_far ?_ NB298_302.out _; (with_reducible repeat (first | refine blk_drewN ?_ _ | refine blk_drew ?_ | refine blk_alloc ?_ _)); refine blk_far ?_ NB298_302.out _; (with_reducible repeat (first | refine blk_drewN ?_ _ | refine blk_drew ?_ | refine blk_alloc ?_ _)); refine blk_far ?_ NB298_302.out _; (with_reducible repeat (first | refine blk_drewN ?_ _ | refine blk_drew ?_ | refine blk_alloc ?_ _)); refine blk_far ?_ NB298_302.out _; (with_reducible repeat (first | refine blk_drewN ?_ _ | refine blk_drew ?_ | refine blk_alloc ?_ _)); refine blk_far ?_ NB298_302.out _; (with_reducible repeat (first | refine blk_drewN ?_ _ | refine blk_drew ?_ | refine blk_alloc ?_ _)); refine blk_far ?_ NB298_302.out _; (with_reducible repeat (first | refine blk_drewN ?_ _ | refine blk_drew ?_ | refine blk_alloc ?_ _)); refine blk_far ?_ NB298_302.out _; (with_reducible repeat (first | refine blk_drewN ?_ _ | refine blk_drew ?_ | refine blk_alloc ?_ _)); refine blk_far ?_ NB298_302.out _; (with_reducible repeat (first | refine blk_drewN ?_ _ | refine blk_drew ?_ | refine blk_alloc ?_ _)); refine blk_far ?_ NB298_302.out _; (with_reducible repeat (first | refine blk_drewN ?_ _ | refine blk_drew ?_ | refine blk_alloc ?_ _)); exact BK298.out⟩, ⟨by (with_reducible repeat (first | refine blk_drewN ?_ _ | refine blk_drew ?_ | refine blk_alloc ?_ _)); refine blk_put (cs := #[.int .i64 0, .int .i64 0, .int .i64 0, .int .i64 0, .int .i64 0, .int .i64 0, .int .i64 0, .int .i64 0, .int .i64 0, .int .i64 0, .int .i64 0, .int .i64 0, .slice none 0 0]) ?_ 12 _ rfl; (with_reducible repeat (first | refine blk_drewN ?_ _ | refine blk_drew ?_ | refine blk_alloc ?_ _)); refine blk_put (cs := #[.int .i64 0, .int .i64 0, .int .i64 0, .int .i64 0, .int .i64 0, .int .i64 0, .int .i64 0, .int .i64 0, .int .i64 0, .int .i64 0, .int .i64 0, .int .i64 0, .slice none 0 0]) ?_ 11 _ rfl; (with_reducible repeat (first | refine blk_drewN ?_ _ | refine blk_drew ?_ | refine blk_alloc ?_ _)); refine blk_put (cs := #[.int .i64 0, .int .i64 0, .int .i64 0, .int .i64 0, .int .i64 0, .int .i64 0, .int .i64 0, .int .i64 0, .int .i64 0, .int .i64 0, .int .i64 0, .int .i64 0, .slice none 0 0]) ?_ 10 _ rfl; (with_reducible repeat (first | refine blk_drewN ?_ _ | refine blk_drew ?_ | refine blk_alloc ?_ _)); refine blk_put (cs := #[.int .i64 0, .int .i64 0, .int .i64 0, .int .i64 0, .int .i64 0, .int .i64 0, .int .i64 0, .int .i64 0, .int .i64 0, .int .i64 0, .int .i64 0, .int .i64 0, .slice none 0 0]) ?_ 9 _ rfl; (with_reducible repeat (first | refine blk_drewN ?_ _ | refine blk_drew ?_ | refine blk_alloc ?_ _)); refine blk_put (cs := #[.int .i64 0, .int .i64 0, .int .i64 0, .int .i64 0, .int .i64 0, .int .i64 0, .int .i64 0, .int .i64 0, .int .i64 0, .int .i64 0, .int .i64 0, .int .i64 0, .slice none 0 0]) ?_ 8 _ rfl; (with_reducible repeat (first | refine blk_drewN ?_ _ | refine blk_drew ?_ | refine blk_alloc ?_ _)); refine blk_put (cs := #[.int .i64 0, .int .i64 0, .int .i64 0, .int .i64 0, .int .i64 0, .int .i64 0, .int .i64 0, .int .i64 0, .int .i64 0, .int .i64 0, .int .i64 0, .int .i64 0, .slice none 0 0]) ?_ 7 _ rfl; (with_reducible repeat (first | refine blk_drewN ?_ _ | refine blk_drew ?_ | refine blk_alloc ?_ _)); refine blk_put (cs := #[.int .i64 0, .int .i64 0, .int .i64 0, .int .i64 0, .int .i64 0, .int .i64 0, .int .i64 0, .int .i64 0, .int .i64 0, .int .i64 0, .int .i64 0, .int .i64 0, .slice none 0 0]) ?_ 6 _ rfl; (with_reducible repeat (first | refine blk_drewN ?_ _ | refine blk_drew ?_ | refine blk_alloc ?_ _)); refine blk_put (cs := #[.int .i64 0, .int .i64 0, .int .i64 0, .int .i64 0, .int .i64 0, .int .i64 0, .int .i64 0, .int .i64 0, .int .i64 0, .int .i64 0, .int .i64 0, .int .i64 0, .slice none 0 0]) ?_ 5 _ rfl; (with_reducible repeat (first | refine blk_drewN ?_ _ | refine blk_drew ?_ | refine blk_alloc ?_ _)); refine blk_put (cs := #[.int .i64 0, .int .i64 0, .int .i64 0, .int .i64 0, .int .i64 0, .int .i64 0, .int .i64 0, .int .i64 0, .int .i64 0, .int .i64 0, .int .i64 0, .int .i64 0, .slice none 0 0]) ?_ 4 _ rfl; (with_reducible repeat (first | refine blk_drewN ?_ _ | refine blk_drew ?_ | refine blk_alloc ?_ _)); refine blk_put (cs := #[.int .i64 0, .int .i64 0, .int .i64 0, .int .i64 0, .int .i64 0, .int .i64 0, .int .i64 0, .int .i64 0, .int .i64 0, .int .i64 0, .int .i64 0, .int .i64 0, .slice none 0 0]) ?_ 3 _ rfl; (with_reducible repeat (first | refine blk_drewN ?_ _ | refine blk_drew ?_ | refine blk_alloc ?_ _)); refine blk_put (cs := #[.int .i64 0, .int .i64 0, .int .i64 0, .int .i64 0, .int .i64 0, .int .i64 0, .int .i64 0, .int .i64 0, .int .i64 0, .int .i64 0, .int .i64 0, .int .i64 0, .slice none 0 0]) ?_ 2 _ rfl; (with_reducible repeat (first | refine blk_drewN ?_ _ | refine blk_drew ?_ | refine blk_alloc ?_ _)); refine blk_put (cs := #[.int .i64 0, .int .i64 0, .int .i64 0, .int .i64 0, .int .i64 0, .int .i64 0, .int .i64 0, .int .i64 0, .int .i64 0, .int .i64 0, .int .i64 0, .int .i64 0, .slice none 0 0]) ?_ 1 _ rfl; (with_reducible repeat (first | refine blk_drewN ?_ _ | refine blk_drew ?_ | refine blk_alloc ?_ _)); refine blk_put (cs := #[.int .i64 0, .int .i64 0, .int .i64 0, .int .i64 0, .int .i64 0, .int .i64 0, .int .i64 0, .int .i64 0, .int .i64 0, .int .i64 0, .int .i64 0, .int .i64 0, .slice none 0 0]) ?_ 0 _ rfl; (with_reducible repeat (first | refine blk_drewN ?_ _ | refine blk_drew ?_ | refine blk_alloc ?_ _)); exact BK302.out⟩, ⟨by repeat (first | (with_reducible first | exact HB.out | apply below_alloc | apply pw_below_drewN | apply below_drew1 | refine below_set ?_ GE298.out | refine below_set ?_ GE302.out) | exact HB.out)⟩⟩
      case round =>
        clear H'
        try clear c1
        try clear p2
        try clear c4
        try clear c4b0
        try clear c4b1
        try clear c5
        try clear c5b0
        try clear c5b1
        try clear p6
        try clear c7
        try clear c11
        try clear hcz12_0
        try clear hcz12_1
        try clear hcz12_10
        try clear hcz12_11
        try clear hcz12_12
        try clear hcz12_2
        try clear hcz12_3
        try clear hcz12_4
        try clear hcz12_5
        try clear hcz12_6
        try clear hcz12_7
        try clear hcz12_8
        try clear hcz12_9
        try clear hfz12_0
        try clear hfz12_1
        try clear hfz12_10
        try clear hfz12_11
        try clear hfz12_12
        try clear hfz12_2
        try clear hfz12_3
        try clear hfz12_4
        try clear hfz12_5
        try clear hfz12_6
        try clear hfz12_7
        try clear hfz12_8
        try clear hfz12_9
        obtain ⟨x6_1, x303000_1, x303001_1, x303002_1, x303003_1, x303004_1, x303005_1, x303006_1, x303007_1, x303008_1, x303009_1, x303010_1, x303011_1, x303012_1, u303012, rfl, HA, HK1, HO_303012, BK298, BK302, HB⟩ := hrel
        cases gk with
        | zero => exact absurd HA.out (by simp [bourneref1_Fold.l0])
        | succ k1 =>
          have H := HA.out
          clear HA
          simp only [bourneref1_Fold.l0] at H
          by_cases c13 : x6_1 < (l0.length : Int)
          · rw [if_pos c13] at H
            have c13b0 : decide (x6_1 < (l0.length : Int)) = true := decide_eq_true c13
            clear c13
            by_cases c14 : 0 ≤ x6_1
            · rw [if_pos c14] at H
              have c14b0 : decide (0 ≤ x6_1) = true := decide_eq_true c14
              clear c14
              replace H := Option.bind_eq_some_iff.mp H
              obtain ⟨⟨t304, t305, t306, t307, t308, t309, t310, t311, t312, t313, t314, t315, t316, t319⟩, A150, H⟩ := H
              replace H : (if x303000_1 = 0 then (bourneref1_Fold.l0 k1 l0 l1 (wrap64 (x6_1 + 1)) t304 t305 t306 t307 t308 t309 t310 t311 t312 t313 t314 t315 t316) else ((bourneref1_two.f x303000_1 x303001_1 x303002_1 x303003_1 x303004_1 x303005_1 x303006_1 x303007_1 x303008_1 x303009_1 x303010_1 x303011_1 x303012_1 t304 t305 t306 t307 t308 t309 t310 t311 t312 t313 t314 t315 t316).bind fun bt321 => (bourneref1_Fold.l0 k1 l0 l1 (wrap64 (x6_1 + 1)) bt321.1 bt321.2.1 bt321.2.2.1 bt321.2.2.2.1 bt321.2.2.2.2.1 bt321.2.2.2.2.2.1 bt321.2.2.2.2.2.2.1 bt321.2.2.2.2.2.2.2.1 bt321.2.2.2.2.2.2.2.2.1 bt321.2.2.2.2.2.2.2.2.2.1 bt321.2.2.2.2.2.2.2.2.2.2.1 bt321.2.2.2.2.2.2.2.2.2.2.2.1 bt321.2.2.2.2.2.2.2.2.2.2.2.2))) = some (r1, r2, r3, r4, r5, r6, r7, r8, r9, r10, r11, r12, r13) := H
              have A15 := Aside0.mk A150
              clear A150
              by_cases c16 : x303000_1 = 0
              · rw [if_pos c16] at H
                have c16b0 : (x303000_1 == 0) = true := beq_iff_eq.mpr c16
                have c16b1 : (x303000_1 != 0) = false := bne_eq_false_iff_eq.mpr c16
                clear c16
                have H' := Aside0.mk H
                clear H
                have p303 : 0 ≤ (x6_1 : Int) := of_decide_eq_true (by first | (with_reducible assumption) | assumption)
                have q303 : x6_1 < (l0.length : Int) := of_decide_eq_true (by first | (with_reducible assumption) | assumption)
                obtain ⟨ad303, e303, hx303_0, hx303_1, hx303_2, hx303_3⟩ := at_T34 HR0.out x6_1 p303 q303
                cases e303
                replace hx303_0 := (HB.out.cell (World.block_lt_of_cell? w _ hx303_0)).trans hx303_0
                replace hx303_1 := (HB.out.cell (World.block_lt_of_cell? w _ hx303_1)).trans hx303_1
                replace hx303_2 := (HB.out.cell (World.block_lt_of_cell? w _ hx303_2)).trans hx303_2
                replace hx303_3 := (HB.out.cell (World.block_lt_of_cell? w _ hx303_3)).trans hx303_3
                replace p303 := eq_true p303
                replace q303 := eq_true q303
                go_wp2_with (first | ((with_reducible refine gate_callee (f := 53) rfl ?_); refine goesL_ (some 26) rfl rfl Try.func53 (by kernel_rfl) rfl #[.agg #[.int .i64 ((rd_T34 l0 x6_1).f0), .int .i64 ((rd_T34 l0 x6_1).f1), .int .i64 ((rd_T34 l0 x6_1).f2), .int .i64 ((rd_T34 l0 x6_1).f3)], .slice A1 l1.length c1] rfl (by (try simp only [List.map_toArray, List.map_cons, List.map_nil]); first | done | rfl | (simp only [List.length_drop, List.length_take]; rfl)) ?_; (with_reducible refine (bourneref1_One.calls ((rd_T34 l0 x6_1).f0) ((rd_T34 l0 x6_1).f1) ((rd_T34 l0 x6_1).f2) ((rd_T34 l0 x6_1).f3) _ _ l1 t304 t305 t306 t307 t308 t309 t310 t311 t312 t313 t314 t315 t316 t319 _ ?side1 ?side2 A15.out).mono ?_); (case side1 => repeat (first | exact (Kd.C_below HR1.out HB.out) | (with_reducible refine Kd.C_alloc ?_ _) | (with_reducible refine Kd.C_drewN ?_ _) | (with_reducible refine Kd.C_drew ?_))); (case side2 => exact HC1.out); rintro e w17 ⟨v317, rfl, ho0, hb⟩; refine ⟨_, rfl, ?_⟩; have n0_ := Aside0.mk (Kd.R_elder' (by (with_reducible repeat (first | apply Kd.R_alloc | apply Kd.R_drewN | apply Kd.R_drew)); exact HO_303012.out) (Kd.R_base ho0) hb); have n1_ := Aside0.mk (Kd.R_lower (Kd.R_new' ho0 (Kd.R_lt (by (with_reducible repeat (first | apply Kd.R_alloc | apply Kd.R_drewN | apply Kd.R_drew)); exact HO_303012.out))) (below_size (by repeat (first | (with_reducible first | exact HB.out | apply below_alloc | apply pw_below_drewN | apply below_drew1 | refine below_set ?_ GE298.out | refine below_set ?_ GE302.out) | exact HB.out)))); have n2_ := Aside0.mk (blk_below (g := gb298) (o := .cells #[.int .i64 0, .int .i64 0, .int .i64 0, .int .i64 0, .int .i64 0, .int .i64 0, .int .i64 0, .int .i64 0, .int .i64 0, .int .i64 0, .int .i64 0, .int .i64 0, .slice none 0 0] 36 (0, 0)) (by (with_reducible repeat (first | refine blk_drewN ?_ _ | refine blk_drew ?_ | refine blk_alloc ?_ _)); exact BK298.out) hb); have n3_ := Aside0.mk (blk_below (g := gb302) (o := .cells #[.int .i64 x303000_1, .int .i64 x303001_1, .int .i64 x303002_1, .int .i64 x303003_1, .int .i64 x303004_1, .int .i64 x303005_1, .int .i64 x303006_1, .int .i64 x303007_1, .int .i64 x303008_1, .int .i64 x303009_1, .int .i64 x303010_1, .int .i64 x303011_1, u303012] 36 (0, 0)) (by (with_reducible repeat (first | refine blk_drewN ?_ _ | refine blk_drew ?_ | refine blk_alloc ?_ _)); exact BK302.out) hb); have n4_ := Aside0.mk (below_step (by repeat (first | (with_reducible first | exact HB.out | apply below_alloc | apply pw_below_drewN | apply below_drew1 | refine below_set ?_ GE298.out | refine below_set ?_ GE302.out) | exact HB.out)) hb); clear HO_303012; clear BK298; clear BK302; clear HB; have HO_303012 := n0_; have HO318 := n1_; have BK298 := n2_; have BK302 := n3_; have HB := n4_; clear n0_ n1_ n2_ n3_ n4_; (try clear hb); (try clear hb2); (try clear hk); (try clear hi); (try clear ho0)) | ((with_reducible refine gate_dst (N := 7) rfl ?_); refine box_event ?hg (N := 7) ?hd (cs := #[.int .i64 0, .int .i64 0, .int .i64 0, .int .i64 0, .int .i64 0, .int .i64 0, .int .i64 0, .int .i64 0, .int .i64 0, .int .i64 0, .int .i64 0, .int .i64 0, .slice none 0 0]) (t := 36) ?hr ?_; (case hd => rfl); (case hg => rfl); (case hr => first | (go_simp; done) | (go_simp; rfl)); intro gb320 hg w18 hbox hb; have n0_ := Aside0.mk (Kd.R_below (by (with_reducible repeat (first | apply Kd.R_alloc | apply Kd.R_drewN | apply Kd.R_drew)); exact HO_303012.out) hb); have n1_ := Aside0.mk (Kd.R_below (by (with_reducible repeat (first | apply Kd.R_alloc | apply Kd.R_drewN | apply Kd.R_drew)); exact HO318.out) hb); have n2_ := Aside0.mk (blk_below (g := gb298) (o := .cells #[.int .i64 0, .int .i64 0, .int .i64 0, .int .i64 0, .int .i64 0, .int .i64 0, .int .i64 0, .int .i64 0, .int .i64 0, .int .i64 0, .int .i64 0, .int .i64 0, .slice none 0 0] 36 (0, 0)) (by (with_reducible repeat (first | refine blk_drewN ?_ _ | refine blk_drew ?_ | refine blk_alloc ?_ _)); exact BK298.out) hb); have n3_ := Aside0.mk (blk_below (g := gb302) (o := .cells #[.int .i64 x303000_1, .int .i64 x303001_1, .int .i64 x303002_1, .int .i64 x303003_1, .int .i64 x303004_1, .int .i64 x303005_1, .int .i64 x303006_1, .int .i64 x303007_1, .int .i64 x303008_1, .int .i64 x303009_1, .int .i64 x303010_1, .int .i64 x303011_1, u303012] 36 (0, 0)) (by (with_reducible repeat (first | refine blk_drewN ?_ _ | refine blk_drew ?_ | refine blk_alloc ?_ _)); exact BK302.out) hb); have n4_ := Aside0.mk (below_step (by repeat (first | (with_reducible first | exact HB.out | apply below_alloc | apply pw_below_drewN | apply below_drew1 | refine below_set ?_ GE298.out | refine below_set ?_ GE302.out) | exact HB.out)) hb); have n5_ := Aside0.mk (hbox); have n6_ := Aside0.mk ((by rw [hg]; exact (below_size (by repeat (first | (with_reducible first | exact HB.out | apply below_alloc | apply pw_below_drewN | apply below_drew1 | refine below_set ?_ GE298.out | refine below_set ?_ GE302.out) | exact HB.out))) : w.heap.size ≤ gb320)); have n7_ := Aside0.mk ((by rw [hg]; exact (below_size (by repeat (first | (with_reducible first | exact HB.out | apply below_alloc | apply pw_below_drewN | apply below_drew1 | refine below_set ?_ GE298.out | refine below_set ?_ GE302.out) | exact HB.out))) : w.heap.size ≤ gb320)); have n8_ := Aside0.mk ((by rw [hg]; exact Nat.ne_of_lt (blk_lt (g := gb298) (o := .cells #[.int .i64 0, .int .i64 0, .int .i64 0, .int .i64 0, .int .i64 0, .int .i64 0, .int .i64 0, .int .i64 0, .int .i64 0, .int .i64 0, .int .i64 0, .int .i64 0, .slice none 0 0] 36 (0, 0)) (by (with_reducible repeat (first | refine blk_drewN ?_ _ | refine blk_drew ?_ | refine blk_alloc ?_ _)); exact BK298.out)) : gb298 ≠ gb320)); have n9_ := Aside0.mk ((by rw [hg]; exact Nat.ne_of_gt (blk_lt (g := gb298) (o := .cells #[.int .i64 0, .int .i64 0, .int .i64 0, .int .i64 0, .int .i64 0, .int .i64 0, .int .i64 0, .int .i64 0, .int .i64 0, .int .i64 0, .int .i64 0, .int .i64 0, .slice none 0 0] 36 (0, 0)) (by (with_reducible repeat (first | refine blk_drewN ?_ _ | refine blk_drew ?_ | refine blk_alloc ?_ _)); exact BK298.out)) : gb320 ≠ gb298)); have n10_ := Aside0.mk ((by rw [hg]; exact Nat.ne_of_lt (blk_lt (g := gb302) (o := .cells #[.int .i64 x303000_1, .int .i64 x303001_1, .int .i64 x303002_1, .int .i64 x303003_1, .int .i64 x303004_1, .int .i64 x303005_1, .int .i64 x303006_1, .int .i64 x303007_1, .int .i64 x303008_1, .int .i64 x303009_1, .int .i64 x303010_1, .int .i64 x303011_1, u303012] 36 (0, 0)) (by (with_reducible repeat (first | refine blk_drewN ?_ _ | refine blk_drew ?_ | refine blk_alloc ?_ _)); exact BK302.out)) : gb302 ≠ gb320)); have n11_ := Aside0.mk ((by rw [hg]; exact Nat.ne_of_gt (blk_lt (g := gb302) (o := .cells #[.int .i64 x303000_1, .int .i64 x303001_1, .int .i64 x303002_1, .int .i64 x303003_1, .int .i64 x303004_1, .int .i64 x303005_1, .int .i64 x303006_1, .int .i64 x303007_1, .int .i64 x303008_1, .int .i64 x303009_1, .int .i64 x303010_1, .int .i64 x303011_1, u303012] 36 (0, 0)) (by (with_reducible repeat (first | refine blk_drewN ?_ _ | refine blk_drew ?_ | refine blk_alloc ?_ _)); exact BK302.out)) : gb320 ≠ gb302)); clear HO_303012; clear HO318; clear BK298; clear BK302; clear HB; have HO_303012 := n0_; have HO318 := n1_; have BK298 := n2_; have BK302 := n3_; have HB := n4_; have BK320 := n5_; have GW320 := n6_; have GE320 := n7_; have NB298_320 := n8_; have NB320_298 := n9_; have NB302_320 := n10_; have NB320_302 := n11_; clear n0_ n1_ n2_ n3_ n4_ n5_ n6_ n7_ n8_ n9_ n10_ n11_; clear hb hbox hg; have hnb19 := NB320_298.out; have hnc19 := NB298_320.out; have hnb20 := NB320_302.out; have hnc20 := NB302_320.out; have hcz21_0 : w18.cell? ⟨gb320, 0, none⟩ = some (.int .i64 0) := (blk_cell BK320.out 0).trans rfl; have hcz21_1 : w18.cell? ⟨gb320, 1, none⟩ = some (.int .i64 0) := (blk_cell BK320.out 1).trans rfl; have hcz21_2 : w18.cell? ⟨gb320, 2, none⟩ = some (.int .i64 0) := (blk_cell BK320.out 2).trans rfl; have hcz21_3 : w18.cell? ⟨gb320, 3, none⟩ = some (.int .i64 0) := (blk_cell BK320.out 3).trans rfl; have hcz21_4 : w18.cell? ⟨gb320, 4, none⟩ = some (.int .i64 0) := (blk_cell BK320.out 4).trans rfl; have hcz21_5 : w18.cell? ⟨gb320, 5, none⟩ = some (.int .i64 0) := (blk_cell BK320.out 5).trans rfl; have hcz21_6 : w18.cell? ⟨gb320, 6, none⟩ = some (.int .i64 0) := (blk_cell BK320.out 6).trans rfl; have hcz21_7 : w18.cell? ⟨gb320, 7, none⟩ = some (.int .i64 0) := (blk_cell BK320.out 7).trans rfl; have hcz21_8 : w18.cell? ⟨gb320, 8, none⟩ = some (.int .i64 0) := (blk_cell BK320.out 8).trans rfl; have hcz21_9 : w18.cell? ⟨gb320, 9, none⟩ = some (.int .i64 0) := (blk_cell BK320.out 9).trans rfl; have hcz21_10 : w18.cell? ⟨gb320, 10, none⟩ = some (.int .i64 0) := (blk_cell BK320.out 10).trans rfl; have hcz21_11 : w18.cell? ⟨gb320, 11, none⟩ = some (.int .i64 0) := (blk_cell BK320.out 11).trans rfl; have hcz21_12 : w18.cell? ⟨gb320, 12, none⟩ = some (.slice none 0 0) := (blk_cell BK320.out 12).trans rfl; have hfz21_0 := blk_frozen BK320.out 0; have hfz21_1 := blk_frozen BK320.out 1; have hfz21_2 := blk_frozen BK320.out 2; have hfz21_3 := blk_frozen BK320.out 3; have hfz21_4 := blk_frozen BK320.out 4; have hfz21_5 := blk_frozen BK320.out 5; have hfz21_6 := blk_frozen BK320.out 6; have hfz21_7 := blk_frozen BK320.out 7; have hfz21_8 := blk_frozen BK320.out 8; have hfz21_9 := blk_frozen BK320.out 9; have hfz21_10 := blk_frozen BK320.out 10; have hfz21_11 := blk_frozen BK320.out 11; have hfz21_12 := blk_frozen BK320.out 12; obtain ⟨Ao22, co22, eo22⟩ := Kd.R_slice HO318.out; subst eo22; have hnb23 := NB302_298.out; have hnc23 := NB298_302.out; have hcz24_0 : w18.cell? ⟨gb302, 0, none⟩ = some (.int .i64 x303000_1) := (blk_cell BK302.out 0).trans rfl; have hcz24_1 : w18.cell? ⟨gb302, 1, none⟩ = some (.int .i64 x303001_1) := (blk_cell BK302.out 1).trans rfl; have hcz24_2 : w18.cell? ⟨gb302, 2, none⟩ = some (.int .i64 x303002_1) := (blk_cell BK302.out 2).trans rfl; have hcz24_3 : w18.cell? ⟨gb302, 3, none⟩ = some (.int .i64 x303003_1) := (blk_cell BK302.out 3).trans rfl; have hcz24_4 : w18.cell? ⟨gb302, 4, none⟩ = some (.int .i64 x303004_1) := (blk_cell BK302.out 4).trans rfl; have hcz24_5 : w18.cell? ⟨gb302, 5, none⟩ = some (.int .i64 x303005_1) := (blk_cell BK302.out 5).trans rfl; have hcz24_6 : w18.cell? ⟨gb302, 6, none⟩ = some (.int .i64 x303006_1) := (blk_cell BK302.out 6).trans rfl; have hcz24_7 : w18.cell? ⟨gb302, 7, none⟩ = some (.int .i64 x303007_1) := (blk_cell BK302.out 7).trans rfl; have hcz24_8 : w18.cell? ⟨gb302, 8, none⟩ = some (.int .i64 x303008_1) := (blk_cell BK302.out 8).trans rfl; have hcz24_9 : w18.cell? ⟨gb302, 9, none⟩ = some (.int .i64 x303009_1) := (blk_cell BK302.out 9).trans rfl; have hcz24_10 : w18.cell? ⟨gb302, 10, none⟩ = some (.int .i64 x303010_1) := (blk_cell BK302.out 10).trans rfl; have hcz24_11 : w18.cell? ⟨gb302, 11, none⟩ = some (.int .i64 x303011_1) := (blk_cell BK302.out 11).trans rfl; have hcz24_12 : w18.cell? ⟨gb302, 12, none⟩ = some (u303012) := (blk_cell BK302.out 12).trans rfl; have hfz24_0 := blk_frozen BK302.out 0; have hfz24_1 := blk_frozen BK302.out 1; have hfz24_2 := blk_frozen BK302.out 2; have hfz24_3 := blk_frozen BK302.out 3; have hfz24_4 := blk_frozen BK302.out 4; have hfz24_5 := blk_frozen BK302.out 5; have hfz24_6 := blk_frozen BK302.out 6; have hfz24_7 := blk_frozen BK302.out 7; have hfz24_8 := blk_frozen BK302.out 8; have hfz24_9 := blk_frozen BK302.out 9; have hfz24_10 := blk_frozen BK302.out 10; have hfz24_11 := blk_frozen BK302.out 11; have hfz24_12 := blk_frozen BK302.out 12))
                go_roundg k1
                case measure => have := HK1.out; omega
                case rel => exact ⟨(wrap64 (x6_1 + 1)), (t304), (t305), (t306), (t307), (t308), (t309), (t310), (t311), (t312), (t313), (t314), (t315), (t316), (.slice Ao22 t316.length co22), (by first | rfl | (simp; done) | (simp [*]; done)), H', ⟨by have := HK1.out; omega⟩, ⟨by (with_reducible repeat (first | apply Kd.R_alloc | apply Kd.R_drewN | apply Kd.R_drew)); exact Kd.R_mono (Kd.R_far (p := ⟨gb302, 12, none⟩) (Kd.R_far (p := ⟨gb302, 11, none⟩) (Kd.R_far (p := ⟨gb302, 10, none⟩) (Kd.R_far (p := ⟨gb302, 9, none⟩) (Kd.R_far (p := ⟨gb302, 8, none⟩) (Kd.R_far (p := ⟨gb302, 7, none⟩) (Kd.R_far (p := ⟨gb302, 6, none⟩) (Kd.R_far (p := ⟨gb302, 5, none⟩) (Kd.R_far (p := ⟨gb302, 4, none⟩) (Kd.R_far (p := ⟨gb302, 3, none⟩) (Kd.R_far (p := ⟨gb302, 2, none⟩) (Kd.R_far (p := ⟨gb302, 1, none⟩) (Kd.R_far (p := ⟨gb302, 0, none⟩) (Kd.R_far (p := ⟨gb320, 12, none⟩) (Kd.R_far (p := ⟨gb320, 11, none⟩) (Kd.R_far (p := ⟨gb320, 10, none⟩) (Kd.R_far (p := ⟨gb320, 9, none⟩) (Kd.R_far (p := ⟨gb320, 8, none⟩) (Kd.R_far (p := ⟨gb320, 7, none⟩) (Kd.R_far (p := ⟨gb320, 6, none⟩) (Kd.R_far (p := ⟨gb320, 5, none⟩) (Kd.R_far (p := ⟨gb320, 4, none⟩) (Kd.R_far (p := ⟨gb320, 3, none⟩) (Kd.R_far (p := ⟨gb320, 2, none⟩) (Kd.R_far (p := ⟨gb320, 1, none⟩) (Kd.R_far (p := ⟨gb320, 0, none⟩) (Kd.R_types (Kd.R_types HO318.out BK320.out (by decide)) BK302.out (by decide)) (fun _ hk => hk.1.2) (.int .i64 t304)) (fun _ hk => hk.1.2) (.int .i64 t305)) (fun _ hk => hk.1.2) (.int .i64 t306)) (fun _ hk => hk.1.2) (.int .i64 t307)) (fun _ hk => hk.1.2) (.int .i64 t308)) (fun _ hk => hk.1.2) (.int .i64 t309)) (fun _ hk => hk.1.2) (.int .i64 t310)) (fun _ hk => hk.1.2) (.int .i64 t311)) (fun _ hk => hk.1.2) (.int .i64 t312)) (fun _ hk => hk.1.2) (.int .i64 t313)) (fun _ hk => hk.1.2) (.int .i64 t314)) (fun _ hk => hk.1.2) (.int .i64 t315)) (fun _ hk => hk.1.2) (.slice Ao22 t316.length co22)) (fun _ hk => hk.2) (.int .i64 t304)) (fun _ hk => hk.2) (.int .i64 t305)) (fun _ hk => hk.2) (.int .i64 t306)) (fun _ hk => hk.2) (.int .i64 t307)) (fun _ hk => hk.2) (.int .i64 t308)) (fun _ hk => hk.2) (.int .i64 t309)) (fun _ hk => hk.2) (.int .i64 t310)) (fun _ hk => hk.2) (.int .i64 t311)) (fun _ hk => hk.2) (.int .i64 t312)) (fun _ hk => hk.2) (.int .i64 t313)) (fun _ hk => hk.2) (.int .i64 t314)) (fun _ hk => hk.2) (.int .i64 t315)) (fun _ hk => hk.2) (.slice Ao22 t316.length co22)) (fun _ hk => trivial)⟩, ⟨by (with_reducible repeat (first | refine blk_drewN ?_ _ | refine blk_drew ?_ | refine blk_alloc ?_ _)); refine blk_far ?_ NB298_302.out _; (with_reducible repeat (first | refine blk_drewN ?_ _ | refine blk_drew ?_ | refine blk_alloc ?_ _)); refine blk_far ?_ NB298_302.out _; (with_reducible repeat (first | refine blk_drewN ?_ _ | refine blk_drew ?_ | refine blk_alloc ?_ _)); refine blk_far ?_ NB298_302.out _; (with_reducible repeat (first | refine blk_drewN ?_ _ | refine blk_drew ?_ | refine blk_alloc ?_ _)); refine blk_far ?_ NB298_302.out _; (with_reducible repeat (first | refine blk_drewN ?_ _ | refine blk_drew ?_ | refine blk_alloc ?_ _)); refine blk_far ?_ NB298_302.out _; (with_reducible repeat (first | refine blk_drewN ?_ _ | refine blk_drew ?_ | refine blk_alloc ?_ _)); refine blk_far ?_ NB298_302.out _; (with_reducible repeat (first | refine blk_drewN ?_ _ | refine blk_drew ?_ | refine blk_alloc ?_ _)); refine blk_far ?_ NB298_302.out _; (with_reducible repeat (first | refine blk_drewN ?_ _ | refine blk_drew ?_ | refine blk_alloc ?_ _)); refine blk_far ?_ NB298_302.out _; (with_reducible repeat (first | refine blk_drewN ?_ _ | refine blk_drew ?_ | refine blk_alloc ?_ _)); refine blk_far ?_ NB298_302.out _; (with_reducible repeat (first | refine blk_drewN ?_ _ | refine blk_drew ?_ | refine blk_alloc ?_ _)); refine blk_far ?_ NB298_302.out _; (with_reducible repeat (first | refine blk_drewN ?_ _ | refine blk_drew ?_ | refine blk_alloc ?_ _)); refine blk_far ?_ NB298_302.out _; (with_reducible repeat (first | refine blk_drewN ?_ _ | refine blk_drew ?_ | refine blk_alloc ?_ _)); refine blk_far ?_ NB298_302.out _; (with_reducible repeat (first | refine blk_drewN ?_ _ | refine blk_drew ?_ | refine blk_alloc ?_ _)); refine blk_far ?_ NB298_302.out _; (with_reducible repeat (first | refine blk_drewN ?_ _ | refine blk_drew ?_ | refine blk_alloc ?_ _)); refine blk_far ?_ NB298_320.out _; (with_reducible repeat (first | refine blk_drewN ?_ _ | refine blk_drew ?_ | refine blk_alloc ?_ _)); refine blk_far ?_ NB298_320.out _; (with_reducible repeat (first | refine blk_drewN ?_ _ | refine blk_drew ?_ | refine blk_alloc ?_ _)); refine blk_far ?_ NB298_320.out _; (with_reducible repeat (first | refine blk_drewN ?_ _ | refine blk_drew ?_ | refine blk_alloc ?_ _)); refine blk_far ?_ NB298_320.out _; (with_reducible repeat (first | refine blk_drewN ?_ _ | refine blk_drew ?_ | refine blk_alloc ?_ _)); refine blk_far ?_ NB298_320.out _; (with_reducible repeat (first | refine blk_drewN ?_ _ | refine blk_drew ?_ | refine blk_alloc ?_ _)); refine blk_far ?_ NB298_320.out _; (with_reducible repeat (first | refine blk_drewN ?_ _ | refine blk_drew ?_ | refine blk_alloc ?_ _)); refine blk_far ?_ NB298_320.out _; (with_reducible repeat (first | refine blk_drewN ?_ _ | refine blk_drew ?_ | refine blk_alloc ?_ _)); refine blk_far ?_ NB298_320.out _; (with_reducible repeat (first | refine blk_drewN ?_ _ | refine blk_drew ?_ | refine blk_alloc ?_ _)); refine blk_far ?_ NB298_320.out _; (with_reducible repeat (first | refine blk_drewN ?_ _ | refine blk_drew ?_ | refine blk_alloc ?_ _)); refine blk_far ?_ NB298_320.out _; (with_reducible repeat (first | refine blk_drewN ?_ _ | refine blk_drew ?_ | refine blk_alloc ?_ _)); refine blk_far ?_ NB298_320.out _; (with_reducible repeat (first | refine blk_drewN ?_ _ | refine blk_drew ?_ | refine blk_alloc ?_ _)); refine blk_far ?_ NB298_320.out _; (with_reducible repeat (first | refine blk_drewN ?_ _ | refine blk_drew ?_ | refine blk_alloc ?_ _)); refine blk_far ?_ NB298_320.out _; (with_reducible repeat (first | refine blk_drewN ?_ _ | refine blk_drew ?_ | refine blk_alloc ?_ _)); exact BK298.out⟩, ⟨by (with_reducible repeat (first | refine blk_drewN ?_ _ | refine blk_drew ?_ | refine blk_alloc ?_ _)); refine blk_put (cs := #[.int .i64 t304, .int .i64 t305, .int .i64 t306, .int .i64 t307, .int .i64 t308, .int .i64 t309, .int .i64 t310, .int .i64 t311, .int .i64 t312, .int .i64 t313, .int .i64 t314, .int .i64 t315, u303012]) ?_ 12 _ rfl; (with_reducible repeat (first | refine blk_drewN ?_ _ | refine blk_drew ?_ | refine blk_alloc ?_ _)); refine blk_put (cs := #[.int .i64 t304, .int .i64 t305, .int .i64 t306, .int .i64 t307, .int .i64 t308, .int .i64 t309, .int .i64 t310, .int .i64 t311, .int .i64 t312, .int .i64 t313, .int .i64 t314, .int .i64 x303011_1, u303012]) ?_ 11 _ rfl; (with_reducible repeat (first | refine blk_drewN ?_ _ | refine blk_drew ?_ | refine blk_alloc ?_ _)); refine blk_put (cs := #[.int .i64 t304, .int .i64 t305, .int .i64 t306, .int .i64 t307, .int .i64 t308, .int .i64 t309, .int .i64 t310, .int .i64 t311, .int .i64 t312, .int .i64 t313, .int .i64 x303010_1, .int .i64 x303011_1, u303012]) ?_ 10 _ rfl; (with_reducible repeat (first | refine blk_drewN ?_ _ | refine blk_drew ?_ | refine blk_alloc ?_ _)); refine blk_put (cs := #[.int .i64 t304, .int .i64 t305, .int .i64 t306, .int .i64 t307, .int .i64 t308, .int .i64 t309, .int .i64 t310, .int .i64 t311, .int .i64 t312, .int .i64 x303009_1, .int .i64 x303010_1, .int .i64 x303011_1, u303012]) ?_ 9 _ rfl; (with_reducible repeat (first | refine blk_drewN ?_ _ | refine blk_drew ?_ | refine blk_alloc ?_ _)); refine blk_put (cs := #[.int .i64 t304, .int .i64 t305, .int .i64 t306, .int .i64 t307, .int .i64 t308, .int .i64 t309, .int .i64 t310, .int .i64 t311, .int .i64 x303008_1, .int .i64 x303009_1, .int .i64 x303010_1, .int .i64 x303011_1, u303012]) ?_ 8 _ rfl; (with_reducible repeat (first | refine blk_drewN ?_ _ | refine blk_drew ?_ | refine blk_alloc ?_ _)); refine blk_put (cs := #[.int .i64 t304, .int .i64 t305, .int .i64 t306, .int .i64 t307, .int .i64 t308, .int .i64 t309, .int .i64 t310, .int .i64 x303007_1, .int .i64 x303008_1, .int .i64 x303009_1, .int .i64 x303010_1, .int .i64 x303011_1, u303012]) ?_ 7 _ rfl; (with_reducible repeat (first | refine blk_drewN ?_ _ | refine blk_drew ?_ | refine blk_alloc ?_ _)); refine blk_put (cs := #[.int .i64 t304, .int .i64 t305, .int .i64 t306, .int .i64 t307, .int .i64 t308, .int .i64 t309, .int .i64 x303006_1, .int .i64 x303007_1, .int .i64 x303008_1, .int .i64 x303009_1, .int .i64 x303010_1, .int .i64 x303011_1, u303012]) ?_ 6 _ rfl; (with_reducible repeat (first | refine blk_drewN ?_ _ | refine blk_drew ?_ | refine blk_alloc ?_ _)); refine blk_put (cs := #[.int .i64 t304, .int .i64 t305, .int .i64 t306, .int .i64 t307, .int .i64 t308, .int .i64 x303005_1, .int .i64 x303006_1, .int .i64 x303007_1, .int .i64 x303008_1, .int .i64 x303009_1, .int .i64 x303010_1, .int .i64 x303011_1, u303012]) ?_ 5 _ rfl; (with_reducible repeat (first | refine blk_drewN ?_ _ | refine blk_drew ?_ | refine blk_alloc ?_ _)); refine blk_put (cs := #[.int .i64 t304, .int .i64 t305, .int .i64 t306, .int .i64 t307, .int .i64 x303004_1, .int .i64 x303005_1, .int .i64 x303006_1, .int .i64 x303007_1, .int .i64 x303008_1, .int .i64 x303009_1, .int .i64 x303010_1, .int .i64 x303011_1, u303012]) ?_ 4 _ rfl; (with_reducible repeat (first | refine blk_drewN ?_ _ | refine blk_drew ?_ | refine blk_alloc ?_ _)); refine blk_put (cs := #[.int .i64 t304, .int .i64 t305, .int .i64 t306, .int .i64 x303003_1, .int .i64 x303004_1, .int .i64 x303005_1, .int .i64 x303006_1, .int .i64 x303007_1, .int .i64 x303008_1, .int .i64 x303009_1, .int .i64 x303010_1, .int .i64 x303011_1, u303012]) ?_ 3 _ rfl; (with_reducible repeat (first | refine blk_drewN ?_ _ | refine blk_drew ?_ | refine blk_alloc ?_ _)); refine blk_put (cs := #[.int .i64 t304, .int .i64 t305, .int .i64 x303002_1, .int .i64 x303003_1, .int .i64 x303004_1, .int .i64 x303005_1, .int .i64 x303006_1, .int .i64 x303007_1, .int .i64 x303008_1, .int .i64 x303009_1, .int .i64 x303010_1, .int .i64 x303011_1, u303012]) ?_ 2 _ rfl; (with_reducible repeat (first | refine blk_drewN ?_ _ | refine blk_drew ?_ | refine blk_alloc ?_ _)); refine blk_put (cs := #[.int .i64 t304, .int .i64 x303001_1, .int .i64 x303002_1, .int .i64 x303003_1, .int .i64 x303004_1, .int .i64 x303005_1, .int .i64 x303006_1, .int .i64 x303007_1, .int .i64 x303008_1, .int .i64 x303009_1, .int .i64 x303010_1, .int .i64 x303011_1, u303012]) ?_ 1 _ rfl; (with_reducible repeat (first | refine blk_drewN ?_ _ | refine blk_drew ?_ | refine blk_alloc ?_ _)); refine blk_put (cs := #[.int .i64 x303000_1, .int .i64 x303001_1, .int .i64 x303002_1, .int .i64 x303003_1, .int .i64 x303004_1, .int .i64 x303005_1, .int .i64 x303006_1, .int .i64 x303007_1, .int .i64 x303008_1, .int .i64 x303009_1, .int .i64 x303010_1, .int .i64 x303011_1, u303012]) ?_ 0 _ rfl; (with_reducible repeat (first | refine blk_drewN ?_ _ | refine blk_drew ?_ | refine blk_alloc ?_ _)); refine blk_far ?_ NB302_320.out _; (with_reducible repeat (first | refine blk_drewN ?_ _ | refine blk_drew ?_ | refine blk_alloc ?_ _)); refine blk_far ?_ NB302_320.out _; (with_reducible repeat (first | refine blk_drewN ?_ _ | refine blk_drew ?_ | refine blk_alloc ?_ _)); refine blk_far ?_ NB302_320.out _; (with_reducible repeat (first | refine blk_drewN ?_ _ | refine blk_drew ?_ | refine blk_alloc ?_ _)); refine blk_far ?_ NB302_320.out _; (with_reducible repeat (first | refine blk_drewN ?_ _ | refine blk_drew ?_ | refine blk_alloc ?_ _)); refine blk_far ?_ NB302_320.out _; (with_reducible repeat (first | refine blk_drewN ?_ _ | refine blk_drew ?_ | refine blk_alloc ?_ _)); refine blk_far ?_ NB302_320.out _; (with_reducible repeat (first | refine blk_drewN ?_ _ | refine blk_drew ?_ | refine blk_alloc ?_ _)); refine blk_far ?_ NB302_320.out _; (with_reducible repeat (first | refine blk_drewN ?_ _ | refine blk_drew ?_ | refine blk_alloc ?_ _)); refine blk_far ?_ NB302_320.out _; (with_reducible repeat (first | refine blk_drewN ?_ _ | refine blk_drew ?_ | refine blk_alloc ?_ _)); refine blk_far ?_ NB302_320.out _; (with_reducible repeat (first | refine blk_drewN ?_ _ | refine blk_drew ?_ | refine blk_alloc ?_ _)); refine blk_far ?_ NB302_320.out _; (with_reducible repeat (first | refine blk_drewN ?_ _ | refine blk_drew ?_ | refine blk_alloc ?_ _)); refine blk_far ?_ NB302_320.out _; (with_reducible repeat (first | refine blk_drewN ?_ _ | refine blk_drew ?_ | refine blk_alloc ?_ _)); refine blk_far ?_ NB302_320.out _; (with_reducible repeat (first | refine blk_drewN ?_ _ | refine blk_drew ?_ | refine blk_alloc ?_ _)); refine blk_far ?_ NB302_320.out _; (with_reducible repeat (first | refine blk_drewN ?_ _ | refine blk_drew ?_ | refine blk_alloc ?_ _)); exact BK302.out⟩, ⟨by repeat (first | (with_reducible first | exact HB.out | apply below_alloc | apply pw_below_drewN | apply below_drew1 | refine below_set ?_ GE298.out | refine below_set ?_ GE302.out | refine below_set ?_ GE320.out) | exact HB.out)⟩⟩
              · rw [if_neg c16] at H
                have c16b0 : (x303000_1 == 0) = false := beq_eq_false_iff_ne.mpr c16
                have c16b1 : (x303000_1 != 0) = true := bne_iff_ne.mpr c16
                replace H := Option.bind_eq_some_iff.mp H
                obtain ⟨⟨t321, t322, t323, t324, t325, t326, t327, t328, t329, t330, t331, t332, t333⟩, A250, H⟩ := H
                replace H : (bourneref1_Fold.l0 k1 l0 l1 (wrap64 (x6_1 + 1)) t321 t322 t323 t324 t325 t326 t327 t328 t329 t330 t331 t332 t333) = some (r1, r2, r3, r4, r5, r6, r7, r8, r9, r10, r11, r12, r13) := H
                have A25 := Aside0.mk A250
                clear A250
                have H' := Aside0.mk H
                clear H
                have p303 : 0 ≤ (x6_1 : Int) := of_decide_eq_true (by first | (with_reducible assumption) | assumption)
                have q303 : x6_1 < (l0.length : Int) := of_decide_eq_true (by first | (with_reducible assumption) | assumption)
                obtain ⟨ad303, e303, hx303_0, hx303_1, hx303_2, hx303_3⟩ := at_T34 HR0.out x6_1 p303 q303
                cases e303
                replace hx303_0 := (HB.out.cell (World.block_lt_of_cell? w _ hx303_0)).trans hx303_0
                replace hx303_1 := (HB.out.cell (World.block_lt_of_cell? w _ hx303_1)).trans hx303_1
                replace hx303_2 := (HB.out.cell (World.block_lt_of_cell? w _ hx303_2)).trans hx303_2
                replace hx303_3 := (HB.out.cell (World.block_lt_of_cell? w _ hx303_3)).trans hx303_3
                replace p303 := eq_true p303
                replace q303 := eq_true q303
                go_wp2_with (first | ((with_reducible refine gate_callee (f := 53) rfl ?_); refine goesL_ (some 26) rfl rfl Try.func53 (by kernel_rfl) rfl #[.agg #[.int .i64 ((rd_T34 l0 x6_1).f0), .int .i64 ((rd_T34 l0 x6_1).f1), .int .i64 ((rd_T34 l0 x6_1).f2), .int .i64 ((rd_T34 l0 x6_1).f3)], .slice A1 l1.length c1] rfl (by (try simp only [List.map_toArray, List.map_cons, List.map_nil]); first | done | rfl | (simp only [List.length_drop, List.length_take]; rfl)) ?_; (with_reducible refine (bourneref1_One.calls ((rd_T34 l0 x6_1).f0) ((rd_T34 l0 x6_1).f1) ((rd_T34 l0 x6_1).f2) ((rd_T34 l0 x6_1).f3) _ _ l1 t304 t305 t306 t307 t308 t309 t310 t311 t312 t313 t314 t315 t316 t319 _ ?side1 ?side2 A15.out).mono ?_); (case side1 => repeat (first | exact (Kd.C_below HR1.out HB.out) | (with_reducible refine Kd.C_alloc ?_ _) | (with_reducible refine Kd.C_drewN ?_ _) | (with_reducible refine Kd.C_drew ?_))); (case side2 => exact HC1.out); rintro e w26 ⟨v317, rfl, ho0, hb⟩; refine ⟨_, rfl, ?_⟩; have n0_ := Aside0.mk (Kd.R_elder' (by (with_reducible repeat (first | apply Kd.R_alloc | apply Kd.R_drewN | apply Kd.R_drew)); exact HO_303012.out) (Kd.R_base ho0) hb); have n1_ := Aside0.mk (Kd.R_lower (Kd.R_new' ho0 (Kd.R_lt (by (with_reducible repeat (first | apply Kd.R_alloc | apply Kd.R_drewN | apply Kd.R_drew)); exact HO_303012.out))) (below_size (by repeat (first | (with_reducible first | exact HB.out | apply below_alloc | apply pw_below_drewN | apply below_drew1 | refine below_set ?_ GE298.out | refine below_set ?_ GE302.out) | exact HB.out)))); have n2_ := Aside0.mk (blk_below (g := gb298) (o := .cells #[.int .i64 0, .int .i64 0, .int .i64 0, .int .i64 0, .int .i64 0, .int .i64 0, .int .i64 0, .int .i64 0, .int .i64 0, .int .i64 0, .int .i64 0, .int .i64 0, .slice none 0 0] 36 (0, 0)) (by (with_reducible repeat (first | refine blk_drewN ?_ _ | refine blk_drew ?_ | refine blk_alloc ?_ _)); exact BK298.out) hb); have n3_ := Aside0.mk (blk_below (g := gb302) (o := .cells #[.int .i64 x303000_1, .int .i64 x303001_1, .int .i64 x303002_1, .int .i64 x303003_1, .int .i64 x303004_1, .int .i64 x303005_1, .int .i64 x303006_1, .int .i64 x303007_1, .int .i64 x303008_1, .int .i64 x303009_1, .int .i64 x303010_1, .int .i64 x303011_1, u303012] 36 (0, 0)) (by (with_reducible repeat (first | refine blk_drewN ?_ _ | refine blk_drew ?_ | refine blk_alloc ?_ _)); exact BK302.out) hb); have n4_ := Aside0.mk (below_step (by repeat (first | (with_reducible first | exact HB.out | apply below_alloc | apply pw_below_drewN | apply below_drew1 | refine below_set ?_ GE298.out | refine below_set ?_ GE302.out) | exact HB.out)) hb); clear HO_303012; clear BK298; clear BK302; clear HB; have HO_303012 := n0_; have HO318 := n1_; have BK298 := n2_; have BK302 := n3_; have HB := n4_; clear n0_ n1_ n2_ n3_ n4_; (try clear hb); (try clear hb2); (try clear hk); (try clear hi); (try clear ho0)) | ((with_reducible refine gate_dst (N := 7) rfl ?_); refine box_event ?hg (N := 7) ?hd (cs := #[.int .i64 0, .int .i64 0, .int .i64 0, .int .i64 0, .int .i64 0, .int .i64 0, .int .i64 0, .int .i64 0, .int .i64 0, .int .i64 0, .int .i64 0, .int .i64 0, .slice none 0 0]) (t := 36) ?hr ?_; (case hd => rfl); (case hg => rfl); (case hr => first | (go_simp; done) | (go_simp; rfl)); intro gb320 hg w27 hbox hb; have n0_ := Aside0.mk (Kd.R_below (by (with_reducible repeat (first | apply Kd.R_alloc | apply Kd.R_drewN | apply Kd.R_drew)); exact HO_303012.out) hb); have n1_ := Aside0.mk (Kd.R_below (by (with_reducible repeat (first | apply Kd.R_alloc | apply Kd.R_drewN | apply Kd.R_drew)); exact HO318.out) hb); have n2_ := Aside0.mk (blk_below (g := gb298) (o := .cells #[.int .i64 0, .int .i64 0, .int .i64 0, .int .i64 0, .int .i64 0, .int .i64 0, .int .i64 0, .int .i64 0, .int .i64 0, .int .i64 0, .int .i64 0, .int .i64 0, .slice none 0 0] 36 (0, 0)) (by (with_reducible repeat (first | refine blk_drewN ?_ _ | refine blk_drew ?_ | refine blk_alloc ?_ _)); exact BK298.out) hb); have n3_ := Aside0.mk (blk_below (g := gb302) (o := .cells #[.int .i64 x303000_1, .int .i64 x303001_1, .int .i64 x303002_1, .int .i64 x303003_1, .int .i64 x303004_1, .int .i64 x303005_1, .int .i64 x303006_1, .int .i64 x303007_1, .int .i64 x303008_1, .int .i64 x303009_1, .int .i64 x303010_1, .int .i64 x303011_1, u303012] 36 (0, 0)) (by (with_reducible repeat (first | refine blk_drewN ?_ _ | refine blk_drew ?_ | refine blk_alloc ?_ _)); exact BK302.out) hb); have n4_ := Aside0.mk (below_step (by repeat (first | (with_reducible first | exact HB.out | apply below_alloc | apply pw_below_drewN | apply below_drew1 | refine below_set ?_ GE298.out | refine below_set ?_ GE302.out) | exact HB.out)) hb); have n5_ := Aside0.mk (hbox); have n6_ := Aside0.mk ((by rw [hg]; exact (below_size (by repeat (first | (with_reducible first | exact HB.out | apply below_alloc | apply pw_below_drewN | apply below_drew1 | refine below_set ?_ GE298.out | refine below_set ?_ GE302.out) | exact HB.out))) : w.heap.size ≤ gb320)); have n7_ := Aside0.mk ((by rw [hg]; exact (below_size (by repeat (first | (with_reducible first | exact HB.out | apply below_alloc | apply pw_below_drewN | apply below_drew1 | refine below_set ?_ GE298.out | refine below_set ?_ GE302.out) | exact HB.out))) : w.heap.size ≤ gb320)); have n8_ := Aside0.mk ((by rw [hg]; exact Nat.ne_of_lt (blk_lt (g := gb298) (o := .cells #[.int .i64 0, .int .i64 0, .int .i64 0, .int .i64 0, .int .i64 0, .int .i64 0, .int .i64 0, .int .i64 0, .int .i64 0, .int .i64 0, .int .i64 0, .int .i64 0, .slice none 0 0] 36 (0, 0)) (by (with_reducible repeat (first | refine blk_drewN ?_ _ | refine blk_drew ?_ | refine blk_alloc ?_ _)); exact BK298.out)) : gb298 ≠ gb320)); have n9_ := Aside0.mk ((by rw [hg]; exact Nat.ne_of_gt (blk_lt (g := gb298) (o := .cells #[.int .i64 0, .int .i64 0, .int .i64 0, .int .i64 0, .int .i64 0, .int .i64 0, .int .i64 0, .int .i64 0, .int .i64 0, .int .i64 0, .int .i64 0, .int .i64 0, .slice none 0 0] 36 (0, 0)) (by (with_reducible repeat (first | refine blk_drewN ?_ _ | refine blk_drew ?_ | refine blk_alloc ?_ _)); exact BK298.out)) : gb320 ≠ gb298)); have n10_ := Aside0.mk ((by rw [hg]; exact Nat.ne_of_lt (blk_lt (g := gb302) (o := .cells #[.int .i64 x303000_1, .int .i64 x303001_1, .int .i64 x303002_1, .int .i64 x303003_1, .int .i64 x303004_1, .int .i64 x303005_1, .int .i64 x303006_1, .int .i64 x303007_1, .int .i64 x303008_1, .int .i64 x303009_1, .int .i64 x303010_1, .int .i64 x303011_1, u303012] 36 (0, 0)) (by (with_reducible repeat (first | refine blk_drewN ?_ _ | refine blk_drew ?_ | refine blk_alloc ?_ _)); exact BK302.out)) : gb302 ≠ gb320)); have n11_ := Aside0.mk ((by rw [hg]; exact Nat.ne_of_gt (blk_lt (g := gb302) (o := .cells #[.int .i64 x303000_1, .int .i64 x303001_1, .int .i64 x303002_1, .int .i64 x303003_1, .int .i64 x303004_1, .int .i64 x303005_1, .int .i64 x303006_1, .int .i64 x303007_1, .int .i64 x303008_1, .int .i64 x303009_1, .int .i64 x303010_1, .int .i64 x303011_1, u303012] 36 (0, 0)) (by (with_reducible repeat (first | refine blk_drewN ?_ _ | refine blk_drew ?_ | refine blk_alloc ?_ _)); exact BK302.out)) : gb320 ≠ gb302)); clear HO_303012; clear HO318; clear BK298; clear BK302; clear HB; have HO_303012 := n0_; have HO318 := n1_; have BK298 := n2_; have BK302 := n3_; have HB := n4_; have BK320 := n5_; have GW320 := n6_; have GE320 := n7_; have NB298_320 := n8_; have NB320_298 := n9_; have NB302_320 := n10_; have NB320_302 := n11_; clear n0_ n1_ n2_ n3_ n4_ n5_ n6_ n7_ n8_ n9_ n10_ n11_; clear hb hbox hg; have hnb28 := NB320_298.out; have hnc28 := NB298_320.out; have hnb29 := NB320_302.out; have hnc29 := NB302_320.out; have hcz30_0 : w27.cell? ⟨gb320, 0, none⟩ = some (.int .i64 0) := (blk_cell BK320.out 0).trans rfl; have hcz30_1 : w27.cell? ⟨gb320, 1, none⟩ = some (.int .i64 0) := (blk_cell BK320.out 1).trans rfl; have hcz30_2 : w27.cell? ⟨gb320, 2, none⟩ = some (.int .i64 0) := (blk_cell BK320.out 2).trans rfl; have hcz30_3 : w27.cell? ⟨gb320, 3, none⟩ = some (.int .i64 0) := (blk_cell BK320.out 3).trans rfl; have hcz30_4 : w27.cell? ⟨gb320, 4, none⟩ = some (.int .i64 0) := (blk_cell BK320.out 4).trans rfl; have hcz30_5 : w27.cell? ⟨gb320, 5, none⟩ = some (.int .i64 0) := (blk_cell BK320.out 5).trans rfl; have hcz30_6 : w27.cell? ⟨gb320, 6, none⟩ = some (.int .i64 0) := (blk_cell BK320.out 6).trans rfl; have hcz30_7 : w27.cell? ⟨gb320, 7, none⟩ = some (.int .i64 0) := (blk_cell BK320.out 7).trans rfl; have hcz30_8 : w27.cell? ⟨gb320, 8, none⟩ = some (.int .i64 0) := (blk_cell BK320.out 8).trans rfl; have hcz30_9 : w27.cell? ⟨gb320, 9, none⟩ = some (.int .i64 0) := (blk_cell BK320.out 9).trans rfl; have hcz30_10 : w27.cell? ⟨gb320, 10, none⟩ = some (.int .i64 0) := (blk_cell BK320.out 10).trans rfl; have hcz30_11 : w27.cell? ⟨gb320, 11, none⟩ = some (.int .i64 0) := (blk_cell BK320.out 11).trans rfl; have hcz30_12 : w27.cell? ⟨gb320, 12, none⟩ = some (.slice none 0 0) := (blk_cell BK320.out 12).trans rfl; have hfz30_0 := blk_frozen BK320.out 0; have hfz30_1 := blk_frozen BK320.out 1; have hfz30_2 := blk_frozen BK320.out 2; have hfz30_3 := blk_frozen BK320.out 3; have hfz30_4 := blk_frozen BK320.out 4; have hfz30_5 := blk_frozen BK320.out 5; have hfz30_6 := blk_frozen BK320.out 6; have hfz30_7 := blk_frozen BK320.out 7; have hfz30_8 := blk_frozen BK320.out 8; have hfz30_9 := blk_frozen BK320.out 9; have hfz30_10 := blk_frozen BK320.out 10; have hfz30_11 := blk_frozen BK320.out 11; have hfz30_12 := blk_frozen BK320.out 12; obtain ⟨Ao31, co31, eo31⟩ := Kd.R_slice HO318.out; subst eo31; have hnb32 := NB302_298.out; have hnc32 := NB298_302.out; have hcz33_0 : w27.cell? ⟨gb302, 0, none⟩ = some (.int .i64 x303000_1) := (blk_cell BK302.out 0).trans rfl; have hcz33_1 : w27.cell? ⟨gb302, 1, none⟩ = some (.int .i64 x303001_1) := (blk_cell BK302.out 1).trans rfl; have hcz33_2 : w27.cell? ⟨gb302, 2, none⟩ = some (.int .i64 x303002_1) := (blk_cell BK302.out 2).trans rfl; have hcz33_3 : w27.cell? ⟨gb302, 3, none⟩ = some (.int .i64 x303003_1) := (blk_cell BK302.out 3).trans rfl; have hcz33_4 : w27.cell? ⟨gb302, 4, none⟩ = some (.int .i64 x303004_1) := (blk_cell BK302.out 4).trans rfl; have hcz33_5 : w27.cell? ⟨gb302, 5, none⟩ = some (.int .i64 x303005_1) := (blk_cell BK302.out 5).trans rfl; have hcz33_6 : w27.cell? ⟨gb302, 6, none⟩ = some (.int .i64 x303006_1) := (blk_cell BK302.out 6).trans rfl; have hcz33_7 : w27.cell? ⟨gb302, 7, none⟩ = some (.int .i64 x303007_1) := (blk_cell BK302.out 7).trans rfl; have hcz33_8 : w27.cell? ⟨gb302, 8, none⟩ = some (.int .i64 x303008_1) := (blk_cell BK302.out 8).trans rfl; have hcz33_9 : w27.cell? ⟨gb302, 9, none⟩ = some (.int .i64 x303009_1) := (blk_cell BK302.out 9).trans rfl; have hcz33_10 : w27.cell? ⟨gb302, 10, none⟩ = some (.int .i64 x303010_1) := (blk_cell BK302.out 10).trans rfl; have hcz33_11 : w27.cell? ⟨gb302, 11, none⟩ = some (.int .i64 x303011_1) := (blk_cell BK302.out 11).trans rfl; have hcz33_12 : w27.cell? ⟨gb302, 12, none⟩ = some (u303012) := (blk_cell BK302.out 12).trans rfl; have hfz33_0 := blk_frozen BK302.out 0; have hfz33_1 := blk_frozen BK302.out 1; have hfz33_2 := blk_frozen BK302.out 2; have hfz33_3 := blk_frozen BK302.out 3; have hfz33_4 := blk_frozen BK302.out 4; have hfz33_5 := blk_frozen BK302.out 5; have hfz33_6 := blk_frozen BK302.out 6; have hfz33_7 := blk_frozen BK302.out 7; have hfz33_8 := blk_frozen BK302.out 8; have hfz33_9 := blk_frozen BK302.out 9; have hfz33_10 := blk_frozen BK302.out 10; have hfz33_11 := blk_frozen BK302.out 11; have hfz33_12 := blk_frozen BK302.out 12; obtain ⟨Ao34, co34, eo34⟩ := Kd.R_slice HO_303012.out; subst eo34) | ((with_reducible refine gate_callee (f := 76) rfl ?_); refine goesL_ (some 35) rfl rfl Try.func76 (by kernel_rfl) rfl #[.agg #[.int .i64 x303000_1, .int .i64 x303001_1, .int .i64 x303002_1, .int .i64 x303003_1, .int .i64 x303004_1, .int .i64 x303005_1, .int .i64 x303006_1, .int .i64 x303007_1, .int .i64 x303008_1, .int .i64 x303009_1, .int .i64 x303010_1, .int .i64 x303011_1, .slice Ao34 x303012_1.length co34], .agg #[.int .i64 t304, .int .i64 t305, .int .i64 t306, .int .i64 t307, .int .i64 t308, .int .i64 t309, .int .i64 t310, .int .i64 t311, .int .i64 t312, .int .i64 t313, .int .i64 t314, .int .i64 t315, .slice Ao31 t316.length co31]] rfl (by (try simp only [List.map_toArray, List.map_cons, List.map_nil]); first | done | rfl | (simp only [List.length_drop, List.length_take]; rfl)) ?_; (with_reducible refine (bourneref1_two.calls x303000_1 x303001_1 x303002_1 x303003_1 x303004_1 x303005_1 x303006_1 x303007_1 x303008_1 x303009_1 x303010_1 x303011_1 _ _ x303012_1 t304 t305 t306 t307 t308 t309 t310 t311 t312 t313 t314 t315 _ _ t316 t321 t322 t323 t324 t325 t326 t327 t328 t329 t330 t331 t332 t333 _ ?side1 ?side2 ?side3 ?side4 A25.out).mono ?_); (case side1 => refine (Kd.R_reads' (e := 3) (base := w.heap.size) (ok := fun k_ => (True ∧ some k_ ≠ (.slice Ao31 t316.length co31 : Value).ownBlock)) (n := x303012_1.length) (c := co34) ?_).2.2; exact (by (with_reducible repeat (first | apply Kd.R_alloc | apply Kd.R_drewN | apply Kd.R_drew)); exact (Kd.R_mono (Kd.R_far (p := ⟨gb320, 12, none⟩) (Kd.R_far (p := ⟨gb320, 11, none⟩) (Kd.R_far (p := ⟨gb320, 10, none⟩) (Kd.R_far (p := ⟨gb320, 9, none⟩) (Kd.R_far (p := ⟨gb320, 8, none⟩) (Kd.R_far (p := ⟨gb320, 7, none⟩) (Kd.R_far (p := ⟨gb320, 6, none⟩) (Kd.R_far (p := ⟨gb320, 5, none⟩) (Kd.R_far (p := ⟨gb320, 4, none⟩) (Kd.R_far (p := ⟨gb320, 3, none⟩) (Kd.R_far (p := ⟨gb320, 2, none⟩) (Kd.R_far (p := ⟨gb320, 1, none⟩) (Kd.R_far (p := ⟨gb320, 0, none⟩) (Kd.R_types HO_303012.out BK320.out (by decide)) (fun _ hk => hk.2) (.int .i64 t304)) (fun _ hk => hk.2) (.int .i64 t305)) (fun _ hk => hk.2) (.int .i64 t306)) (fun _ hk => hk.2) (.int .i64 t307)) (fun _ hk => hk.2) (.int .i64 t308)) (fun _ hk => hk.2) (.int .i64 t309)) (fun _ hk => hk.2) (.int .i64 t310)) (fun _ hk => hk.2) (.int .i64 t311)) (fun _ hk => hk.2) (.int .i64 t312)) (fun _ hk => hk.2) (.int .i64 t313)) (fun _ hk => hk.2) (.int .i64 t314)) (fun _ hk => hk.2) (.int .i64 t315)) (fun _ hk => hk.2) (.slice Ao31 t316.length co31)) (fun _ h_ => h_.1)))); (case side2 => exact (Kd.R_reads' HO_303012.out).2.1); (case side3 => refine (Kd.R_reads' (e := 3) (base := w.heap.size) (ok := fun k_ => (True ∧ some k_ ≠ (.slice Ao34 x303012_1.length co34 : Value).ownBlock)) (n := t316.length) (c := co31) ?_).2.2; exact (by (with_reducible repeat (first | apply Kd.R_alloc | apply Kd.R_drewN | apply Kd.R_drew)); exact (Kd.R_mono (Kd.R_far (p := ⟨gb320, 12, none⟩) (Kd.R_far (p := ⟨gb320, 11, none⟩) (Kd.R_far (p := ⟨gb320, 10, none⟩) (Kd.R_far (p := ⟨gb320, 9, none⟩) (Kd.R_far (p := ⟨gb320, 8, none⟩) (Kd.R_far (p := ⟨gb320, 7, none⟩) (Kd.R_far (p := ⟨gb320, 6, none⟩) (Kd.R_far (p := ⟨gb320, 5, none⟩) (Kd.R_far (p := ⟨gb320, 4, none⟩) (Kd.R_far (p := ⟨gb320, 3, none⟩) (Kd.R_far (p := ⟨gb320, 2, none⟩) (Kd.R_far (p := ⟨gb320, 1, none⟩) (Kd.R_far (p := ⟨gb320, 0, none⟩) (Kd.R_types HO318.out BK320.out (by decide)) (fun _ hk => hk.2) (.int .i64 t304)) (fun _ hk => hk.2) (.int .i64 t305)) (fun _ hk => hk.2) (.int .i64 t306)) (fun _ hk => hk.2) (.int .i64 t307)) (fun _ hk => hk.2) (.int .i64 t308)) (fun _ hk => hk.2) (.int .i64 t309)) (fun _ hk => hk.2) (.int .i64 t310)) (fun _ hk => hk.2) (.int .i64 t311)) (fun _ hk => hk.2) (.int .i64 t312)) (fun _ hk => hk.2) (.int .i64 t313)) (fun _ hk => hk.2) (.int .i64 t314)) (fun _ hk => hk.2) (.int .i64 t315)) (fun _ hk => hk.2) (.slice Ao31 t316.length co31)) (fun _ h_ => h_.1)))); (case side4 => exact (Kd.R_reads' HO318.out).2.1); rintro e w35 ⟨v334, rfl, ho0, hb⟩; refine ⟨_, rfl, ?_⟩; have n0_ := Aside0.mk (Kd.R_elder' (by (with_reducible repeat (first | apply Kd.R_alloc | apply Kd.R_drewN | apply Kd.R_drew)); exact (Kd.R_mono (Kd.R_far (p := ⟨gb320, 12, none⟩) (Kd.R_far (p := ⟨gb320, 11, none⟩) (Kd.R_far (p := ⟨gb320, 10, none⟩) (Kd.R_far (p := ⟨gb320, 9, none⟩) (Kd.R_far (p := ⟨gb320, 8, none⟩) (Kd.R_far (p := ⟨gb320, 7, none⟩) (Kd.R_far (p := ⟨gb320, 6, none⟩) (Kd.R_far (p := ⟨gb320, 5, none⟩) (Kd.R_far (p := ⟨gb320, 4, none⟩) (Kd.R_far (p := ⟨gb320, 3, none⟩) (Kd.R_far (p := ⟨gb320, 2, none⟩) (Kd.R_far (p := ⟨gb320, 1, none⟩) (Kd.R_far (p := ⟨gb320, 0, none⟩) (Kd.R_types HO_303012.out BK320.out (by decide)) (fun _ hk => hk.2) (.int .i64 t304)) (fun _ hk => hk.2) (.int .i64 t305)) (fun _ hk => hk.2) (.int .i64 t306)) (fun _ hk => hk.2) (.int .i64 t307)) (fun _ hk => hk.2) (.int .i64 t308)) (fun _ hk => hk.2) (.int .i64 t309)) (fun _ hk => hk.2) (.int .i64 t310)) (fun _ hk => hk.2) (.int .i64 t311)) (fun _ hk => hk.2) (.int .i64 t312)) (fun _ hk => hk.2) (.int .i64 t313)) (fun _ hk => hk.2) (.int .i64 t314)) (fun _ hk => hk.2) (.int .i64 t315)) (fun _ hk => hk.2) (.slice Ao31 t316.length co31)) (fun _ h_ => h_.1))) (Kd.R_base ho0) hb); have n1_ := Aside0.mk (Kd.R_elder' (by (with_reducible repeat (first | apply Kd.R_alloc | apply Kd.R_drewN | apply Kd.R_drew)); exact (Kd.R_mono (Kd.R_far (p := ⟨gb320, 12, none⟩) (Kd.R_far (p := ⟨gb320, 11, none⟩) (Kd.R_far (p := ⟨gb320, 10, none⟩) (Kd.R_far (p := ⟨gb320, 9, none⟩) (Kd.R_far (p := ⟨gb320, 8, none⟩) (Kd.R_far (p := ⟨gb320, 7, none⟩) (Kd.R_far (p := ⟨gb320, 6, none⟩) (Kd.R_far (p := ⟨gb320, 5, none⟩) (Kd.R_far (p := ⟨gb320, 4, none⟩) (Kd.R_far (p := ⟨gb320, 3, none⟩) (Kd.R_far (p := ⟨gb320, 2, none⟩) (Kd.R_far (p := ⟨gb320, 1, none⟩) (Kd.R_far (p := ⟨gb320, 0, none⟩) (Kd.R_types HO318.out BK320.out (by decide)) (fun _ hk => hk.2) (.int .i64 t304)) (fun _ hk => hk.2) (.int .i64 t305)) (fun _ hk => hk.2) (.int .i64 t306)) (fun _ hk => hk.2) (.int .i64 t307)) (fun _ hk => hk.2) (.int .i64 t308)) (fun _ hk => hk.2) (.int .i64 t309)) (fun _ hk => hk.2) (.int .i64 t310)) (fun _ hk => hk.2) (.int .i64 t311)) (fun _ hk => hk.2) (.int .i64 t312)) (fun _ hk => hk.2) (.int .i64 t313)) (fun _ hk => hk.2) (.int .i64 t314)) (fun _ hk => hk.2) (.int .i64 t315)) (fun _ hk => hk.2) (.slice Ao31 t316.length co31)) (fun _ h_ => h_.1))) (Kd.R_base ho0) hb); have n2_ := Aside0.mk (Kd.R_lower (Kd.R_new' (Kd.R_new' ho0 (Kd.R_lt (by (with_reducible repeat (first | apply Kd.R_alloc | apply Kd.R_drewN | apply Kd.R_drew)); exact (Kd.R_mono (Kd.R_far (p := ⟨gb320, 12, none⟩) (Kd.R_far (p := ⟨gb320, 11, none⟩) (Kd.R_far (p := ⟨gb320, 10, none⟩) (Kd.R_far (p := ⟨gb320, 9, none⟩) (Kd.R_far (p := ⟨gb320, 8, none⟩) (Kd.R_far (p := ⟨gb320, 7, none⟩) (Kd.R_far (p := ⟨gb320, 6, none⟩) (Kd.R_far (p := ⟨gb320, 5, none⟩) (Kd.R_far (p := ⟨gb320, 4, none⟩) (Kd.R_far (p := ⟨gb320, 3, none⟩) (Kd.R_far (p := ⟨gb320, 2, none⟩) (Kd.R_far (p := ⟨gb320, 1, none⟩) (Kd.R_far (p := ⟨gb320, 0, none⟩) (Kd.R_types HO_303012.out BK320.out (by decide)) (fun _ hk => hk.2) (.int .i64 t304)) (fun _ hk => hk.2) (.int .i64 t305)) (fun _ hk => hk.2) (.int .i64 t306)) (fun _ hk => hk.2) (.int .i64 t307)) (fun _ hk => hk.2) (.int .i64 t308)) (fun _ hk => hk.2) (.int .i64 t309)) (fun _ hk => hk.2) (.int .i64 t310)) (fun _ hk => hk.2) (.int .i64 t311)) (fun _ hk => hk.2) (.int .i64 t312)) (fun _ hk => hk.2) (.int .i64 t313)) (fun _ hk => hk.2) (.int .i64 t314)) (fun _ hk => hk.2) (.int .i64 t315)) (fun _ hk => hk.2) (.slice Ao31 t316.length co31)) (fun _ h_ => h_.1))))) (Kd.R_lt (by (with_reducible repeat (first | apply Kd.R_alloc | apply Kd.R_drewN | apply Kd.R_drew)); exact (Kd.R_mono (Kd.R_far (p := ⟨gb320, 12, none⟩) (Kd.R_far (p := ⟨gb320, 11, none⟩) (Kd.R_far (p := ⟨gb320, 10, none⟩) (Kd.R_far (p := ⟨gb320, 9, none⟩) (Kd.R_far (p := ⟨gb320, 8, none⟩) (Kd.R_far (p := ⟨gb320, 7, none⟩) (Kd.R_far (p := ⟨gb320, 6, none⟩) (Kd.R_far (p := ⟨gb320, 5, none⟩) (Kd.R_far (p := ⟨gb320, 4, none⟩) (Kd.R_far (p := ⟨gb320, 3, none⟩) (Kd.R_far (p := ⟨gb320, 2, none⟩) (Kd.R_far (p := ⟨gb320, 1, none⟩) (Kd.R_far (p := ⟨gb320, 0, none⟩) (Kd.R_types HO318.out BK320.out (by decide)) (fun _ hk => hk.2) (.int .i64 t304)) (fun _ hk => hk.2) (.int .i64 t305)) (fun _ hk => hk.2) (.int .i64 t306)) (fun _ hk => hk.2) (.int .i64 t307)) (fun _ hk => hk.2) (.int .i64 t308)) (fun _ hk => hk.2) (.int .i64 t309)) (fun _ hk => hk.2) (.int .i64 t310)) (fun _ hk => hk.2) (.int .i64 t311)) (fun _ hk => hk.2) (.int .i64 t312)) (fun _ hk => hk.2) (.int .i64 t313)) (fun _ hk => hk.2) (.int .i64 t314)) (fun _ hk => hk.2) (.int .i64 t315)) (fun _ hk => hk.2) (.slice Ao31 t316.length co31)) (fun _ h_ => h_.1))))) (below_size (by repeat (first | (with_reducible first | exact HB.out | apply below_alloc | apply pw_below_drewN | apply below_drew1 | refine below_set ?_ GE298.out | refine below_set ?_ GE302.out | refine below_set ?_ GE320.out) | exact HB.out)))); have n3_ := Aside0.mk (blk_below (g := gb298) (o := .cells #[.int .i64 0, .int .i64 0, .int .i64 0, .int .i64 0, .int .i64 0, .int .i64 0, .int .i64 0, .int .i64 0, .int .i64 0, .int .i64 0, .int .i64 0, .int .i64 0, .slice none 0 0] 36 (0, 0)) (by (with_reducible repeat (first | refine blk_drewN ?_ _ | refine blk_drew ?_ | refine blk_alloc ?_ _)); refine blk_far ?_ NB298_320.out _; (with_reducible repeat (first | refine blk_drewN ?_ _ | refine blk_drew ?_ | refine blk_alloc ?_ _)); refine blk_far ?_ NB298_320.out _; (with_reducible repeat (first | refine blk_drewN ?_ _ | refine blk_drew ?_ | refine blk_alloc ?_ _)); refine blk_far ?_ NB298_320.out _; (with_reducible repeat (first | refine blk_drewN ?_ _ | refine blk_drew ?_ | refine blk_alloc ?_ _)); refine blk_far ?_ NB298_320.out _; (with_reducible repeat (first | refine blk_drewN ?_ _ | refine blk_drew ?_ | refine blk_alloc ?_ _)); refine blk_far ?_ NB298_320.out _; (with_reducible repeat (first | refine blk_drewN ?_ _ | refine blk_drew ?_ | refine blk_alloc ?_ _)); refine blk_far ?_ NB298_320.out _; (with_reducible repeat (first | refine blk_drewN ?_ _ | refine blk_drew ?_ | refine blk_alloc ?_ _)); refine blk_far ?_ NB298_320.out _; (with_reducible repeat (first | refine blk_drewN ?_ _ | refine blk_drew ?_ | refine blk_alloc ?_ _)); refine blk_far ?_ NB298_320.out _; (with_reducible repeat (first | refine blk_drewN ?_ _ | refine blk_drew ?_ | refine blk_alloc ?_ _)); refine blk_far ?_ NB298_320.out _; (with_reducible repeat (first | refine blk_drewN ?_ _ | refine blk_drew ?_ | refine blk_alloc ?_ _)); refine blk_far ?_ NB298_320.out _; (with_reducible repeat (first | refine blk_drewN ?_ _ | refine blk_drew ?_ | refine blk_alloc ?_ _)); refine blk_far ?_ NB298_320.out _; (with_reducible repeat (first | refine blk_drewN ?_ _ | refine blk_drew ?_ | refine blk_alloc ?_ _)); refine blk_far ?_ NB298_320.out _; (with_reducible repeat (first | refine blk_drewN ?_ _ | refine blk_drew ?_ | refine blk_alloc ?_ _)); refine blk_far ?_ NB298_320.out _; (with_reducible repeat (first | refine blk_drewN ?_ _ | refine blk_drew ?_ | refine blk_alloc ?_ _)); exact BK298.out) hb); have n4_ := Aside0.mk (blk_below (g := gb302) (o := .cells #[.int .i64 x303000_1, .int .i64 x303001_1, .int .i64 x303002_1, .int .i64 x303003_1, .int .i64 x303004_1, .int .i64 x303005_1, .int .i64 x303006_1, .int .i64 x303007_1, .int .i64 x303008_1, .int .i64 x303009_1, .int .i64 x303010_1, .int .i64 x303011_1, .slice Ao34 x303012_1.length co34] 36 (0, 0)) (by (with_reducible repeat (first | refine blk_drewN ?_ _ | refine blk_drew ?_ | refine blk_alloc ?_ _)); refine blk_far ?_ NB302_320.out _; (with_reducible repeat (first | refine blk_drewN ?_ _ | refine blk_drew ?_ | refine blk_alloc ?_ _)); refine blk_far ?_ NB302_320.out _; (with_reducible repeat (first | refine blk_drewN ?_ _ | refine blk_drew ?_ | refine blk_alloc ?_ _)); refine blk_far ?_ NB302_320.out _; (with_reducible repeat (first | refine blk_drewN ?_ _ | refine blk_drew ?_ | refine blk_alloc ?_ _)); refine blk_far ?_ NB302_320.out _; (with_reducible repeat (first | refine blk_drewN ?_ _ | refine blk_drew ?_ | refine blk_alloc ?_ _)); refine blk_far ?_ NB302_320.out _; (with_reducible repeat (first | refine blk_drewN ?_ _ | refine blk_drew ?_ | refine blk_alloc ?_ _)); refine blk_far ?_ NB302_320.out _; (with_reducible repeat (first | refine blk_drewN ?_ _ | refine blk_drew ?_ | refine blk_alloc ?_ _)); refine blk_far ?_ NB302_320.out _; (with_reducible repeat (first | refine blk_drewN ?_ _ | refine blk_drew ?_ | refine blk_alloc ?_ _)); refine blk_far ?_ NB302_320.out _; (with_reducible repeat (first | refine blk_drewN ?_ _ | refine blk_drew ?_ | refine blk_alloc ?_ _)); refine blk_far ?_ NB302_320.out _; (with_reducible repeat (first | refine blk_drewN ?_ _ | refine blk_drew ?_ | refine blk_alloc ?_ _)); refine blk_far ?_ NB302_320.out _; (with_reducible repeat (first | refine blk_drewN ?_ _ | refine blk_drew ?_ | refine blk_alloc ?_ _)); refine blk_far ?_ NB302_320.out _; (with_reducible repeat (first | refine blk_drewN ?_ _ | refine blk_drew ?_ | refine blk_alloc ?_ _)); refine blk_far ?_ NB302_320.out _; (with_reducible repeat (first | refine blk_drewN ?_ _ | refine blk_drew ?_ | refine blk_alloc ?_ _)); refine blk_far ?_ NB302_320.out _; (with_reducible repeat (first | refine blk_drewN ?_ _ | refine blk_drew ?_ | refine blk_alloc ?_ _)); exact BK302.out) hb); have n5_ := Aside0.mk (blk_below (g := gb320) (o := .cells #[.int .i64 t304, .int .i64 t305, .int .i64 t306, .int .i64 t307, .int .i64 t308, .int .i64 t309, .int .i64 t310, .int .i64 t311, .int .i64 t312, .int .i64 t313, .int .i64 t314, .int .i64 t315, .slice Ao31 t316.length co31] 36 (0, 0)) (by (with_reducible repeat (first | refine blk_drewN ?_ _ | refine blk_drew ?_ | refine blk_alloc ?_ _)); refine blk_put (cs := #[.int .i64 t304, .int .i64 t305, .int .i64 t306, .int .i64 t307, .int .i64 t308, .int .i64 t309, .int .i64 t310, .int .i64 t311, .int .i64 t312, .int .i64 t313, .int .i64 t314, .int .i64 t315, .slice none 0 0]) ?_ 12 _ rfl; (with_reducible repeat (first | refine blk_drewN ?_ _ | refine blk_drew ?_ | refine blk_alloc ?_ _)); refine blk_put (cs := #[.int .i64 t304, .int .i64 t305, .int .i64 t306, .int .i64 t307, .int .i64 t308, .int .i64 t309, .int .i64 t310, .int .i64 t311, .int .i64 t312, .int .i64 t313, .int .i64 t314, .int .i64 0, .slice none 0 0]) ?_ 11 _ rfl; (with_reducible repeat (first | refine blk_drewN ?_ _ | refine blk_drew ?_ | refine blk_alloc ?_ _)); refine blk_put (cs := #[.int .i64 t304, .int .i64 t305, .int .i64 t306, .int .i64 t307, .int .i64 t308, .int .i64 t309, .int .i64 t310, .int .i64 t311, .int .i64 t312, .int .i64 t313, .int .i64 0, .int .i64 0, .slice none 0 0]) ?_ 10 _ rfl; (with_reducible repeat (first | refine blk_drewN ?_ _ | refine blk_drew ?_ | refine blk_alloc ?_ _)); refine blk_put (cs := #[.int .i64 t304, .int .i64 t305, .int .i64 t306, .int .i64 t307, .int .i64 t308, .int .i64 t309, .int .i64 t310, .int .i64 t311, .int .i64 t312, .int .i64 0, .int .i64 0, .int .i64 0, .slice none 0 0]) ?_ 9 _ rfl; (with_reducible repeat (first | refine blk_drewN ?_ _ | refine blk_drew ?_ | refine blk_alloc ?_ _)); refine blk_put (cs := #[.int .i64 t304, .int .i64 t305, .int .i64 t306, .int .i64 t307, .int .i64 t308, .int .i64 t309, .int .i64 t310, .int .i64 t311, .int .i64 0, .int .i64 0, .int .i64 0, .int .i64 0, .slice none 0 0]) ?_ 8 _ rfl; (with_reducible repeat (first | refine blk_drewN ?_ _ | refine blk_drew ?_ | refine blk_alloc ?_ _)); refine blk_put (cs := #[.int .i64 t304, .int .i64 t305, .int .i64 t306, .int .i64 t307, .int .i64 t308, .int .i64 t309, .int .i64 t310, .int .i64 0, .int .i64 0, .int .i64 0, .int .i64 0, .int .i64 0, .slice none 0 0]) ?_ 7 _ rfl; (with_reducible repeat (first | refine blk_drewN ?_ _ | refine blk_drew ?_ | refine blk_alloc ?_ _)); refine blk_put (cs := #[.int .i64 t304, .int .i64 t305, .int .i64 t306, .int .i64 t307, .int .i64 t308, .int .i64 t309, .int .i64 0, .int .i64 0, .int .i64 0, .int .i64 0, .int .i64 0, .int .i64 0, .slice none 0 0]) ?_ 6 _ rfl; (with_reducible repeat (first | refine blk_drewN ?_ _ | refine blk_drew ?_ | refine blk_alloc ?_ _)); refine blk_put (cs := #[.int .i64 t304, .int .i64 t305, .int .i64 t306, .int .i64 t307, .int .i64 t308, .int .i64 0, .int .i64 0, .int .i64 0, .int .i64 0, .int .i64 0, .int .i64 0, .int .i64 0, .slice none 0 0]) ?_ 5 _ rfl; (with_reducible repeat (first | refine blk_drewN ?_ _ | refine blk_drew ?_ | refine blk_alloc ?_ _)); refine blk_put (cs := #[.int .i64 t304, .int .i64 t305, .int .i64 t306, .int .i64 t307, .int .i64 0, .int .i64 0, .int .i64 0, .int .i64 0, .int .i64 0, .int .i64 0, .int .i64 0, .int .i64 0, .slice none 0 0]) ?_ 4 _ rfl; (with_reducible repeat (first | refine blk_drewN ?_ _ | refine blk_drew ?_ | refine blk_alloc ?_ _)); refine blk_put (cs := #[.int .i64 t304, .int .i64 t305, .int .i64 t306, .int .i64 0, .int .i64 0, .int .i64 0, .int .i64 0, .int .i64 0, .int .i64 0, .int .i64 0, .int .i64 0, .int .i64 0, .slice none 0 0]) ?_ 3 _ rfl; (with_reducible repeat (first | refine blk_drewN ?_ _ | refine blk_drew ?_ | refine blk_alloc ?_ _)); refine blk_put (cs := #[.int .i64 t304, .int .i64 t305, .int .i64 0, .int .i64 0, .int .i64 0, .int .i64 0, .int .i64 0, .int .i64 0, .int .i64 0, .int .i64 0, .int .i64 0, .int .i64 0, .slice none 0 0]) ?_ 2 _ rfl; (with_reducible repeat (first | refine blk_drewN ?_ _ | refine blk_drew ?_ | refine blk_alloc ?_ _)); refine blk_put (cs := #[.int .i64 t304, .int .i64 0, .int .i64 0, .int .i64 0, .int .i64 0, .int .i64 0, .int .i64 0, .int .i64 0, .int .i64 0, .int .i64 0, .int .i64 0, .int .i64 0, .slice none 0 0]) ?_ 1 _ rfl; (with_reducible repeat (first | refine blk_drewN ?_ _ | refine blk_drew ?_ | refine blk_alloc ?_ _)); refine blk_put (cs := #[.int .i64 0, .int .i64 0, .int .i64 0, .int .i64 0, .int .i64 0, .int .i64 0, .int .i64 0, .int .i64 0, .int .i64 0, .int .i64 0, .int .i64 0, .int .i64 0, .slice none 0 0]) ?_ 0 _ rfl; (with_reducible repeat (first | refine blk_drewN ?_ _ | refine blk_drew ?_ | refine blk_alloc ?_ _)); exact BK320.out) hb); have n6_ := Aside0.mk (below_step (by repeat (first | (with_reducible first | exact HB.out | apply below_alloc | apply pw_below_drewN | apply below_drew1 | refine below_set ?_ GE298.out | refine below_set ?_ GE302.out | refine below_set ?_ GE320.out) | exact HB.out)) hb); clear HO_303012; clear HO318; clear BK298; clear BK302; clear BK320; clear HB; have HO_303012 := n0_; have HO318 := n1_; have HO335 := n2_; have BK298 := n3_; have BK302 := n4_; have BK320 := n5_; have HB := n6_; clear n0_ n1_ n2_ n3_ n4_ n5_ n6_; (try clear hb); (try clear hb2); (try clear hk); (try clear hi); (try clear ho0); have hcz36_0 : w35.cell? ⟨gb302, 0, none⟩ = some (.int .i64 x303000_1) := (blk_cell BK302.out 0).trans rfl; have hcz36_1 : w35.cell? ⟨gb302, 1, none⟩ = some (.int .i64 x303001_1) := (blk_cell BK302.out 1).trans rfl; have hcz36_2 : w35.cell? ⟨gb302, 2, none⟩ = some (.int .i64 x303002_1) := (blk_cell BK302.out 2).trans rfl; have hcz36_3 : w35.cell? ⟨gb302, 3, none⟩ = some (.int .i64 x303003_1) := (blk_cell BK302.out 3).trans rfl; have hcz36_4 : w35.cell? ⟨gb302, 4, none⟩ = some (.int .i64 x303004_1) := (blk_cell BK302.out 4).trans rfl; have hcz36_5 : w35.cell? ⟨gb302, 5, none⟩ = some (.int .i64 x303005_1) := (blk_cell BK302.out 5).trans rfl; have hcz36_6 : w35.cell? ⟨gb302, 6, none⟩ = some (.int .i64 x303006_1) := (blk_cell BK302.out 6).trans rfl; have hcz36_7 : w35.cell? ⟨gb302, 7, none⟩ = some (.int .i64 x303007_1) := (blk_cell BK302.out 7).trans rfl; have hcz36_8 : w35.cell? ⟨gb302, 8, none⟩ = some (.int .i64 x303008_1) := (blk_cell BK302.out 8).trans rfl; have hcz36_9 : w35.cell? ⟨gb302, 9, none⟩ = some (.int .i64 x303009_1) := (blk_cell BK302.out 9).trans rfl; have hcz36_10 : w35.cell? ⟨gb302, 10, none⟩ = some (.int .i64 x303010_1) := (blk_cell BK302.out 10).trans rfl; have hcz36_11 : w35.cell? ⟨gb302, 11, none⟩ = some (.int .i64 x303011_1) := (blk_cell BK302.out 11).trans rfl; have hcz36_12 : w35.cell? ⟨gb302, 12, none⟩ = some (.slice Ao34 x303012_1.length co34) := (blk_cell BK302.out 12).trans rfl; have hfz36_0 := blk_frozen BK302.out 0; have hfz36_1 := blk_frozen BK302.out 1; have hfz36_2 := blk_frozen BK302.out 2; have hfz36_3 := blk_frozen BK302.out 3; have hfz36_4 := blk_frozen BK302.out 4; have hfz36_5 := blk_frozen BK302.out 5; have hfz36_6 := blk_frozen BK302.out 6; have hfz36_7 := blk_frozen BK302.out 7; have hfz36_8 := blk_frozen BK302.out 8; have hfz36_9 := blk_frozen BK302.out 9; have hfz36_10 := blk_frozen BK302.out 10; have hfz36_11 := blk_frozen BK302.out 11; have hfz36_12 := blk_frozen BK302.out 12; obtain ⟨Ao37, co37, eo37⟩ := Kd.R_slice HO335.out; subst eo37))
                go_roundg k1
                case measure => have := HK1.out; omega
                case rel => exact ⟨(wrap64 (x6_1 + 1)), (t321), (t322), (t323), (t324), (t325), (t326), (t327), (t328), (t329), (t330), (t331), (t332), (t333), (.slice Ao37 t333.length co37), (by first | rfl | (simp; done) | (simp [*]; done)), H', ⟨by have := HK1.out; omega⟩, ⟨by (with_reducible repeat (first | apply Kd.R_alloc | apply Kd.R_drewN | apply Kd.R_drew)); exact Kd.R_mono (Kd.R_far (p := ⟨gb302, 12, none⟩) (Kd.R_far (p := ⟨gb302, 11, none⟩) (Kd.R_far (p := ⟨gb302, 10, none⟩) (Kd.R_far (p := ⟨gb302, 9, none⟩) (Kd.R_far (p := ⟨gb302, 8, none⟩) (Kd.R_far (p := ⟨gb302, 7, none⟩) (Kd.R_far (p := ⟨gb302, 6, none⟩) (Kd.R_far (p := ⟨gb302, 5, none⟩) (Kd.R_far (p := ⟨gb302, 4, none⟩) (Kd.R_far (p := ⟨gb302, 3, none⟩) (Kd.R_far (p := ⟨gb302, 2, none⟩) (Kd.R_far (p := ⟨gb302, 1, none⟩) (Kd.R_far (p := ⟨gb302, 0, none⟩) (Kd.R_types HO335.out BK302.out (by decide)) (fun _ hk => hk.2) (.int .i64 t321)) (fun _ hk => hk.2) (.int .i64 t322)) (fun _ hk => hk.2) (.int .i64 t323)) (fun _ hk => hk.2) (.int .i64 t324)) (fun _ hk => hk.2) (.int .i64 t325)) (fun _ hk => hk.2) (.int .i64 t326)) (fun _ hk => hk.2) (.int .i64 t327)) (fun _ hk => hk.2) (.int .i64 t328)) (fun _ hk => hk.2) (.int .i64 t329)) (fun _ hk => hk.2) (.int .i64 t330)) (fun _ hk => hk.2) (.int .i64 t331)) (fun _ hk => hk.2) (.int .i64 t332)) (fun _ hk => hk.2) (.slice Ao37 t333.length co37)) (fun _ hk => trivial)⟩, ⟨by (with_reducible repeat (first | refine blk_drewN ?_ _ | refine blk_drew ?_ | refine blk_alloc ?_ _)); refine blk_far ?_ NB298_302.out _; (with_reducible repeat (first | refine blk_drewN ?_ _ | refine blk_drew ?_ | refine blk_alloc ?_ _)); refine blk_far ?_ NB298_302.out _; (with_reducible repeat (first | refine blk_drewN ?_ _ | refine blk_drew ?_ | refine blk_alloc ?_ _)); refine blk_far ?_ NB298_302.out _; (with_reducible repeat (first | refine blk_drewN ?_ _ | refine blk_drew ?_ | refine blk_alloc ?_ _)); refine blk_far ?_ NB298_302.out _; (with_reducible repeat (first | refine blk_drewN ?_ _ | refine blk_drew ?_ | refine blk_alloc ?_ _)); refine blk_far ?_ NB298_302.out _; (with_reducible repeat (first | refine blk_drewN ?_ _ | refine blk_drew ?_ | refine blk_alloc ?_ _)); refine blk_far ?_ NB298_302.out _; (with_reducible repeat (first | refine blk_drewN ?_ _ | refine blk_drew ?_ | refine blk_alloc ?_ _)); refine blk_far ?_ NB298_302.out _; (with_reducible repeat (first | refine blk_drewN ?_ _ | refine blk_drew ?_ | refine blk_alloc ?_ _)); refine blk_far ?_ NB298_302.out _; (with_reducible repeat (first | refine blk_drewN ?_ _ | refine blk_drew ?_ | refine blk_alloc ?_ _)); refine blk_far ?_ NB298_302.out _; (with_reducible repeat (first | refine blk_drewN ?_ _ | refine blk_drew ?_ | refine blk_alloc ?_ _)); refine blk_far ?_ NB298_302.out _; (with_reducible repeat (first | refine blk_drewN ?_ _ | refine blk_drew ?_ | refine blk_alloc ?_ _)); refine blk_far ?_ NB298_302.out _; (with_reducible repeat (first | refine blk_drewN ?_ _ | refine blk_drew ?_ | refine blk_alloc ?_ _)); refine blk_far ?_ NB298_302.out _; (with_reducible repeat (first | refine blk_drewN ?_ _ | refine blk_drew ?_ | refine blk_alloc ?_ _)); refine blk_far ?_ NB298_302.out _; (with_reducible repeat (first | refine blk_drewN ?_ _ | refine blk_drew ?_ | refine blk_alloc ?_ _)); exact BK298.out⟩, ⟨by (with_reducible repeat (first | refine blk_drewN ?_ _ | refine blk_drew ?_ | refine blk_alloc ?_ _)); refine blk_put (cs := #[.int .i64 t321, .int .i64 t322, .int .i64 t323, .int .i64 t324, .int .i64 t325, .int .i64 t326, .int .i64 t327, .int .i64 t328, .int .i64 t329, .int .i64 t330, .int .i64 t331, .int .i64 t332, .slice Ao34 x303012_1.length co34]) ?_ 12 _ rfl; (with_reducible repeat (first | refine blk_drewN ?_ _ | refine blk_drew ?_ | refine blk_alloc ?_ _)); refine blk_put (cs := #[.int .i64 t321, .int .i64 t322, .int .i64 t323, .int .i64 t324, .int .i64 t325, .int .i64 t326, .int .i64 t327, .int .i64 t328, .int .i64 t329, .int .i64 t330, .int .i64 t331, .int .i64 x303011_1, .slice Ao34 x303012_1.length co34]) ?_ 11 _ rfl; (with_reducible repeat (first | refine blk_drewN ?_ _ | refine blk_drew ?_ | refine blk_alloc ?_ _)); refine blk_put (cs := #[.int .i64 t321, .int .i64 t322, .int .i64 t323, .int .i64 t324, .int .i64 t325, .int .i64 t326, .int .i64 t327, .int .i64 t328, .int .i64 t329, .int .i64 t330, .int .i64 x303010_1, .int .i64 x303011_1, .slice Ao34 x303012_1.length co34]) ?_ 10 _ rfl; (with_reducible repeat (first | refine blk_drewN ?_ _ | refine blk_drew ?_ | refine blk_alloc ?_ _)); refine blk_put (cs := #[.int .i64 t321, .int .i64 t322, .int .i64 t323, .int .i64 t324, .int .i64 t325, .int .i64 t326, .int .i64 t327, .int .i64 t328, .int .i64 t329, .int .i64 x303009_1, .int .i64 x303010_1, .int .i64 x303011_1, .slice Ao34 x303012_1.length co34]) ?_ 9 _ rfl; (with_reducible repeat (first | refine blk_drewN ?_ _ | refine blk_drew ?_ | refine blk_alloc ?_ _)); refine blk_put (cs := #[.int .i64 t321, .int .i64 t322, .int .i64 t323, .int .i64 t324, .int .i64 t325, .int .i64 t326, .int .i64 t327, .int .i64 t328, .int .i64 x303008_1, .int .i64 x303009_1, .int .i64 x303010_1, .int .i64 x303011_1, .slice Ao34 x303012_1.length co34]) ?_ 8 _ rfl; (with_reducible repeat (first | refine blk_drewN ?_ _ | refine blk_drew ?_ | refine blk_alloc ?_ _)); refine blk_put (cs := #[.int .i64 t321, .int .i64 t322, .int .i64 t323, .int .i64 t324, .int .i64 t325, .int .i64 t326, .int .i64 t327, .int .i64 x303007_1, .int .i64 x303008_1, .int .i64 x303009_1, .int .i64 x303010_1, .int .i64 x303011_1, .slice Ao34 x303012_1.length co34]) ?_ 7 _ rfl; (with_reducible repeat (first | refine blk_drewN ?_ _ | refine blk_drew ?_ | refine blk_alloc ?_ _)); refine blk_put (cs := #[.int .i64 t321, .int .i64 t322, .int .i64 t323, .int .i64 t324, .int .i64 t325, .int .i64 t326, .int .i64 x303006_1, .int .i64 x303007_1, .int .i64 x303008_1, .int .i64 x303009_1, .int .i64 x303010_1, .int .i64 x303011_1, .slice Ao34 x303012_1.length co34]) ?_ 6 _ rfl; (with_reducible repeat (first | refine blk_drewN ?_ _ | refine blk_drew ?_ | refine blk_alloc ?_ _)); refine blk_put (cs := #[.int .i64 t321, .int .i64 t322, .int .i64 t323, .int .i64 t324, .int .i64 t325, .int .i64 x303005_1, .int .i64 x303006_1, .int .i64 x303007_1, .int .i64 x303008_1, .int .i64 x303009_1, .int .i64 x303010_1, .int .i64 x303011_1, .slice Ao34 x303012_1.length co34]) ?_ 5 _ rfl; (with_reducible repeat (first | refine blk_drewN ?_ _ | refine blk_drew ?_ | refine blk_alloc ?_ _)); refine blk_put (cs := #[.int .i64 t321, .int .i64 t322, .int .i64 t323, .int .i64 t324, .int .i64 x303004_1, .int .i64 x303005_1, .int .i64 x303006_1, .int .i64 x303007_1, .int .i64 x303008_1, .int .i64 x303009_1, .int .i64 x303010_1, .int .i64 x303011_1, .slice Ao34 x303012_1.length co34]) ?_ 4 _ rfl; (with_reducible repeat (first | refine blk_drewN ?_ _ | refine blk_drew ?_ | refine blk_alloc ?_ _)); refine blk_put (cs := #[.int .i64 t321, .int .i64 t322, .int .i64 t323, .int .i64 x303003_1, .int .i64 x303004_1, .int .i64 x303005_1, .int .i64 x303006_1, .int .i64 x303007_1, .int .i64 x303008_1, .int .i64 x303009_1, .int .i64 x303010_1, .int .i64 x303011_1, .slice Ao34 x303012_1.length co34]) ?_ 3 _ rfl; (with_reducible repeat (first | refine blk_drewN ?_ _ | refine blk_drew ?_ | refine blk_alloc ?_ _)); refine blk_put (cs := #[.int .i64 t321, .int .i64 t322, .int .i64 x303002_1, .int .i64 x303003_1, .int .i64 x303004_1, .int .i64 x303005_1, .int .i64 x303006_1, .int .i64 x303007_1, .int .i64 x303008_1, .int .i64 x303009_1, .int .i64 x303010_1, .int .i64 x303011_1, .slice Ao34 x303012_1.length co34]) ?_ 2 _ rfl; (with_reducible repeat (first | refine blk_drewN ?_ _ | refine blk_drew ?_ | refine blk_alloc ?_ _)); refine blk_put (cs := #[.int .i64 t321, .int .i64 x303001_1, .int .i64 x303002_1, .int .i64 x303003_1, .int .i64 x303004_1, .int .i64 x303005_1, .int .i64 x303006_1, .int .i64 x303007_1, .int .i64 x303008_1, .int .i64 x303009_1, .int .i64 x303010_1, .int .i64 x303011_1, .slice Ao34 x303012_1.length co34]) ?_ 1 _ rfl; (with_reducible repeat (first | refine blk_drewN ?_ _ | refine blk_drew ?_ | refine blk_alloc ?_ _)); refine blk_put (cs := #[.int .i64 x303000_1, .int .i64 x303001_1, .int .i64 x303002_1, .int .i64 x303003_1, .int .i64 x303004_1, .int .i64 x303005_1, .int .i64 x303006_1, .int .i64 x303007_1, .int .i64 x303008_1, .int .i64 x303009_1, .int .i64 x303010_1, .int .i64 x303011_1, .slice Ao34 x303012_1.length co34]) ?_ 0 _ rfl; (with_reducible repeat (first | refine blk_drewN ?_ _ | refine blk_drew ?_ | refine blk_alloc ?_ _)); exact BK302.out⟩, ⟨by repeat (first | (with_reducible first | exact HB.out | apply below_alloc | apply pw_below_drewN | apply below_drew1 | refine below_set ?_ GE298.out | refine below_set ?_ GE302.out | refine below_set ?_ GE320.out) | exact HB.out)⟩⟩
            · rw [if_neg c14] at H
              exact absurd H (by simp)
          · rw [if_neg c13] at H
            have c13b0 : decide (x6_1 < (l0.length : Int)) = false := decide_eq_false c13
            clear c13
            simp only [Option.some.injEq, Prod.mk.injEq] at H
            obtain ⟨rfl, rfl, rfl, rfl, rfl, rfl, rfl, rfl, rfl, rfl, rfl, rfl, rfl⟩ := H
            have hnb38 := NB302_298.out
            have hnc38 := NB298_302.out
            have hcz39_0 : wr.cell? ⟨gb302, 0, none⟩ = some (.int .i64 x303000_1) := (blk_cell BK302.out 0).trans rfl
            have hcz39_1 : wr.cell? ⟨gb302, 1, none⟩ = some (.int .i64 x303001_1) := (blk_cell BK302.out 1).trans rfl
            have hcz39_2 : wr.cell? ⟨gb302, 2, none⟩ = some (.int .i64 x303002_1) := (blk_cell BK302.out 2).trans rfl
            have hcz39_3 : wr.cell? ⟨gb302, 3, none⟩ = some (.int .i64 x303003_1) := (blk_cell BK302.out 3).trans rfl
            have hcz39_4 : wr.cell? ⟨gb302, 4, none⟩ = some (.int .i64 x303004_1) := (blk_cell BK302.out 4).trans rfl
            have hcz39_5 : wr.cell? ⟨gb302, 5, none⟩ = some (.int .i64 x303005_1) := (blk_cell BK302.out 5).trans rfl
            have hcz39_6 : wr.cell? ⟨gb302, 6, none⟩ = some (.int .i64 x303006_1) := (blk_cell BK302.out 6).trans rfl
            have hcz39_7 : wr.cell? ⟨gb302, 7, none⟩ = some (.int .i64 x303007_1) := (blk_cell BK302.out 7).trans rfl
            have hcz39_8 : wr.cell? ⟨gb302, 8, none⟩ = some (.int .i64 x303008_1) := (blk_cell BK302.out 8).trans rfl
            have hcz39_9 : wr.cell? ⟨gb302, 9, none⟩ = some (.int .i64 x303009_1) := (blk_cell BK302.out 9).trans rfl
            have hcz39_10 : wr.cell? ⟨gb302, 10, none⟩ = some (.int .i64 x303010_1) := (blk_cell BK302.out 10).trans rfl
            have hcz39_11 : wr.cell? ⟨gb302, 11, none⟩ = some (.int .i64 x303011_1) := (blk_cell BK302.out 11).trans rfl
            have hcz39_12 : wr.cell? ⟨gb302, 12, none⟩ = some (u303012) := (blk_cell BK302.out 12).trans rfl
            have hfz39_0 := blk_frozen BK302.out 0
            have hfz39_1 := blk_frozen BK302.out 1
            have hfz39_2 := blk_frozen BK302.out 2
            have hfz39_3 := blk_frozen BK302.out 3
            have hfz39_4 := blk_frozen BK302.out 4
            have hfz39_5 := blk_frozen BK302.out 5
            have hfz39_6 := blk_frozen BK302.out 6
            have hfz39_7 := blk_frozen BK302.out 7
            have hfz39_8 := blk_frozen BK302.out 8
            have hfz39_9 := blk_frozen BK302.out 9
            have hfz39_10 := blk_frozen BK302.out 10
            have hfz39_11 := blk_frozen BK302.out 11
            have hfz39_12 := blk_frozen BK302.out 12
            have hcz40_0 : wr.cell? ⟨gb298, 0, none⟩ = some (.int .i64 0) := (blk_cell BK298.out 0).trans rfl
            have hcz40_1 : wr.cell? ⟨gb298, 1, none⟩ = some (.int .i64 0) := (blk_cell BK298.out 1).trans rfl
            have hcz40_2 : wr.cell? ⟨gb298, 2, none⟩ = some (.int .i64 0) := (blk_cell BK298.out 2).trans rfl
            have hcz40_3 : wr.cell? ⟨gb298, 3, none⟩ = some (.int .i64 0) := (blk_cell BK298.out 3).trans rfl
            have hcz40_4 : wr.cell? ⟨gb298, 4, none⟩ = some (.int .i64 0) := (blk_cell BK298.out 4).trans rfl
            have hcz40_5 : wr.cell? ⟨gb298, 5, none⟩ = some (.int .i64 0) := (blk_cell BK298.out 5).trans rfl
            have hcz40_6 : wr.cell? ⟨gb298, 6, none⟩ = some (.int .i64 0) := (blk_cell BK298.out 6).trans rfl
            have hcz40_7 : wr.cell? ⟨gb298, 7, none⟩ = some (.int .i64 0) := (blk_cell BK298.out 7).trans rfl
            have hcz40_8 : wr.cell? ⟨gb298, 8, none⟩ = some (.int .i64 0) := (blk_cell BK298.out 8).trans rfl
            have hcz40_9 : wr.cell? ⟨gb298, 9, none⟩ = some (.int .i64 0) := (blk_cell BK298.out 9).trans rfl
            have hcz40_10 : wr.cell? ⟨gb298, 10, none⟩ = some (.int .i64 0) := (blk_cell BK298.out 10).trans rfl
            have hcz40_11 : wr.cell? ⟨gb298, 11, none⟩ = some (.int .i64 0) := (blk_cell BK298.out 11).trans rfl
            have hcz40_12 : wr.cell? ⟨gb298, 12, none⟩ = some (.slice none 0 0) := (blk_cell BK298.out 12).trans rfl
            have hfz40_0 := blk_frozen BK298.out 0
            have hfz40_1 := blk_frozen BK298.out 1
            have hfz40_2 := blk_frozen BK298.out 2
            have hfz40_3 := blk_frozen BK298.out 3
            have hfz40_4 := blk_frozen BK298.out 4
            have hfz40_5 := blk_frozen BK298.out 5
            have hfz40_6 := blk_frozen BK298.out 6
            have hfz40_7 := blk_frozen BK298.out 7
            have hfz40_8 := blk_frozen BK298.out 8
            have hfz40_9 := blk_frozen BK298.out 9
            have hfz40_10 := blk_frozen BK298.out 10
            have hfz40_11 := blk_frozen BK298.out 11
            have hfz40_12 := blk_frozen BK298.out 12
            obtain ⟨Ao41, co41, eo41⟩ := Kd.R_slice HO_303012.out
            subst eo41
            go_wp2
            refine bodyPost_ret (results_cell_row rfl _ _ gb298 36 #[.int .i64 x303000_1, .int .i64 x303001_1, .int .i64 x303002_1, .int .i64 x303003_1, .int .i64 x303004_1, .int .i64 x303005_1, .int .i64 x303006_1, .int .i64 x303007_1, .int .i64 x303008_1, .int .i64 x303009_1, .int .i64 x303010_1, .int .i64 x303011_1, .slice Ao41 x303012_1.length co41] (0, 0) _ rfl (by (with_reducible repeat (first | refine blk_drewN ?_ _ | refine blk_drew ?_ | refine blk_alloc ?_ _)); refine blk_put (cs := #[.int .i64 x303000_1, .int .i64 x303001_1, .int .i64 x303002_1, .int .i64 x303003_1, .int .i64 x303004_1, .int .i64 x303005_1, .int .i64 x303006_1, .int .i64 x303007_1, .int .i64 x303008_1, .int .i64 x303009_1, .int .i64 x303010_1, .int .i64 x303011_1, .slice none 0 0]) ?_ 12 _ rfl; (with_reducible repeat (first | refine blk_drewN ?_ _ | refine blk_drew ?_ | refine blk_alloc ?_ _)); refine blk_put (cs := #[.int .i64 x303000_1, .int .i64 x303001_1, .int .i64 x303002_1, .int .i64 x303003_1, .int .i64 x303004_1, .int .i64 x303005_1, .int .i64 x303006_1, .int .i64 x303007_1, .int .i64 x303008_1, .int .i64 x303009_1, .int .i64 x303010_1, .int .i64 0, .slice none 0 0]) ?_ 11 _ rfl; (with_reducible repeat (first | refine blk_drewN ?_ _ | refine blk_drew ?_ | refine blk_alloc ?_ _)); refine blk_put (cs := #[.int .i64 x303000_1, .int .i64 x303001_1, .int .i64 x303002_1, .int .i64 x303003_1, .int .i64 x303004_1, .int .i64 x303005_1, .int .i64 x303006_1, .int .i64 x303007_1, .int .i64 x303008_1, .int .i64 x303009_1, .int .i64 0, .int .i64 0, .slice none 0 0]) ?_ 10 _ rfl; (with_reducible repeat (first | refine blk_drewN ?_ _ | refine blk_drew ?_ | refine blk_alloc ?_ _)); refine blk_put (cs := #[.int .i64 x303000_1, .int .i64 x303001_1, .int .i64 x303002_1, .int .i64 x303003_1, .int .i64 x303004_1, .int .i64 x303005_1, .int .i64 x303006_1, .int .i64 x303007_1, .int .i64 x303008_1, .int .i64 0, .int .i64 0, .int .i64 0, .slice none 0 0]) ?_ 9 _ rfl; (with_reducible repeat (first | refine blk_drewN ?_ _ | refine blk_drew ?_ | refine blk_alloc ?_ _)); refine blk_put (cs := #[.int .i64 x303000_1, .int .i64 x303001_1, .int .i64 x303002_1, .int .i64 x303003_1, .int .i64 x303004_1, .int .i64 x303005_1, .int .i64 x303006_1, .int .i64 x303007_1, .int .i64 0, .int .i64 0, .int .i64 0, .int .i64 0, .slice none 0 0]) ?_ 8 _ rfl; (with_reducible repeat (first | refine blk_drewN ?_ _ | refine blk_drew ?_ | refine blk_alloc ?_ _)); refine blk_put (cs := #[.int .i64 x303000_1, .int .i64 x303001_1, .int .i64 x303002_1, .int .i64 x303003_1, .int .i64 x303004_1, .int .i64 x303005_1, .int .i64 x303006_1, .int .i64 0, .int .i64 0, .int .i64 0, .int .i64 0, .int .i64 0, .slice none 0 0]) ?_ 7 _ rfl; (with_reducible repeat (first | refine blk_drewN ?_ _ | refine blk_drew ?_ | refine blk_alloc ?_ _)); refine blk_put (cs := #[.int .i64 x303000_1, .int .i64 x303001_1, .int .i64 x303002_1, .int .i64 x303003_1, .int .i64 x303004_1, .int .i64 x303005_1, .int .i64 0, .int .i64 0, .int .i64 0, .int .i64 0, .int .i64 0, .int .i64 0, .slice none 0 0]) ?_ 6 _ rfl; (with_reducible repeat (first | refine blk_drewN ?_ _ | refine blk_drew ?_ | refine blk_alloc ?_ _)); refine blk_put (cs := #[.int .i64 x303000_1, .int .i64 x303001_1, .int .i64 x303002_1, .int .i64 x303003_1, .int .i64 x303004_1, .int .i64 0, .int .i64 0, .int .i64 0, .int .i64 0, .int .i64 0, .int .i64 0, .int .i64 0, .slice none 0 0]) ?_ 5 _ rfl; (with_reducible repeat (first | refine blk_drewN ?_ _ | refine blk_drew ?_ | refine blk_alloc ?_ _)); refine blk_put (cs := #[.int .i64 x303000_1, .int .i64 x303001_1, .int .i64 x303002_1, .int .i64 x303003_1, .int .i64 0, .int .i64 0, .int .i64 0, .int .i64 0, .int .i64 0, .int .i64 0, .int .i64 0, .int .i64 0, .slice none 0 0]) ?_ 4 _ rfl; (with_reducible repeat (first | refine blk_drewN ?_ _ | refine blk_drew ?_ | refine blk_alloc ?_ _)); refine blk_put (cs := #[.int .i64 x303000_1, .int .i64 x303001_1, .int .i64 x303002_1, .int .i64 0, .int .i64 0, .int .i64 0, .int .i64 0, .int .i64 0, .int .i64 0, .int .i64 0, .int .i64 0, .int .i64 0, .slice none 0 0]) ?_ 3 _ rfl; (with_reducible repeat (first | refine blk_drewN ?_ _ | refine blk_drew ?_ | refine blk_alloc ?_ _)); refine blk_put (cs := #[.int .i64 x303000_1, .int .i64 x303001_1, .int .i64 0, .int .i64 0, .int .i64 0, .int .i64 0, .int .i64 0, .int .i64 0, .int .i64 0, .int .i64 0, .int .i64 0, .int .i64 0, .slice none 0 0]) ?_ 2 _ rfl; (with_reducible repeat (first | refine blk_drewN ?_ _ | refine blk_drew ?_ | refine blk_alloc ?_ _)); refine blk_put (cs := #[.int .i64 x303000_1, .int .i64 0, .int .i64 0, .int .i64 0, .int .i64 0, .int .i64 0, .int .i64 0, .int .i64 0, .int .i64 0, .int .i64 0, .int .i64 0, .int .i64 0, .slice none 0 0]) ?_ 1 _ rfl; (with_reducible repeat (first | refine blk_drewN ?_ _ | refine blk_drew ?_ | refine blk_alloc ?_ _)); refine blk_put (cs := #[.int .i64 0, .int .i64 0, .int .i64 0, .int .i64 0, .int .i64 0, .int .i64 0, .int .i64 0, .int .i64 0, .int .i64 0, .int .i64 0, .int .i64 0, .int .i64 0, .slice none 0 0]) ?_ 0 _ rfl; (with_reducible repeat (first | refine blk_drewN ?_ _ | refine blk_drew ?_ | refine blk_alloc ?_ _)); exact BK298.out) Try.underlying36 rfl (by kernel_rfl)) rfl ?_
            exact ⟨_, by first | rfl | (simp [errW_none, errW_some] <;> rfl) | (simp only [← hji3]; first | rfl | (simp [errW_none, errW_some] <;> rfl)) | (simp [*, errW_none, errW_some] <;> rfl), by (with_reducible repeat (first | apply Kd.R_alloc | apply Kd.R_drewN | apply Kd.R_drew)); exact Kd.R_mono (Kd.R_far (p := ⟨gb298, 12, none⟩) (Kd.R_far (p := ⟨gb298, 11, none⟩) (Kd.R_far (p := ⟨gb298, 10, none⟩) (Kd.R_far (p := ⟨gb298, 9, none⟩) (Kd.R_far (p := ⟨gb298, 8, none⟩) (Kd.R_far (p := ⟨gb298, 7, none⟩) (Kd.R_far (p := ⟨gb298, 6, none⟩) (Kd.R_far (p := ⟨gb298, 5, none⟩) (Kd.R_far (p := ⟨gb298, 4, none⟩) (Kd.R_far (p := ⟨gb298, 3, none⟩) (Kd.R_far (p := ⟨gb298, 2, none⟩) (Kd.R_far (p := ⟨gb298, 1, none⟩) (Kd.R_far (p := ⟨gb298, 0, none⟩) (Kd.R_types HO_303012.out BK298.out (by decide)) (fun _ hk => hk.2) (.int .i64 x303000_1)) (fun _ hk => hk.2) (.int .i64 x303001_1)) (fun _ hk => hk.2) (.int .i64 x303002_1)) (fun _ hk => hk.2) (.int .i64 x303003_1)) (fun _ hk => hk.2) (.int .i64 x303004_1)) (fun _ hk => hk.2) (.int .i64 x303005_1)) (fun _ hk => hk.2) (.int .i64 x303006_1)) (fun _ hk => hk.2) (.int .i64 x303007_1)) (fun _ hk => hk.2) (.int .i64 x303008_1)) (fun _ hk => hk.2) (.int .i64 x303009_1)) (fun _ hk => hk.2) (.int .i64 x303010_1)) (fun _ hk => hk.2) (.int .i64 x303011_1)) (fun _ hk => hk.2) (.slice Ao41 x303012_1.length co41)) (fun _ hk => trivial), by repeat (first | (with_reducible first | exact HB.out | apply below_alloc | apply pw_below_drewN | apply below_drew1 | refine below_set ?_ GE298.out | refine below_set ?_ GE302.out) | exact HB.out)⟩
    · rw [if_neg c5] at H
      exact absurd H (by simp)
  · rw [if_neg c4] at H
    exact absurd H (by simp)

end Go.Proofs.Ytfgabafbcephaaa.Pa

namespace Go.Proofs.Ytfgabafbcephaaa.My
open Go.RowKit Pa Go.Proofs.YtfgabafbcephaaaW.PrintWords

def z0 (bs : List Int) : S36 := ⟨0, 0, 0, 0, z34, z34, List.replicate (bs.length + 1) 0⟩
def fstep (bs : List Int) (a : S36) (x : S34) : S36 := if a.f0 = 0 then one x bs else twoA a (one x bs)
def foldA (bs : List Int) (xs : List S34) : S36 := xs.foldl (fstep bs) (z0 bs)
theorem foldA_snoc (bs : List Int) (xs : List S34) (x : S34) : foldA bs (xs ++ [x]) = fstep bs (foldA bs xs) x := by
  unfold foldA
  rw [List.foldl_append]
  rfl
def cntB (bs : List Int) (xs : List S34) (j : Nat) : Int := (xs.map (fun x => if bucket bs x.f3 = j then (1 : Int) else 0)).sum
structure Sp (bs : List Int) (xs : List S34) (a : S36) : Prop where
  may : May1 bs a
  c : a.f0 = xs.length
  s : a.f1 = (xs.map (·.f3)).sum
  f : xs.head? = some a.f4
  l : xs.getLast? = some a.f5
  n1 : ∀ x ∈ xs, a.f2 ≤ x.f3
  n2 : ∃ x ∈ xs, x.f3 = a.f2
  m1 : ∀ x ∈ xs, x.f3 ≤ a.f3
  m2 : ∃ x ∈ xs, x.f3 = a.f3
  h : ∀ j, j ≤ bs.length → a.f6.getD j 0 = cntB bs xs j
theorem one_get {x : S34} {bs : List Int} {j : Nat} (hj : j ≤ bs.length) : (one x bs).f6.getD j 0 = if bucket bs x.f3 = j then 1 else 0 := by
  have hb := bucket_le bs x.f3
  show ((List.replicate (bs.length + 1) (0 : Int)).set (bucket bs x.f3) 1).getD j 0 = _
  rw [List.getD_eq_getElem?_getD, List.getElem?_set]
  by_cases h : bucket bs x.f3 = j
  · rw [if_pos h, if_pos h, if_pos (by simp; omega)]
    rfl
  · rw [if_neg h, if_neg h, List.getElem?_replicate, if_pos (by omega)]
    rfl
theorem sp_one {x : S34} {bs : List Int} (hx : imay x = true) (hb : bmay bs = true) : Sp bs [x] (one x bs) := by
  refine ⟨may1_one hx hb, rfl, ?_, rfl, rfl, ?_, ⟨x, by simp, rfl⟩, ?_, ⟨x, by simp, rfl⟩, fun j hj => ?_⟩
  · show x.f3 = ([x].map (·.f3)).sum
    simp
  · intro y hy
    rw [List.mem_singleton] at hy
    subst hy
    exact Int.le_refl _
  · intro y hy
    rw [List.mem_singleton] at hy
    subst hy
    exact Int.le_refl _
  · rw [one_get hj]
    simp [cntB]
theorem hadd_getD {h n : List Int} (hl : n.length = h.length) {i : Nat} (hi : i < h.length) : (hadd h n).getD i 0 = h.getD i 0 + n.getD i 0 := by
  unfold hadd
  simp [List.getD_eq_getElem?_getD, List.getElem?_zipWith, List.getElem?_eq_getElem hi, List.getElem?_eq_getElem (show i < n.length by omega)]
theorem ord_not {a b : S34} (h : ord a b ≤ 0) : ¬ ord b a < 0 := by
  intro h2
  unfold ord at *
  (repeat' split at h) <;> (repeat' split at h2) <;> omega
theorem sp_snoc {xs : List S34} {x : S34} {bs : List Int} {a : S36} (hs : Sp bs xs a) (hx : imay x = true) (hser : a.f4.f0 = x.f0) (ho : ∀ y ∈ xs, ord y x ≤ 0) (hn : xs.length < 8192) : Sp bs (xs ++ [x]) (twoA a (one x bs)) := by
  obtain ⟨e0, e1, e2, e3, e4, e5, e6⟩ := tw_parts a (one x bs)
  have hm1 := may1_one (bs := bs) hx hs.may.bm
  have ho1 : (one x bs).f0 = 1 := rfl
  have ho2 : (one x bs).f2 = x.f3 := rfl
  have ho3 : (one x bs).f3 = x.f3 := rfl
  have ho4 : (one x bs).f4 = x := rfl
  have ho5 : (one x bs).f5 = x := rfl
  have ho6 : (one x bs).f1 = x.f3 := rfl
  have hc := hs.c
  have h4m : a.f4 ∈ xs := List.mem_of_mem_head? (by rw [hs.f]; rfl)
  have h5m : a.f5 ∈ xs := List.mem_of_getLast? hs.l
  rw [ho4, if_neg (ord_not (ho _ h4m))] at e4
  rw [ho5, if_neg (ord_not (ho _ h5m))] at e5
  rw [ho2] at e2
  rw [ho3] at e3
  refine ⟨may1_two hs.may hm1 hser (by omega), by rw [e0, hc, ho1, List.length_append, List.length_singleton]; omega, by rw [e1, hs.s, ho6, List.map_append, List.sum_append]; simp, ?_, by rw [List.getLast?_append, e5]; rfl, ?_, ?_, ?_, ?_, fun j hj => ?_⟩
  · rw [e4]
    have := hs.f
    cases xs with
    | nil => cases this
    | cons y r => exact this
  · intro y hy
    rw [e2]
    rcases List.mem_append.1 hy with h | h
    · have := hs.n1 y h
      split <;> omega
    · rw [List.mem_singleton] at h
      subst h
      split <;> omega
  · rw [e2]
    split
    · exact ⟨x, by simp, rfl⟩
    · obtain ⟨y, hy, he⟩ := hs.n2
      exact ⟨y, by simp [hy], he⟩
  · intro y hy
    rw [e3]
    rcases List.mem_append.1 hy with h | h
    · have := hs.m1 y h
      split <;> omega
    · rw [List.mem_singleton] at h
      subst h
      split <;> omega
  · rw [e3]
    split
    · exact ⟨x, by simp, rfl⟩
    · obtain ⟨y, hy, he⟩ := hs.m2
      exact ⟨y, by simp [hy], he⟩
  · have hl := hs.may.len
    have hl1 := hm1.len
    rw [e6, hadd_getD (by omega) (by omega), hs.h j hj, one_get hj]
    unfold cntB
    rw [List.map_append, List.sum_append]
    simp
structure Row (s : Int) (xs : List S34) : Prop where
  im : ∀ x ∈ xs, imay x = true
  ser : ∀ x ∈ xs, x.f0 = s
  asc : xs.Pairwise (fun y x => ord y x ≤ 0)
  n : xs.length ≤ 8192
theorem Row.take {s : Int} {xs : List S34} (h : Row s xs) (k : Nat) : Row s (xs.take k) :=
  ⟨fun x hx => h.im x (List.mem_of_mem_take hx), fun x hx => h.ser x (List.mem_of_mem_take hx), h.asc.sublist (List.take_sublist k xs), by have := h.n; rw [List.length_take]; omega⟩
theorem sp_fold {bs : List Int} (hb : bmay bs = true) {s : Int} : ∀ {n : Nat} {xs : List S34}, xs.length = n → Row s xs → xs ≠ [] → Sp bs xs (foldA bs xs)
  | 0, xs, hn, _, h0 => absurd (List.eq_nil_of_length_eq_zero hn) h0
  | n + 1, xs, hn, hr, h0 => by
    obtain ⟨ys, x, rfl⟩ : ∃ ys x, xs = ys ++ [x] := ⟨xs.dropLast, xs.getLast h0, (List.dropLast_concat_getLast h0).symm⟩
    have hy : ys.length = n := by simpa using hn
    have hx : imay x = true := hr.im x (by simp)
    have h2 : Row s ys := by
      have := hr.take n
      rwa [← hy, List.take_left'] at this
      rfl
    rw [foldA_snoc]
    unfold fstep
    by_cases h1 : ys = []
    · subst h1
      rw [show foldA bs [] = z0 bs from rfl, if_pos (show (z0 bs).f0 = 0 from rfl)]
      exact sp_one hx hb
    · have ih := sp_fold hb hy h2 h1
      have hp : 0 < ys.length := List.length_pos_iff.2 h1
      rw [if_neg (by rw [ih.c]; omega)]
      refine sp_snoc ih hx ?_ (fun y hyy => ?_) (by have := hr.n; simp at this; omega)
      · have h4 : (foldA bs ys).f4 ∈ ys := List.mem_of_mem_head? (by rw [ih.f]; rfl)
        rw [h2.ser _ h4, hr.ser x (by simp)]
      · have := hr.asc
        rw [List.pairwise_append] at this
        exact this.2.2 y hyy x (by simp)
theorem fold_nil (bs : List Int) : foldA bs [] = z0 bs := rfl
def flat28 (a : S36) : Int × Int × Int × Int × Int × Int × Int × Int × Int × Int × Int × Int × List Int := (a.f0, a.f1, a.f2, a.f3, a.f4.f0, a.f4.f1, a.f4.f2, a.f4.f3, a.f5.f0, a.f5.f1, a.f5.f2, a.f5.f3, a.f6)
theorem fold_loop {bs : List Int} (hb : bmay bs = true) {s : Int} {xs : List S34} (hr : Row s xs) : ∀ (d i k : Nat), i + d = xs.length → d < k → bourneref1_Fold.l0 k xs bs i (foldA bs (xs.take i)).f0 (foldA bs (xs.take i)).f1 (foldA bs (xs.take i)).f2 (foldA bs (xs.take i)).f3 (foldA bs (xs.take i)).f4.f0 (foldA bs (xs.take i)).f4.f1 (foldA bs (xs.take i)).f4.f2 (foldA bs (xs.take i)).f4.f3 (foldA bs (xs.take i)).f5.f0 (foldA bs (xs.take i)).f5.f1 (foldA bs (xs.take i)).f5.f2 (foldA bs (xs.take i)).f5.f3 (foldA bs (xs.take i)).f6 = some (flat28 (foldA bs xs))
  | 0, i, 0, _, hk => absurd hk (by omega)
  | 0, i, k + 1, h, _ => by
    rw [bourneref1_Fold.l0, if_neg (by omega), List.take_of_length_le (by omega)]
    rfl
  | d + 1, i, 0, _, hk => absurd hk (by omega)
  | d + 1, i, k + 1, h, hk => by
    have ih := fold_loop hb hr d (i + 1) k (by omega) (by omega)
    have hi : i < xs.length := by omega
    have hn := hr.n
    rw [bourneref1_Fold.l0, if_pos (by omega), if_pos (by omega)]
    have hrd : rd_T34 xs (i : Int) = xs[i] := by
      unfold rd_T34
      rw [List.getD_eq_getElem?_getD, Int.toNat_natCast, List.getElem?_eq_getElem hi]
      rfl
    have him : imay xs[i] = true := hr.im _ (List.getElem_mem hi)
    have hone : bourneref1_One.f xs[i].f0 xs[i].f1 xs[i].f2 xs[i].f3 bs = some ((one xs[i] bs).f0, (one xs[i] bs).f1, (one xs[i] bs).f2, (one xs[i] bs).f3, (one xs[i] bs).f4.f0, (one xs[i] bs).f4.f1, (one xs[i] bs).f4.f2, (one xs[i] bs).f4.f3, (one xs[i] bs).f5.f0, (one xs[i] bs).f5.f1, (one xs[i] bs).f5.f2, (one xs[i] bs).f5.f3, (one xs[i] bs).f6, 0) := by
      unfold bourneref1_One.f
      rw [show oneRes ⟨xs[i].f0, xs[i].f1, xs[i].f2, xs[i].f3⟩ bs = (one xs[i] bs, 0) by unfold oneRes; rw [show imay ⟨xs[i].f0, xs[i].f1, xs[i].f2, xs[i].f3⟩ = true from him, hb]; rfl]
    rw [hrd, hone]
    simp only [Option.bind_some]
    rw [wrap_up (i := i) (by omega)]
    have hsn : foldA bs (xs.take (i + 1)) = fstep bs (foldA bs (xs.take i)) xs[i] := by
      rw [List.take_succ_eq_append_getElem hi, foldA_snoc]
    rw [hsn] at ih
    unfold fstep at ih
    by_cases h0 : i = 0
    · subst h0
      rw [List.take_zero, fold_nil]
      rw [List.take_zero, fold_nil] at ih
      rw [if_pos (show (z0 bs).f0 = 0 from rfl)] at ih ⊢
      exact ih
    · have hne : xs.take i ≠ [] := by
        intro e
        have := congrArg List.length e
        rw [List.length_take, List.length_nil] at this
        omega
      have hsp := sp_fold hb rfl (hr.take i) hne
      have hc := hsp.c
      rw [List.length_take] at hc
      have h1 : ¬ (foldA bs (xs.take i)).f0 = 0 := by omega
      rw [if_neg h1] at ih ⊢
      have hok := hsp.may.ok (may1_one him hb)
      have htwo : bourneref1_two.f (foldA bs (xs.take i)).f0 (foldA bs (xs.take i)).f1 (foldA bs (xs.take i)).f2 (foldA bs (xs.take i)).f3 (foldA bs (xs.take i)).f4.f0 (foldA bs (xs.take i)).f4.f1 (foldA bs (xs.take i)).f4.f2 (foldA bs (xs.take i)).f4.f3 (foldA bs (xs.take i)).f5.f0 (foldA bs (xs.take i)).f5.f1 (foldA bs (xs.take i)).f5.f2 (foldA bs (xs.take i)).f5.f3 (foldA bs (xs.take i)).f6 (one xs[i] bs).f0 (one xs[i] bs).f1 (one xs[i] bs).f2 (one xs[i] bs).f3 (one xs[i] bs).f4.f0 (one xs[i] bs).f4.f1 (one xs[i] bs).f4.f2 (one xs[i] bs).f4.f3 (one xs[i] bs).f5.f0 (one xs[i] bs).f5.f1 (one xs[i] bs).f5.f2 (one xs[i] bs).f5.f3 (one xs[i] bs).f6 = some (flat28 (twoA (foldA bs (xs.take i)) (one xs[i] bs))) := by
        unfold bourneref1_two.f
        exact if_pos hok
      rw [htwo]
      exact ih
theorem fold_ref {bs : List Int} (hb : bmay bs = true) {s : Int} {xs : List S34} (hr : Row s xs) {k : Nat} (hk : xs.length < k) : bourneref1_Fold.f k xs bs = some (flat28 (foldA bs xs)) := by
  have hl := bmay_len hb
  have h := fold_loop hb hr xs.length 0 k (by omega) hk
  rw [List.take_zero, fold_nil] at h
  have e : wrap64 ((bs.length : Int) + 1) = ((bs.length + 1 : Nat) : Int) := by unfold wrap64; omega
  unfold bourneref1_Fold.f
  rw [e, if_pos (by omega), if_pos (by omega), Int.toNat_natCast]
  exact h
end Go.Proofs.Ytfgabafbcephaaa.My

namespace Go.Proofs.Ytfgabafbcephaaa.My
open Go.RowKit Pa Go.Proofs.YtfgabafbcephaaaW.PrintWords
set_option linter.unusedSimpArgs false
theorem kd_of_rdX {w : World} {A : Option Addr} {xs : List S34} (h : RdX w A xs) (hl : xs.length ≤ 9223372036854775807) : Kd.C k34 w A xs.length xs := by
  refine ⟨rfl, hl, fun hp => ?_⟩
  obtain ⟨b, o, rfl, hb, hc⟩ := h hp
  refine ⟨_, rfl, fun j p hj => ?_⟩
  have hjl := (List.getElem?_eq_some_iff.1 hj).1
  obtain ⟨e0, e1, e2, e3⟩ := hc j hjl
  have e : atX xs j = p := by unfold atX; rw [List.getD_eq_getElem?_getD, hj]; rfl
  rw [e] at e0 e1 e2 e3
  refine ⟨_, rfl, k34_mk w p, fun i u hu => ?_⟩
  have ha : (⟨b, o, none⟩ : Addr).add (j * 4 + i) = ⟨b, o + j * 4 + i, none⟩ := by simp [Addr.add, Nat.add_assoc]
  rw [show k34.sz = 4 from rfl, ha]
  match i, hu with
  | 0, hu => injection hu with hu; subst hu; exact e0
  | 1, hu => injection hu with hu; subst hu; exact e1
  | 2, hu => injection hu with hu; subst hu; exact e2
  | 3, hu => injection hu with hu; subst hu; exact e3
  | i + 4, hu => cases hu
theorem reps_flat : ∀ {xs : List S34} {cs : List Value}, cs.length = xs.length * 4 → (∀ j p, xs[j]? = some p → (cs.drop (j * 4)).take 4 = cellsX p) → cs = flatX xs
  | [], cs, h, _ => by
    have : cs = [] := List.eq_nil_of_length_eq_zero (by simpa using h)
    rw [this]
    rfl
  | x :: r, cs, h, hc => by
    have h0 := hc 0 x rfl
    rw [Nat.zero_mul, List.drop_zero] at h0
    have ih := reps_flat (xs := r) (cs := cs.drop 4) (by rw [List.length_drop, h, List.length_cons]; omega) (fun j p hj => by
      have := hc (j + 1) p (by simpa using hj)
      rw [List.drop_drop, show 4 + j * 4 = (j + 1) * 4 by omega]
      exact this)
    rw [← List.take_append_drop 4 cs, h0, ih]
    rfl
theorem own_of_kd {w : World} {base : Nat} {ok : Nat → Prop} {v : Value} {xs : List S34} (h : Kd.R k34 34 w base ok v xs) : OwX w base v xs := by
  obtain ⟨_, inner, ho, hr⟩ := h
  have e := reps_flat (xs := xs) (cs := inner) hr.1 (fun j p hj => by
    have := hr.2 j p hj
    exact k34_openM this)
  rw [e] at ho
  exact ho
theorem twin_loop (L : List S34) (hl : L.length ≤ 100000) (x : S34) : ∀ (d i k : Nat), i + d = L.length → d < k → bourneref1_twin.l0 k L i x.f0 x.f1 x.f2 x.f3 = some (hasB x (L.drop i))
  | 0, i, 0, _, hk => absurd hk (by omega)
  | 0, i, k + 1, h, _ => by
    rw [bourneref1_twin.l0, if_neg (by omega), List.drop_eq_nil_of_le (by omega)]
    rfl
  | d + 1, i, 0, _, hk => absurd hk (by omega)
  | d + 1, i, k + 1, h, hk => by
    have ih := twin_loop L hl x d (i + 1) k (by omega) (by omega)
    have hi : i < L.length := by omega
    have e : rd_T34 L (i : Int) = L[i] := by
      unfold rd_T34
      rw [Int.toNat_natCast, List.getD_eq_getElem?_getD, List.getElem?_eq_getElem hi]
      rfl
    have ew : wrap64 ((i : Int) + 1) = ((i + 1 : Nat) : Int) := by unfold wrap64; omega
    rw [bourneref1_twin.l0, if_pos (by omega), if_pos (by omega), e, ew, ih, List.drop_eq_getElem_cons hi]
    have hh : hasB x (L[i] :: L.drop (i + 1)) = (decide (ord x L[i] = 0) || hasB x (L.drop (i + 1))) := rfl
    rw [hh]
    by_cases h1 : L[i].f1 = x.f1
    · rw [if_pos h1]
      by_cases h2 : L[i].f2 = x.f2
      · rw [if_pos h2, decide_eq_true (ord_zero.2 ⟨h1.symm, h2.symm⟩)]
        rfl
      · rw [if_neg h2, decide_eq_false (fun e => h2 (ord_zero.1 e).2.symm)]
        rfl
    · rw [if_neg h1, decide_eq_false (fun e => h1 (ord_zero.1 e).1.symm)]
      rfl
theorem less_ord {x y : S34} (h : ord x y ≠ 0) : bourneref1_less.f x.f0 x.f1 x.f2 x.f3 y.f0 y.f1 y.f2 y.f3 = some (decide (ord x y < 0)) := by
  unfold bourneref1_less.f
  by_cases h1 : x.f1 = y.f1
  · rw [if_pos h1, if_neg (fun h2 => h (ord_zero.2 ⟨h1, h2⟩))]
    congr 2
    unfold ord
    have h2 : x.f2 ≠ y.f2 := fun h2 => h (ord_zero.2 ⟨h1, h2⟩)
    refine propext ?_
    (repeat' split) <;> omega
  · rw [if_neg h1]
    congr 2
    unfold ord
    refine propext ?_
    (repeat' split) <;> omega
theorem ins_at {x : S34} {L : List S34} {j : Nat} (hs : Srt L) (hj : j ≤ L.length) (h1 : ∀ y ∈ L.drop j, ord x y < 0) (h2 : 0 < j → ord (L.getD (j - 1) z34) x < 0) : ins x L = L.take j ++ x :: L.drop j := by
  have e := (List.take_append_drop j L)
  have a1 : ∀ y ∈ L.take j, ord y x < 0 := fun y hy => by
    obtain ⟨i, hi, rfl⟩ := List.getElem_of_mem hy
    rw [List.length_take] at hi
    rw [List.getElem_take]
    have h3 := h2 (by omega)
    have e3 : L.getD (j - 1) z34 = L[j - 1]'(by omega) := by rw [List.getD_eq_getElem?_getD, List.getElem?_eq_getElem (by omega)]; rfl
    rw [e3] at h3
    by_cases hij : i = j - 1
    · subst hij
      exact h3
    · exact ord_trans (List.pairwise_iff_getElem.1 hs i (j - 1) (by omega) (by omega) (by omega)) h3
  have a2 : ∀ y ∈ L.drop j, ¬ ord y x < 0 := fun y hy h => by
    have := h1 y hy
    rw [ord_anti] at this
    omega
  unfold ins ahead behind
  have f1 : L.filter (fun y => decide (ord y x < 0)) = L.take j := by
    conv => lhs; rw [← e]
    rw [List.filter_append, List.filter_eq_self.2 (fun y hy => decide_eq_true (a1 y hy)), List.filter_eq_nil_iff.2 (fun y hy h => a2 y hy (of_decide_eq_true h)), List.append_nil]
  have f2 : L.filter (fun y => !decide (ord y x < 0)) = L.drop j := by
    conv => lhs; rw [← e]
    rw [List.filter_append, List.filter_eq_nil_iff.2 (fun y hy h => by rw [decide_eq_true (a1 y hy)] at h; cases h), List.filter_eq_self.2 (fun y hy => by rw [decide_eq_false (a2 y hy)]; rfl), List.nil_append]
  rw [f1, f2]
theorem sorted_loop {x : S34} {L : List S34} (hs : Srt L) (hl : L.length ≤ 100000) (hn : ∀ y ∈ L, ord x y ≠ 0) : ∀ (j k : Nat), j ≤ L.length → j < k → (∀ y ∈ L.drop j, ord x y < 0) → bourneref1_sorted.l0 k L j x.f0 x.f1 x.f2 x.f3 = some (ins x L)
  | j, 0, _, hk, _ => absurd hk (by omega)
  | 0, k + 1, hj, _, hd => by
    rw [ins_at (j := 0) hs (by omega) hd (fun h => by omega)]
    rw [bourneref1_sorted.l0, if_neg (by omega)]
    simp only [Option.bind_some, Int.natCast_zero, Int.toNat_zero, List.take_zero, List.drop_zero, List.nil_append, List.length_nil]
    rw [if_pos (by omega), if_pos (by omega), if_pos (by omega), if_pos (by omega), if_pos (by simp; omega)]
    rfl
  | j + 1, k + 1, hj, hk, hd => by
    have hi : j < L.length := by omega
    have ew : wrap64 (((j + 1 : Nat) : Int) - 1) = (j : Int) := by unfold wrap64; omega
    have e : rd_T34 L (j : Int) = L[j] := by
      unfold rd_T34
      rw [Int.toNat_natCast, List.getD_eq_getElem?_getD, List.getElem?_eq_getElem hi]
      rfl
    have hne := hn L[j] (List.getElem_mem hi)
    rw [bourneref1_sorted.l0, if_pos (by omega), ew, if_pos (by omega), if_pos (by omega), e, less_ord hne, Option.bind_some]
    by_cases ho : ord x L[j] < 0
    · rw [decide_eq_true ho, if_pos rfl]
      refine sorted_loop hs hl hn j k (by omega) (by omega) (fun y hy => ?_)
      rw [List.drop_eq_getElem_cons hi] at hy
      rcases List.mem_cons.1 hy with rfl | hy
      · exact ho
      · exact hd y hy
    · rw [decide_eq_false ho, if_neg (by simp)]
      rw [ins_at (j := j + 1) hs hj hd (fun _ => by
        have e3 : L.getD (j + 1 - 1) z34 = L[j] := by rw [Nat.add_sub_cancel, List.getD_eq_getElem?_getD, List.getElem?_eq_getElem hi]; rfl
        rw [e3]
        have := ord_anti (a := x) (b := L[j])
        omega)]
      simp only [Option.bind_some, Int.toNat_natCast, List.nil_append, List.length_nil]
      rw [if_pos (by omega), if_pos (by omega), if_pos (by rw [List.length_take]; omega), if_pos (by rw [List.length_take]; omega), if_pos (by simp; omega)]
      simp
theorem rtwin_any (L : List S34) (hl : L.length ≤ 100000) (x : S34) (A : Option Addr) (c : Nat) (w : World) (hr : RdX w A L) (hc : L.length ≤ c) :
    Calls Try.prog 68 #[.slice A L.length c, .agg #[.int .i64 x.f0, .int .i64 x.f1, .int .i64 x.f2, .int .i64 x.f3]] w fun e w' => e = .returned (.bool (hasB x L)) ∧ Below w.heap.size w w' :=
  bourneref1_twin.calls (L.length + 1) A c L _ _ _ _ _ w (kd_of_rdX hr (by omega)) hc (by
    have := twin_loop L hl x L.length 0 (L.length + 1) (by omega) (by omega)
    unfold bourneref1_twin.f
    rw [List.drop_zero] at this
    exact this)
theorem rsorted_any (L : List S34) (hl : L.length ≤ 100000) (x : S34) (hs : Srt L) (hn : ∀ y ∈ L, ord x y ≠ 0) (A : Option Addr) (c : Nat) (w : World) (hr : RdX w A L) (hc : L.length ≤ c) :
    Calls Try.prog 69 #[.slice A L.length c, .agg #[.int .i64 x.f0, .int .i64 x.f1, .int .i64 x.f2, .int .i64 x.f3]] w fun e w' => ∃ v, e = .returned v ∧ OwX w' w.heap.size v (ins x L) ∧ Below w.heap.size w w' :=
  (bourneref1_sorted.calls (L.length + 1) A c L _ _ _ _ _ w (kd_of_rdX hr (by omega)) hc (by
    unfold bourneref1_sorted.f
    exact sorted_loop hs hl hn L.length (L.length + 1) (by omega) (by omega) (fun y hy => by rw [List.drop_length] at hy; cases hy))).mono fun e w' hh => by
    obtain ⟨v, h1, h2, h3⟩ := hh
    exact ⟨v, h1, own_of_kd h2, h3⟩
end Go.Proofs.Ytfgabafbcephaaa.My

namespace Go.Proofs.Ytfgabafbcephaaa.My
open Go.RowKit Pa Go.Proofs.YtfgabafbcephaaaW.PrintWords
set_option linter.unusedSimpArgs false
theorem rstep_one (bs : List Int) (a : S36) (x : S34) : fstep bs a x = rstep a (one x bs) := by
  unfold fstep rstep
  rw [if_neg (show ¬ (one x bs).f0 = 0 by show ¬ (1 : Int) = 0; omega)]
theorem fold_joinA {bs : List Int} (hb : bmay bs = true) {s : Int} : ∀ {n : Nat} {xs : List S34}, xs.length = n → (∀ x ∈ xs, imay x = true ∧ x.f0 = s) → n ≤ 8192 → foldA bs xs = joinA bs (its bs xs) ∧ Zs bs s (joinA bs (its bs xs)) ∧ (joinA bs (its bs xs)).f0 = n
  | 0, xs, hn, _, _ => by
    have e : xs = [] := List.eq_nil_of_length_eq_zero hn
    subst e
    exact ⟨rfl, .inl rfl, rfl⟩
  | n + 1, xs, hn, hm, hl => by
    have h0 : xs ≠ [] := fun e => by rw [e] at hn; cases hn
    obtain ⟨ys, x, rfl⟩ : ∃ ys x, xs = ys ++ [x] := ⟨xs.dropLast, xs.getLast h0, (List.dropLast_concat_getLast h0).symm⟩
    have hy : ys.length = n := by simpa using hn
    obtain ⟨i1, i2, i3⟩ := fold_joinA hb hy (fun y hy => hm y (List.mem_append_left _ hy)) (by omega)
    have hx := hm x (by simp)
    have m1 := may1_one hx.1 hb
    have ha := m1.amay
    obtain ⟨r1, r2⟩ := rstep_eq (s := s) ha i2 (fun _ => hx.2)
    rw [foldA_snoc, rstep_one, i1, r1, its_app, show its bs [x] = [one x bs] from rfl, joinA_append]
    have hf : (stepA (joinA bs (its bs ys)) (one x bs)).f0 = (joinA bs (its bs ys)).f0 + 1 := by
      have h1 : (one x bs).f0 = 1 := rfl
      rcases i2 with e | ⟨mc, _⟩
      · rw [e, zero_step m1, h1]
        rfl
      · have hc0 : (joinA bs (its bs ys)).f0 ≠ 0 := by have := mc.c; omega
        unfold stepA
        rw [if_pos (by rw [h1]; omega), (add_parts _ _ hc0).1, h1]
    refine ⟨rfl, r2 ?_, by rw [hf, i3]; rfl⟩
    rw [i3]
    show (n : Int) + 1 ≤ 8192
    omega
theorem row_of {s : Int} {L : List S34} (hs : Srt L) (hm : ∀ x ∈ L, imay x = true ∧ x.f0 = s) (hl : L.length ≤ 8192) : Row s L :=
  ⟨fun x hx => (hm x hx).1, fun x hx => (hm x hx).2, hs.imp (fun h => Int.le_of_lt h), hl⟩
theorem rfold_any (bs : List Int) (hb : bmay bs = true) {s : Int} (L : List S34) (hs : Srt L) (hm : ∀ x ∈ L, imay x = true ∧ x.f0 = s) (hl : L.length ≤ 8192) (A : Option Addr) (c : Nat) (A1 : Option Addr) (c1 : Nat) (w : World) (hr : RdX w A L) (hc : L.length ≤ c) (hb1 : RdI w A1 bs) (hc1 : bs.length ≤ c1) :
    Calls Try.prog 71 #[.slice A L.length c, .slice A1 bs.length c1] w fun e w' => ∃ v, e = .returned (acV (joinA bs (its bs L)) v) ∧ Own w' w.heap.size v (joinA bs (its bs L)).f6 ∧ Below w.heap.size w w' := by
  have h := fold_ref hb (row_of hs hm hl) (k := L.length + 1) (by omega)
  rw [(fold_joinA hb rfl hm hl).1] at h
  exact (bourneref1_Fold.calls (L.length + 1) A c L A1 c1 bs _ _ _ _ _ _ _ _ _ _ _ _ _ w (kd_of_rdX hr (by omega)) hc hb1 hc1 h).mono fun e w' hh => by
    obtain ⟨v, h1, h2, h3⟩ := hh
    exact ⟨v, h1, own_of_r h2, h3⟩
def rtO (bv iv : Value) : Obj := .cells #[bv, iv] 79
structure RT (w0 w : World) (R : Nat → Prop) (r : Nat) (bs : List Int) (L : List S34) : Prop where
  st : ∃ bv iv, w.heap[r]? = some (rtO bv iv) ∧ Own w w0.heap.size bv bs ∧ OwX w w0.heap.size iv L ∧ R r ∧ (∀ k, bv.ownBlock = some k → R k) ∧ ∀ k, iv.ownBlock = some k → R k
  new : ∀ i, R i → w0.heap.size ≤ i ∧ i < w.heap.size
  bel : Below w0.heap.size w0 w
section
variable {w0 w w1 : World} {R S : Nat → Prop} {r : Nat} {bs : List Int} {L : List S34}
theorem RT.chg (h : RT w0 w R r bs L) (hc : Chg S w w1) (hS : ∀ k, S k → ¬ R k ∧ w0.heap.size ≤ k) : RT w0 w1 R r bs L := by
  obtain ⟨bv, iv, h1, h2, h3, h4, h5, h6⟩ := h.st
  exact ⟨⟨bv, iv, hc.obj h1 (fun hs => (hS _ hs).1 h4), h2.keep hc (fun k hk hs => (hS _ hs).1 (h5 k hk)), h3.keep hc (fun k hk hs => (hS _ hs).1 (h6 k hk)), h4, h5, h6⟩,
    fun i hi => ⟨(h.new i hi).1, Nat.lt_of_lt_of_le (h.new i hi).2 hc.size⟩, Chg.base h.bel hc h.bel.size (fun i hi => (hS i hi).2)⟩
theorem RT.quiet (h : RT w0 w R r bs L) (hb : Below w.heap.size w w1) : RT w0 w1 R r bs L := h.chg (S := fun _ => False) (Chg.of_below hb) (fun _ h => h.elim)
end
end Go.Proofs.Ytfgabafbcephaaa.My

namespace Go.Proofs.Ytfgabafbcephaaa.My
open Go.RowKit Pa Go.Proofs.YtfgabafbcephaaaW.PrintWords
set_option linter.unusedSimpArgs false
set_option maxHeartbeats 16000000 in
set_option maxRecDepth 100000 in
theorem rtnew_raw (bs : List Int) (A : Option Addr) (c : Nat) (w : World) (hr : RdI w A bs) (hc : bs.length ≤ c) (hl : bs.length ≤ 17592186044415) :
    Calls Try.prog 30 #[.slice A bs.length c] w fun e w' =>
      (bmay bs = false ∧ e = .returned (.tuple #[.pointer none, .int .i64 1900]) ∧ Below w.heap.size w w') ∨
      (bmay bs = true ∧ ∃ (g : Nat) (bv : Value), e = .returned (.tuple #[.pointer (some ⟨g, 0, none⟩), .int .i64 0]) ∧ w'.heap[g]? = some (rtO bv (.slice none 0 0)) ∧ Own w' w.heap.size bv bs ∧ w.heap.size ≤ g ∧ Below w.heap.size w w') := by
  have HR := Lib.hid hr
  have HC := Lib.hid hc
  have HL := Lib.hid hl
  clear hr hc hl
  go_enter Try.func30, Try.ntmps30
  go_wp2_with fail
  refine (rbm_any bs A c w HR.out HC.out (by have := HL.out; omega)).mono ?_
  rintro e w2 ⟨rfl, hb⟩
  have HB2 := Lib.hid hb
  have HR2 := Lib.hid (RdI.below HR.out hb)
  clear hb
  by_cases hm : bmay bs = true
  · rw [hm]
    have HM := Lib.hid hm
    clear hm
    have hl := HL.out
    go_wp2_with (first | ((with_reducible refine gate_dst (N := 7) rfl ?_); refine Kd.R_lit (Kd.int .i64) _ 3 ?hg (N := 7) ?hd (xs := ([] : List Int)) (inner := []) (ok := fun _ => True) (okp := fun _ => True) ?hr ?hp (fun _ hk => hk) trivial (Below.refl _ _) (Nat.le_refl _) (by simp) ?_; (case hd => rfl); (case hg => rfl); (case hr => first | (go_simp; done) | (go_simp; rfl)); (case hp => exact (Reps.none _ _)); intro v3 w3 ho4 hb hg_ hnew_; clear hg_ hnew_; have HO := Lib.hid ho4; have HB := Lib.hid hb; clear ho4 hb) | ((with_reducible refine gate_builtin (b := .append) (xs := #[.tmp 7, .tmp 8]) rfl ?_); at_builtin; refine Kd.R_append_rows (Kd.int .i64) (w0 := w2) w2.heap.size rfl (.tmp 7) (.tmp 8) 22 3 (.int .i64 0) 8 rfl Try.underlying22 info3 rfl (by decide) (by omega) v3 [] bs _ _ _ (fun _ => True) (fun _ => False) rfl rfl ?aO ?aR (fun _ _ h => h) (fun _ h => h.elim) ?aF ?aB ?aS ?aL ?_; (case aR => exact Kd.C_below HR2.out HB.out); (case aB => exact HB.out); (case aF => exact (fun _ _ => trivial)); (case aO => exact HO.out); (case aS => exact HB.out.size); (case aL => simp; omega); intro bv w5 ho hb2 hg hat; have HO2 := Lib.hid (own_of_r ho); obtain ⟨Ab, cb, rfl, _, _⟩ := (own_of_r ho).reads; have HB5 := Lib.hid hb2; clear ho hb2 hg hat))
    show bodyPost _ _ _ _ _ (w5.alloc (rtO (.slice Ab bs.length cb) (.slice none 0 0)))
    have halc : Below w5.heap.size w5 (w5.alloc (rtO (.slice Ab bs.length cb) (.slice none 0 0))) := (Below.refl w5.heap.size w5).alloc (Nat.le_refl _) _
    have hq := heap_alloc_new w5 (rtO (.slice Ab bs.length cb) (.slice none 0 0))
    have hbv := Own.below HO2.out halc
    have h1 := HB2.out.size
    have h2 := HB5.out.size
    have hbel : Below w.heap.size w (w5.alloc (rtO (.slice Ab bs.length cb) (.slice none 0 0))) := HB2.out.trans ((HB5.out.trans (halc.mono h2)).mono h1)
    have hQ : Own (w5.alloc (rtO (.slice Ab bs.length cb) (.slice none 0 0))) w.heap.size (.slice Ab bs.length cb) bs := own_weaken hbv (by omega)
    refine bodyPost_ret (results_tmp2 rfl _ _ _) rfl (.inr ?_)
    exact ⟨HM.out, _, _, rfl, hq, hQ, by omega, hbel⟩
  · have hm' : bmay bs = false := by simpa using hm
    rw [hm']
    have HM := Lib.hid hm'
    clear hm hm'
    go_wp2_with fail
    exact bodyPost_ret (results_tmp2 rfl _ _ _) rfl (.inl ⟨HM.out, rfl, HB2.out⟩)
theorem rtnew_any {w0 : World} (bs : List Int) (A : Option Addr) (c : Nat) (w : World) (hw : Below w0.heap.size w0 w) (hr : RdI w A bs) (hc : bs.length ≤ c) (hl : bs.length ≤ 17592186044415) :
    Calls Try.prog 30 #[.slice A bs.length c] w fun e w' =>
      (bmay bs = false ∧ e = .returned (.tuple #[.pointer none, .int .i64 1900]) ∧ Below w.heap.size w w') ∨
      (bmay bs = true ∧ ∃ (r : Nat) (R : Nat → Prop), e = .returned (.tuple #[.pointer (some ⟨r, 0, none⟩), .int .i64 0]) ∧ RT w0 w' R r bs [] ∧ (∀ i, R i → w.heap.size ≤ i) ∧ Below w.heap.size w w') :=
  (rtnew_raw bs A c w hr hc hl).mono fun e w' h => by
    rcases h with h | ⟨h0, g, bv, h1, h2, h3, h4, h5⟩
    · exact .inl h
    · have := hw.size
      exact .inr ⟨h0, g, fun i => w.heap.size ≤ i ∧ i < w'.heap.size, h1, ⟨⟨bv, .slice none 0 0, h2, own_weaken h3 this, World.ownsRow_nil _ _ _ _, ⟨h4, blk_lt h2⟩, fun k hk => ⟨own_base h3 k hk, own_lt h3 k hk⟩, fun k hk => by cases hk⟩, fun i hi => ⟨by omega, hi.2⟩, hw.trans (h5.mono this)⟩, fun i hi => hi.1, h5⟩
end Go.Proofs.Ytfgabafbcephaaa.My

namespace Go.Proofs.Ytfgabafbcephaaa.My
open Go.RowKit Pa Go.Proofs.YtfgabafbcephaaaW.PrintWords
set_option linter.unusedSimpArgs false
section
attribute [local go_sem high] eqA34
set_option maxHeartbeats 8000000 in
set_option maxRecDepth 100000 in
theorem xsame2_any (A B : Option Addr) (c d : Nat) (ys : List S34) (w : World) (hA : RdX w A ys) (hB : RdX w B ys) (hn : ys.length ≤ 4398046511000) :
    Calls Try.prog 43 #[.slice A ys.length c, .slice B ys.length d] w fun e w' => e = .returned (.bool true) ∧ Below w.heap.size w w' := by
  have HA := Lib.hid hA
  have HB := Lib.hid hB
  clear hA hB
  go_enter Try.func43, Try.ntmps43
  go_wp2_with fail
  go_loopw [5] (fun i wr => ∃ k : Nat, i = .int .i64 k ∧ k ≤ ys.length ∧ Below w.heap.size w wr) (fun i _ => ys.length - (intOf i).toNat)
  case atStart => exact ⟨0, rfl, Nat.zero_le _, Below.refl _ _⟩
  case round =>
    obtain ⟨k, rfl, hk, hb⟩ := hrel
    have HL := Lib.hid hb
    clear hb
    by_cases hlt : k < ys.length
    · obtain ⟨b, o, rfl, hbs, hcells⟩ := (HA.out.quiet HL.out) (by omega)
      obtain ⟨a0, a1, a2, a3⟩ := hcells k hlt
      obtain ⟨b2, o2, rfl, hbs2, hcells2⟩ := (HB.out.quiet HL.out) (by omega)
      obtain ⟨b0, b1, b2, b3⟩ := hcells2 k hlt
      clear hcells hcells2
      go_wp2_with fail
      refine Txt.wp_region_text (by kernel_rfl) (by kernel_rfl) ?_
      repeat (first
        | (refine Txt.text_p (by rfl) rfl (fun K hK => ?_); go_big_quiet_op; refine hK _ ?_; clear hK K)
        | (refine Txt.text_r (by rfl) rfl (fun K hK => ?_); go_big_quiet_op; refine hK _ ?_; clear hK K)
        | (refine Txt.text_pass (by rfl) (by rfl) ?_; simp only [List.set_cons_succ, List.set_cons_zero]))
      refine Txt.text_nil ?_
      go_wp2_with fail
      exact ⟨⟨k + 1, by go_num, by omega, HL.out.drew⟩, by simp [intOf]; omega⟩
    · obtain rfl : k = ys.length := by omega
      go_wp2_with fail
      go_ret
      exact ⟨rfl, HL.out⟩
end
theorem xcat_any {ops : Array Oper} {Q : Exit → Act → World → Prop} {o : Oper} {rest : List Oper} {a : Act} {w : World} {v : Value} {ys : List S34} (s x : Operand)
    (hgd : o.guard = none) (ho : o.op = .call { callee := .builtin .append, args := #[s, x], argTypes := #[65, 65] })
    (L : w.ownsRow 0 34 4 v ys.length (flatX ys)) (hs : a.eval s = v) (A : Option Addr) (zs : List S34) (m c : Nat) (hm : zs.length = m) (hx : a.eval x = .slice A m c)
    (hA : RdX w A zs) (hc : A = none → c = 0) (hl : (ys.length + m) * 32 ≤ 140737488355328)
    (h : ∀ v1 w1, w1.ownsRow 0 34 4 v1 (ys ++ zs).length (flatX (ys ++ zs)) → w.grownBy w1 v.ownBlock → (v1.ownBlock = v.ownBlock ∨ v1.ownBlock = some w.heap.size) → wpList Try.prog ops Q rest (a.put o.dst v1) w1) : AtAppend Try.prog ops Q o rest a w := by
  subst hm
  unfold AtAppend
  refine wpList_plain hgd fun K hK => ?_
  obtain ⟨i0, hi, hz0, hz1, hz2⟩ := info_parts info_itm
  cases A with
  | none =>
    have hz : zs = [] := by
      cases zs with
      | nil => rfl
      | cons z r => obtain ⟨b, o, e, -⟩ := hA (by simp); cases e
    subst hz
    have hr := run_append_owned_none (P := Try.prog) w 0 65 o.type 34 i0 4 Try.underlying65 hi v ys.length (flatX ys) L
    rw [hc rfl] at hx
    unfold Oper.wp execOp
    simp only [ho, resolve, invoke, builtin, Sem.run_bind, Sem.run_pure, Result.andThen_ok, List.map_toArray, List.map_cons, List.map_nil, hs, hx, List.length_nil, hr]
    exact hK _ _ (h v w (by rw [List.append_nil]; exact L) (World.grownBy.refl _ _) (.inl rfl))
  | some ad =>
    obtain ⟨v1, w1, hr, h2, h3, _, h5⟩ := run_append_own_at (P := Try.prog) w 0 65 o.type 34 i0 (.agg #[(.int .i64 0), (.int .i64 0), (.int .i64 0), (.int .i64 0)]) 4 32 Try.underlying65 hi hz0 hz1 hz2 rfl (by decide) v ys.length (flatX ys) L ad zs.length c (flatX zs) (flatX_length zs) hA.flatX (fun u hu => by
      obtain ⟨y, _, hy⟩ := List.mem_flatMap.1 hu
      simp only [cellsX, List.mem_cons, List.not_mem_nil, or_false] at hy
      rcases hy with rfl | rfl | rfl | rfl <;> rfl) (by simp only [maxLen]; omega) hl (Nat.zero_le _)
    unfold Oper.wp execOp
    simp only [ho, resolve, invoke, builtin, Sem.run_bind, Sem.run_pure, Result.andThen_ok, List.map_toArray, List.map_cons, List.map_nil, hs, hx, hr]
    exact hK _ _ (h v1 w1 (by rw [List.length_append, flatX_append]; exact h2) h3 h5)
theorem xfresh_row (w : World) : (w.alloc (.cells #[] 34)).ownsRow 0 34 4 (.slice (some ⟨w.heap.size, 0, none⟩) 0 0) 0 (flatX []) :=
  ⟨rfl, .inr ⟨w.heap.size, 0, #[], rfl, Nat.zero_le _, heap_alloc_new w _, Nat.le_refl _, Nat.zero_le _, rfl, rfl⟩⟩
theorem xrow_rd {w : World} {b c : Nat} {ys : List S34} (h : w.ownsRow 0 34 4 (.slice (some ⟨b, 0, none⟩) ys.length c) ys.length (flatX ys)) : RdX w (some ⟨b, 0, none⟩) ys := fun _ => by
  refine ⟨b, 0, rfl, (h.lt b rfl).2, fun i hi => ?_⟩
  have := xrow_get h hi
  simpa using this
set_option maxHeartbeats 8000000 in
set_option maxRecDepth 100000 in
theorem xcopy_any (A : Option Addr) (c : Nat) (ys : List S34) (w : World) (hA : RdX w A ys) (hn : ys.length ≤ 4398046511000) (h0 : A = none → c = 0) :
    Calls Try.prog 57 #[.slice A ys.length c] w fun e w' => ∃ v', e = .returned v' ∧ w'.ownsRow 0 34 4 v' ys.length (flatX ys) ∧ Below w.heap.size w w' ∧ ∀ k, v'.ownBlock = some k → w.heap.size ≤ k := by
  have HA := Lib.hid hA
  clear hA
  go_enter Try.func57, Try.ntmps57
  go_wp2_with (at_builtin; refine at_append _ _ _ rfl ?_)
  have hal := (Below.refl w.heap.size w).alloc (Nat.le_refl _) (.cells #[] 34)
  refine xcat_any (.tmp 3) (.tmp 4) rfl rfl (xfresh_row w) rfl A ys ys.length c rfl rfl (HA.out.quiet hal) h0 (by simp <;> omega) ?_
  rintro v1 w4 row1 hgr1 hat1
  rw [List.nil_append] at row1
  have own1 : ∀ k, v1.ownBlock = some k → w.heap.size ≤ k := fun k hk => by
    rcases hat1 with e | e
    · rw [hk] at e
      have e1 : k = w.heap.size := by simpa [Value.ownBlock] using e
      omega
    · rw [hk] at e
      have e1 : k = w.heap.size + 1 := by simpa using e
      omega
  have hb4 := below_grown hal hgr1 hal.size (fun k hk => by
    have e1 : w.heap.size = k := by simpa [Value.ownBlock] using hk
    omega)
  simp only [Act.put, List.setIfInBounds_toArray, List.set_cons_succ, List.set_cons_zero]
  go_wp2_with fail
  go_ret
  exact ⟨_, rfl, row1, hb4, own1⟩
def markX : S34 := ⟨0, 0, 77777, 0⟩
set_option maxHeartbeats 8000000 in
set_option maxRecDepth 100000 in
theorem xlend_any (A : Option Addr) (c : Nat) (ys : List S34) (w : World) (hA : RdX w A ys) (hn : ys.length ≤ 4398046511000) (h0 : A = none → c = 0) :
    Calls Try.prog 33 #[.slice A ys.length c] w fun e w' => ∃ b cap, e = .returned (.slice (some ⟨b, 0, none⟩) ys.length cap) ∧ w'.ownsRow 0 34 4 (.slice (some ⟨b, 0, none⟩) (ys.length + 2) cap) (ys.length + 2) (flatX (ys ++ [markX, markX])) ∧ Below w.heap.size w w' ∧ w.heap.size ≤ b := by
  have HA := Lib.hid hA
  clear hA
  go_enter Try.func33, Try.ntmps33
  go_wp2_with fail
  refine (xcopy_any A c ys w HA.out hn h0).mono ?_
  rintro e w1 ⟨v1, rfl, row1, hb1, own1⟩
  go_wp2_with (at_builtin; refine at_append _ _ _ rfl ?_)
  have hal := (Below.refl w1.heap.size w1).alloc (Nat.le_refl _) (.cells (flatX [markX, markX]).toArray 34)
  have rowe := row_keep (S := fun _ => False) row1 (Chg.of_below hal) (fun _ _ h => h)
  refine xcat_any (.tmp 5) (.tmp 8) rfl rfl rowe rfl (some ⟨w1.heap.size, 0, none⟩) [markX, markX] 2 2 rfl rfl (rdX_blk (ys := [markX, markX]) (sp := []) (heap_alloc_new w1 _)) (fun e => by cases e) (by omega) ?_
  rintro v2 w4 row2 hgr2 hat2
  have hbe := hb1.trans (hal.mono hb1.size)
  have hb4 := below_grown hbe hgr2 hbe.size own1
  have own2 : ∀ k, v2.ownBlock = some k → w.heap.size ≤ k := fun k hk => by
    rcases hat2 with e | e
    · exact own1 k (e.symm.trans hk)
    · rw [hk] at e
      have e1 : k = w1.heap.size + 1 := by simpa using e
      have := hb1.size
      omega
  have hl2 : (ys ++ [markX, markX]).length = ys.length + 2 := by simp
  rw [hl2] at row2
  obtain ⟨b, cap, rfl, _, _⟩ := row2.form (by omega)
  obtain ⟨hc1, hc2⟩ := row_cap row2
  have ROW := Lib.hid row2
  clear row2 rowe row1 hgr2 hat2 hal
  simp only [Act.put, List.setIfInBounds_toArray, List.set_cons_succ, List.set_cons_zero]
  go_wp2_with fail
  go_ret
  exact ⟨b, cap, rfl, ROW.out, hb4, own2 b rfl⟩
set_option maxHeartbeats 8000000 in
set_option maxRecDepth 100000 in
theorem xkept_any (b n cap : Nat) (B : Option Addr) (d : Nat) (ys : List S34) (w : World) (h : w.ownsRow 0 34 4 (.slice (some ⟨b, 0, none⟩) (n + 2) cap) (n + 2) (flatX (ys ++ [markX, markX]))) (hB : RdX w B ys) (hn : ys.length = n) (hn2 : n ≤ 4398046511000) :
    Calls Try.prog 36 #[.slice (some ⟨b, 0, none⟩) n cap, .slice B n d] w fun e w' => e = .returned (.bool true) ∧ Below w.heap.size w w' := by
  have HR := Lib.hid h
  have HB := Lib.hid hB
  obtain ⟨hc1, hc2⟩ := row_cap h
  clear h hB
  go_enter Try.func36, Try.ntmps36
  go_wp2_with fail
  have hrd : RdX w (some ⟨b, 0, none⟩) ys := by
    have h2 : RdX w (some ⟨b, 0, none⟩) (ys ++ [markX, markX]) := xrow_rd (c := cap) (by rw [show (ys ++ [markX, markX]).length = n + 2 by simp [hn]]; exact HR.out)
    have h3 := h2.take n
    rw [← hn, List.take_left] at h3
    exact h3
  have hp := xsame2_any (some ⟨b, 0, none⟩) B cap d ys w hrd HB.out (by omega)
  rw [hn] at hp
  refine hp.mono ?_
  rintro e w1 ⟨rfl, hb⟩
  have hr1 := row_keep (S := fun _ => False) HR.out (Chg.of_below hb) (fun _ _ h => h)
  obtain ⟨a0, a1, a2, a3⟩ := xrow_get (i := n) hr1 (by simp; omega)
  obtain ⟨b0, b1, b2, b3⟩ := xrow_get (i := n + 1) hr1 (by simp; omega)
  have m0 : atX (ys ++ [markX, markX]) n = markX := by simp [atX, ← hn]
  have m1 : atX (ys ++ [markX, markX]) (n + 1) = markX := by simp [atX, ← hn, List.getD_eq_getElem?_getD]
  rw [m0] at a0 a1 a2 a3
  rw [m1] at b0 b1 b2 b3
  simp only [markX] at a0 a1 a2 a3 b0 b1 b2 b3
  obtain ⟨cur, hcur⟩ := row_blk hr1
  have hbl := blk_lt hcur
  have HX := Lib.hid hb
  clear hp hr1 hcur hb hrd m0 m1
  go_wp2_with fail
  go_ret
  exact ⟨rfl, HX.out⟩
def setq (y : S34) (q : Int) : S34 := ⟨y.f0, y.f1, q, y.f3⟩
theorem flatX_setq {xs : List S34} (q : Int) : ∀ {i : Nat}, i < xs.length → flatX (xs.set i (setq (atX xs i) q)) = (flatX xs).set (i * 4 + 2) (.int .i64 q) := by
  induction xs with
  | nil => intro i h; simp at h
  | cons y r ih =>
    intro i h
    have e : ∀ z : S34, ∀ l, flatX (z :: l) = cellsX z ++ flatX l := fun z l => by simp [flatX]
    cases i with
    | zero => simp [e, cellsX, setq, atX]
    | succ i =>
      have hl : (cellsX y).length = 4 := rfl
      rw [List.set_cons_succ, e, e, show atX (y :: r) (i + 1) = atX r i from rfl, ih (by simpa using h)]
      rw [List.set_append_right _ _ (by rw [hl]; omega)]
      congr 2
      rw [hl]; omega
set_option maxHeartbeats 8000000 in
set_option maxRecDepth 100000 in
theorem xspoil_any (b n m cap : Nat) (ys : List S34) (w : World) (h : w.ownsRow 0 34 4 (.slice (some ⟨b, 0, none⟩) m cap) m (flatX ys)) (hn : n ≤ m) (hm : m ≤ 4398046511000) :
    Calls Try.prog 37 #[.slice (some ⟨b, 0, none⟩) n cap] w fun e w' => e = .returned (.tuple #[]) ∧ Chg (fun k => k = b) w w' := by
  have HR := Lib.hid h
  clear h
  go_enter Try.func37, Try.ntmps37
  go_wp2_with fail
  go_loopw [2] (fun i wr => ∃ k : Nat, i = .int .i64 k ∧ k ≤ n ∧ ∃ zs, wr.ownsRow 0 34 4 (.slice (some ⟨b, 0, none⟩) m cap) m (flatX zs) ∧ Chg (fun k => k = b) w wr) (fun i _ => n - (intOf i).toNat)
  case atStart => exact ⟨0, rfl, Nat.zero_le _, ys, HR.out, Chg.refl _ _⟩
  case round =>
    obtain ⟨k, rfl, hk, zs, hr, hc⟩ := hrel
    have H1 := Lib.hid hr
    have HC := Lib.hid hc
    have hzl : zs.length = m := by have := hr.1; rw [flatX_length] at this; omega
    clear hc
    by_cases hlt : k < n
    · obtain ⟨a0, a1, a2, a3⟩ := xrow_get hr (i := k) (by omega)
      obtain ⟨cur, hcur⟩ := row_blk hr
      have hf := blk_free hcur
      have hbl := blk_lt hcur
      clear hcur hr
      go_wp2_with fail
      refine ⟨⟨k + 1, by go_num, by omega, zs.set k (setq (atX zs k) (bits .xor .i64 (atX zs k).f2 90)), ?_, HC.out.setCell (p := ⟨b, k * 4 + 2, none⟩) (.inl rfl) _⟩, by simp [intOf]; omega⟩
      rw [flatX_setq _ (by omega)]
      exact (H1.out.stored _ _).1
    · obtain rfl : k = n := by omega
      go_wp2_with fail
      exact bodyPost_end (results_none rfl _ _ _) rfl ⟨rfl, HC.out⟩
set_option maxHeartbeats 8000000 in
set_option maxRecDepth 100000 in
theorem xspoil_none (w : World) : Calls Try.prog 37 #[.slice none 0 0] w fun e w' => e = .returned (.tuple #[]) ∧ Below w.heap.size w w' := by
  go_enter Try.func37, Try.ntmps37
  go_wp2_with fail
  go_loopw [2] (fun i wr => i = .int .i64 0 ∧ Below w.heap.size w wr) (fun _ _ => 0)
  case atStart => exact ⟨rfl, Below.refl _ _⟩
  case round =>
    obtain ⟨rfl, hb⟩ := hrel
    have HB := Lib.hid hb
    clear hb
    go_wp2_with fail
    exact bodyPost_end (results_none rfl _ _ _) rfl ⟨rfl, HB.out⟩
theorem xspoil_own {w : World} {base : Nat} {v : Value} {ys : List S34} (h : OwX w base v ys) (hl : ys.length ≤ 4398046511000) :
    Calls Try.prog 37 #[v] w fun e w' => e = .returned (.tuple #[]) ∧ Chg (fun k => v.ownBlock = some k) w w' := by
  rcases h.2 with ⟨e1, _⟩ | ⟨b, cap, cur, e1, -, -, -, -⟩
  · rw [e1]
    exact (xspoil_none w).mono fun e w' hh => ⟨hh.1, Chg.of_below hh.2⟩
  · have h2 : w.ownsRow 0 34 4 v ys.length (flatX ys) := own_weaken h (Nat.zero_le _)
    rw [e1] at h2 ⊢
    exact (xspoil_any b ys.length ys.length cap ys w h2 (Nat.le_refl _) hl).mono fun e w' hh => ⟨hh.1, hh.2.mono (fun i _ hi => by rw [show i = b from hi]; rfl)⟩
end Go.Proofs.Ytfgabafbcephaaa.My

namespace Go.Proofs.Ytfgabafbcephaaa.My
open Go.RowKit Pa Go.Proofs.YtfgabafbcephaaaW.PrintWords
set_option linter.unusedSimpArgs false
end Go.Proofs.Ytfgabafbcephaaa.My

namespace Go.Proofs.Ytfgabafbcephaaa.My
open Go.RowKit Pa Go.Proofs.YtfgabafbcephaaaW.PrintWords Go.Proofs.YtfgabafbcephaaaW.PrintMore
set_option linter.unusedSimpArgs false
attribute [local go_sem] max2_int min2_int max_two min_two
end Go.Proofs.Ytfgabafbcephaaa.My

namespace Go.Proofs.Ytfgabafbcephaaa.My
open Go.RowKit Pa Go.Proofs.YtfgabafbcephaaaW.PrintWords Go.Proofs.YtfgabafbcephaaaW.PrintMore
set_option linter.unusedSimpArgs false
attribute [local go_sem] max2_int min2_int max_two min_two
def Made (k : Nat) (xs : List S34) : Prop := xs.length = k ∧ (∀ x ∈ xs, imay x = true ∧ x.f0 = 1 ∧ x.f2 ≤ k) ∧ xs.Pairwise (fun a b => ord a b ≠ 0)
theorem Made.snoc {k : Nat} {xs : List S34} (h : Made k xs) {x : S34} (hx : imay x = true ∧ x.f0 = 1 ∧ x.f2 = k + 1) : Made (k + 1) (xs ++ [x]) := by
  refine ⟨by rw [List.length_append, h.1]; rfl, fun y hy => ?_, List.pairwise_append.2 ⟨h.2.2, by simp, fun a ha b hb e => ?_⟩⟩
  · rcases List.mem_append.1 hy with hy | hy
    · have := h.2.1 y hy
      exact ⟨this.1, this.2.1, by omega⟩
    · rw [List.mem_singleton.1 hy]
      exact ⟨hx.1, hx.2.1, by rw [hx.2.2]; omega⟩
  · rw [List.mem_singleton.1 hb] at e
    have h1 := (ord_zero.1 e).2
    have h2 := (h.2.1 a ha).2.2
    rw [hx.2.2] at h1
    omega
theorem xitm_cells : Try.prog.cellsOf (Try.prog.elem 65) = 4 := by kernel_rfl
theorem xitm_size (w : World) : (sizeOf (Try.prog.elem 65)).run Try.prog w = .ok 4 w := by
  obtain ⟨i, hi, _⟩ := Option.map_eq_some_iff.1 info_itm
  have e : Try.prog.elem 65 = 34 := by kernel_rfl
  have h := run_sizeOf (P := Try.prog) (w := w) (t := Try.prog.elem 65) (i := i) (by rw [e]; exact hi)
  rw [h, xitm_cells]
set_option maxRecDepth 100000 in
theorem xdrop_any (A : Option Addr) (n c k : Nat) (hk : k ≤ n) : ∃ A5, (∀ w, (Instr.slice 65 (.slice A n c) (some (.int .i64 k)) none none).run Try.prog w = .ok (.slice A5 (n - k) (c - k)) w) ∧ (∀ b o, A = some ⟨b, o, none⟩ → ∃ o', A5 = some ⟨b, o', none⟩ ∧ (k < c → o' = o + k * 4)) ∧ (A = none → A5 = none) := by
  refine ⟨if c = k then A else A.map (·.add (k * 4)), fun w => ?_, fun b o e => ?_, fun e => ?_⟩
  · rw [run_slice_l (P := Try.prog) w 65 A n c Try.underlying65 .i64 k (by omega) (by omega), xitm_size]
    rfl
  · subst e
    split
    · exact ⟨o, rfl, fun h => by omega⟩
    · exact ⟨o + k * 4, by simp [Addr.add], fun _ => rfl⟩
  · subst e
    split <;> rfl
theorem RdX.drop5 {w : World} {A A5 : Option Addr} {xs : List S34} {c : Nat} (h : RdX w A xs) (k : Nat) (hc : xs.length ≤ c) (he : ∀ b o, A = some ⟨b, o, none⟩ → ∃ o', A5 = some ⟨b, o', none⟩ ∧ (k < c → o' = o + k * 4)) : RdX w A5 (xs.drop k) := fun hp => by
  rw [List.length_drop] at hp
  obtain ⟨b, o, e, hb, hcl⟩ := h (by omega)
  obtain ⟨o', h1, h2⟩ := he b o e
  refine ⟨b, o', h1, hb, fun i hi => ?_⟩
  rw [List.length_drop] at hi
  rw [atX_drop, h2 (by omega), show o + k * 4 + i * 4 = o + (k + i) * 4 by omega]
  exact hcl (k + i) (by omega)
theorem OwX.place {w : World} {base n c : Nat} {A : Option Addr} {xs : List S34} (h : OwX w base (.slice A n c) xs) : (∀ b o, A = some ⟨b, o, none⟩ → (Value.slice A n c).ownBlock = some b) ∧ (A = none ∨ ∃ b, A = some ⟨b, 0, none⟩) := by
  rcases h.2 with ⟨e1, _⟩ | ⟨b1, cap, cur, e1, -, -, -, -⟩
  · injection e1 with e1 _ _
    subst e1
    exact ⟨(fun b o e => by cases e), .inl rfl⟩
  · injection e1 with e1 _ _
    subst e1
    refine ⟨fun b o e => ?_, .inr ⟨b1, rfl⟩⟩
    injection e with e
    injection e with e _ _
    subst e
    rfl
structure Beside (w0 w : World) (F1 F2 : Nat → Prop) (g1 g2 : Nat) (bs : List Int) (L M : List S34) (v : Value) (xs : List S34) : Prop where
  t : TS w0 w F1 g1 bs L
  u : TS w0 w F2 g2 bs M
  d : ∀ i, F1 i → F2 i → False
  o : OwX w w0.heap.size v xs
  n : ∀ j, v.ownBlock = some j → ¬ F1 j ∧ ¬ F2 j
theorem Beside.quiet {w0 w w1 : World} {F1 F2 : Nat → Prop} {g1 g2 : Nat} {bs : List Int} {L M : List S34} {v : Value} {xs : List S34} (h : Beside w0 w F1 F2 g1 g2 bs L M v xs) (hb : Below w.heap.size w w1) : Beside w0 w1 F1 F2 g1 g2 bs L M v xs :=
  ⟨h.t.quiet hb, h.u.quiet hb, h.d, h.o.below hb, h.n⟩
end Go.Proofs.Ytfgabafbcephaaa.My

namespace Go.Proofs.Ytfgabafbcephaaa.My
open Go.RowKit Pa Go.Proofs.YtfgabafbcephaaaW.PrintWords
set_option linter.unusedSimpArgs false
theorem rtO_facts {w : World} {g : Nat} {bv iv : Value} (h : w.heap[g]? = some (rtO bv iv)) : w.cell? ⟨g, 0, none⟩ = some bv ∧ w.cell? ⟨g, 1, none⟩ = some iv ∧ g < w.heap.size :=
  ⟨(blk_cell h 0).trans rfl, (blk_cell h 1).trans rfl, blk_lt h⟩
theorem OwX.none0 {w : World} {base n c : Nat} {xs : List S34} (h : OwX w base (.slice none n c) xs) : c = 0 := by
  rcases h.2 with ⟨e1, _⟩ | ⟨b1, cap, cur, e1, -, -, -, -⟩
  · injection e1
  · injection e1 with e1 _ _
    cases e1
theorem low_at {v : Int} {L : List S34} (hs : Srt L) {k : Nat} (hk : k ≤ L.length) (h1 : ∀ y ∈ L.take k, y.f1 < v) (h2 : k < L.length → ¬ (L.getD k z34).f1 < v) : low v L = L.take k ∧ hig v L = L.drop k := by
  have e := List.take_append_drop k L
  have a2 : ∀ y ∈ L.drop k, ¬ y.f1 < v := fun y hy => by
    obtain ⟨i, hi, rfl⟩ := List.getElem_of_mem hy
    rw [List.length_drop] at hi
    rw [List.getElem_drop]
    have h3 := h2 (by omega)
    have e3 : L.getD k z34 = L[k]'(by omega) := by rw [List.getD_eq_getElem?_getD, List.getElem?_eq_getElem (by omega)]; rfl
    rw [e3] at h3
    by_cases h0 : i = 0
    · subst h0
      exact h3
    · have := ord_time (List.pairwise_iff_getElem.1 hs k (k + i) (by omega) (by omega) (by omega))
      omega
  constructor
  · unfold low
    conv => lhs; rw [← e]
    rw [List.filter_append, List.filter_eq_self.2 (fun y hy => decide_eq_true (h1 y hy)), List.filter_eq_nil_iff.2 (fun y hy h => a2 y hy (of_decide_eq_true h)), List.append_nil]
  · unfold hig
    conv => lhs; rw [← e]
    rw [List.filter_append, List.filter_eq_nil_iff.2 (fun y hy h => by rw [decide_eq_true (h1 y hy)] at h; cases h), List.filter_eq_self.2 (fun y hy => by rw [decide_eq_false (a2 y hy)]; rfl), List.nil_append]
set_option maxHeartbeats 16000000 in
set_option maxRecDepth 100000 in
theorem rtevict_raw {w : World} {r : Nat} {bv : Value} {L : List S34} {Av : Option Addr} {cv : Nat} (hr : w.heap[r]? = some (rtO bv (.slice Av L.length cv))) (ho : OwX w 0 (.slice Av L.length cv) L) (hs : Srt L) (hl : L.length ≤ 8192) (v : Int) :
    Calls Try.prog 41 #[.pointer (some ⟨r, 0, none⟩), .int .i64 v] w fun e w' => e = .returned (.int .i64 (low v L).length) ∧ ∃ iv, w'.heap[r]? = some (rtO bv iv) ∧ OwX w' w.heap.size iv (hig v L) ∧ Chg (fun i => i = r) w w' := by
  have HR := Lib.hid hr
  have HO := Lib.hid ho
  have HS := Lib.hid hs
  have hcv0 : Av = none → cv = 0 := fun e => by
    subst e
    exact ho.none0
  have HC0 := Lib.hid hcv0
  obtain ⟨Av2, cv2, hve, hcv, hrv⟩ := ho.reads
  injection hve with hv1 hv2 hv3
  subst hv1 hv3
  have HRV := Lib.hid (And.intro hcv hrv)
  clear hr ho hs hcv0 hcv hrv
  obtain ⟨q0, q1, ql⟩ := rtO_facts HR.out
  have hf := fun j => blk_free HR.out j
  go_enter Try.func41, Try.ntmps41
  go_wp2_with fail
  go_loopw [5] (fun i wr => ∃ k : Nat, i = .int .i64 k ∧ k ≤ L.length ∧ wr = w ∧ Rel (∀ y ∈ L.take k, y.f1 < v)) (fun i _ => L.length - (intOf i).toNat)
  case atStart => exact ⟨0, rfl, by omega, rfl, fun y hy => by rw [List.take_zero] at hy; cases hy⟩
  case round =>
    obtain ⟨k, rfl, hk, rfl, hrl⟩ := hrel
    have HL := Lib.hid hrl
    clear hrl
    by_cases hlt : k < L.length ∧ (L.getD k z34).f1 < v
    · obtain ⟨hk1, hk2⟩ := hlt
      have hd1 : decide (k < L.length) = true := decide_eq_true hk1
      obtain ⟨b, o, rfl, hbs, hcells⟩ := HRV.out.2 (by omega)
      obtain ⟨c0, c1, c2, c3⟩ := hcells k hk1
      unfold atX at c1
      have hd2 : decide ((L.getD k z34).f1 < v) = true := decide_eq_true hk2
      have HL2 := Lib.hid (show ∀ y ∈ L.take (k + 1), y.f1 < v from fun y hy => by
        rw [List.take_add_one, List.getElem?_eq_getElem hk1] at hy
        rcases List.mem_append.1 hy with hy | hy
        · exact HL.out y hy
        · have e : y = L[k] := by simpa using hy
          have e3 : L.getD k z34 = L[k] := by rw [List.getD_eq_getElem?_getD, List.getElem?_eq_getElem hk1]; rfl
          rw [e, ← e3]
          exact hk2)
      clear c0 c2 c3 hcells hk2
      generalize (L.getD k z34).f1 = tk at *
      go_wp2_with fail
      exact ⟨⟨k + 1, by go_num, by omega, trivial, HL2.out⟩, by simp [intOf]; omega⟩
    · have hend : low v L = L.take k ∧ hig v L = L.drop k := low_at HS.out hk HL.out (fun h1 h2 => hlt ⟨h1, h2⟩)
      have HE := Lib.hid hend
      have hcase : (decide (k < L.length) = false) ∨ (decide (k < L.length) = true ∧ k < L.length ∧ decide ((L.getD k z34).f1 < v) = false) := by
        by_cases h : k < L.length
        · exact .inr ⟨decide_eq_true h, h, decide_eq_false (fun h2 => hlt ⟨h, h2⟩)⟩
        · exact .inl (decide_eq_false h)
      obtain ⟨B5, hs5, hd5, hz5⟩ := xdrop_any Av L.length cv k hk
      have HD5 := Lib.hid (And.intro hd5 hz5)
      clear hend hlt hd5 hz5
      have hrd5 := HRV.out.2.drop5 (A5 := B5) k HRV.out.1 HD5.out.1
      have hb50 : B5 = none → cv - k = 0 := fun e => by
        rcases HO.out.place.2 with h | ⟨b0, h⟩
        · have := HC0.out h
          omega
        · obtain ⟨o', h1, -⟩ := HD5.out.1 b0 0 h
          rw [h1] at e
          cases e
      have hal : Below wr.heap.size wr (wr.alloc (.cells #[] 34)) := (Below.refl wr.heap.size wr).alloc (Nat.le_refl _) _
      have hra := hrd5.below hal
      have HRA := Lib.hid (And.intro hra (And.intro hb50 hal))
      clear hrd5 hb50 hal hra
      have hfin : ∀ (v1 : Value) (w4 : World), w4.ownsRow 0 34 4 v1 ([] ++ L.drop k).length (flatX ([] ++ L.drop k)) → (wr.alloc (.cells #[] 34)).grownBy w4 (some wr.heap.size) → (v1.ownBlock = some wr.heap.size ∨ v1.ownBlock = some (wr.alloc (.cells #[] 34)).heap.size) →
          w4.heap[r]? = some (rtO bv (.slice Av L.length cv)) ∧ OwX w4 wr.heap.size v1 (L.drop k) ∧ Below wr.heap.size wr w4 := fun v1 w4 h1 h2 h3 => by
        have hb4 := below_grown HRA.out.2.2 h2 HRA.out.2.2.size (fun j hj => by injection hj with hj; omega)
        refine ⟨blk_below HR.out hb4, ?_, hb4⟩
        rw [List.nil_append] at h1
        exact own_rebase h1 (fun j hj => by
          have := HRA.out.2.2.size
          rcases h3 with e | e
          · rw [hj] at e
            injection e with e
            omega
          · rw [hj] at e
            injection e with e
            omega)
      have HFIN := Lib.hid hfin
      clear hfin
      rcases hcase with hd1 | ⟨hd1, hk1, hd2⟩
      case' inr =>
        obtain ⟨b, o, rfl, hbs, hcells⟩ := HRV.out.2 (by omega)
        obtain ⟨c0, c1, c2, c3⟩ := hcells k hk1
        unfold atX at c1
        clear c0 c2 c3 hcells
        generalize (L.getD k z34).f1 = tk at *
      all_goals (
        go_wp2_with (at_builtin; refine at_append _ _ _ rfl ?_)
        refine xcat_any (.tmp 28) (.tmp 34) rfl rfl (ys := []) (xfresh_row wr) rfl B5 (L.drop k) (L.length - k) (cv - k) (by rw [List.length_drop]) rfl HRA.out.1 HRA.out.2.1 (by show (0 + (L.length - k)) * 32 ≤ _; omega) ?_
        rintro v1 w4 row1 hgr1 hat1
        obtain ⟨hr4, ho4, hb4⟩ := HFIN.out v1 w4 row1 hgr1 hat1
        obtain ⟨A9, c9, hv9, _⟩ := row_form ho4
        have H4 := Lib.hid (And.intro hr4 (And.intro ho4 hb4))
        clear row1 hgr1 hat1 hr4 ho4 hb4 q0 q1 ql hf
        obtain ⟨n9, hn9⟩ : ∃ n, n = (L.drop k).length := ⟨_, rfl⟩
        rw [← hn9] at hv9
        clear hn9
        subst hv9
        obtain ⟨q0, q1, ql⟩ := rtO_facts H4.out.1
        have hf := fun j => blk_free H4.out.1 j
        simp only [Act.put, List.setIfInBounds_toArray, List.set_cons_succ, List.set_cons_zero]
        go_wp2_with fail
        go_ret
        have hc4 : Chg (fun i => i = r) w4 (w4.setCell ⟨r, 1, none⟩ (.slice A9 n9 c9)) := (Chg.refl (fun i => i = r) w4).setCell (p := ⟨r, 1, none⟩) (.inl rfl) _
        have hb4 := blk_set H4.out.1 1 (.slice A9 n9 c9)
        simp only [List.setIfInBounds_toArray, List.set_cons_zero, List.set_cons_succ] at hb4
        refine ⟨by rw [HE.out.1, List.length_take, Nat.min_eq_left hk]; rfl, _, hb4, ?_, (Chg.of_below H4.out.2.2).then_ hc4⟩
        rw [HE.out.2]
        exact H4.out.2.1.keep hc4 (fun j hj e => row_noq H4.out.2.1 H4.out.1 (by decide) (by rw [hj, show j = r from e])))
theorem RT.put {w0 w w' : World} {R : Nat → Prop} {r : Nat} {bs : List Int} {L M : List S34} (h : RT w0 w R r bs L) {bv iv iv' : Value} (h1 : w.heap[r]? = some (rtO bv iv)) (h2 : Own w w0.heap.size bv bs) (h4 : R r) (h5 : ∀ k, bv.ownBlock = some k → R k)
    (k1 : w'.heap[r]? = some (rtO bv iv')) (k2 : OwX w' w.heap.size iv' M) (hc : Chg (fun i => i = r) w w') : ∃ R', RT w0 w' R' r bs M ∧ (∀ i, R' i → R i ∨ w.heap.size ≤ i) ∧ Chg R w w' := by
  have hs := h.bel.size
  refine ⟨fun i => (R i ∨ w.heap.size ≤ i) ∧ i < w'.heap.size, ⟨⟨bv, iv', k1, h2.keep hc (fun k hk e => row_noq h2 h1 (by decide) (by rw [hk, show k = r from e])), own_weaken k2 hs, ⟨.inl h4, blk_lt k1⟩, fun k hk => ⟨.inl (h5 k hk), Nat.lt_of_lt_of_le (own_lt h2 k hk) hc.size⟩, fun k hk => ⟨.inr (own_base k2 k hk), own_lt k2 k hk⟩⟩, fun i hi => ⟨?_, hi.2⟩, Chg.base h.bel hc hs (fun i hi => by rw [show i = r from hi]; exact (h.new r h4).1)⟩, fun i hi => hi.1, hc.mono (fun i _ hi => by rw [show i = r from hi]; exact h4)⟩
  rcases hi.1 with hi | hi
  · exact (h.new i hi).1
  · omega
theorem rtevict_any {w0 w : World} {R : Nat → Prop} {r : Nat} {bs : List Int} {L : List S34} (h : RT w0 w R r bs L) (hs : Srt L) (hl : L.length ≤ 8192) (v : Int) :
    Calls Try.prog 41 #[.pointer (some ⟨r, 0, none⟩), .int .i64 v] w fun e w' => e = .returned (.int .i64 (low v L).length) ∧ ∃ R', RT w0 w' R' r bs (hig v L) ∧ (∀ i, R' i → R i ∨ w.heap.size ≤ i) ∧ Chg R w w' := by
  obtain ⟨bv, iv, h1, h2, h3, h4, h5, h6⟩ := h.st
  obtain ⟨Av, cv, rfl, _⟩ := row_form h3
  refine (rtevict_raw h1 (own_weaken h3 (Nat.zero_le _)) hs hl v).mono fun e w' hh => ?_
  obtain ⟨he, iv', k1, k2, k3⟩ := hh
  exact ⟨he, h.put h1 h2 h4 h5 k1 k2 k3⟩
end Go.Proofs.Ytfgabafbcephaaa.My
