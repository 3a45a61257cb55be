/- Two together, as the document tells it, walked. No statement of the seed is proved here. -/
import Derived.Test.YtggaefklcpbfnaaAccG
import Derived.Test.YtggaefklcpbfnaaWMore
import Derived.Test.YtggaefklcpbfnaaPaBefore
namespace Go.Proofs.Ytggaefklcpbfnaa.My
open Go.RowKit Pa Go.Proofs.YtggaefklcpbfnaaW.PrintWords Go.Proofs.YtggaefklcpbfnaaW.PrintMore
attribute [local go_sem high] eqA26
attribute [local go_sem] max2_int min2_int max_two min_two

/-- By the stamp. -/
def bef (a b : S26) : Bool := decide (a.f1 < b.f1) || (decide (a.f1 = b.f1) && decide (a.f2 < b.f2))
theorem bef_f (a b : S26) : bourneref1_Before.f a.f0 a.f1 a.f2 a.f3 b.f0 b.f1 b.f2 b.f3 = some (bef a b) := by
  unfold bourneref1_Before.f bef
  by_cases h1 : a.f1 < b.f1
  · simp [h1]
  · by_cases h2 : a.f1 = b.f1 <;> simp [h1, h2]
theorem bef_any (a b : S26) (w : World) :
    Calls Try.prog 59 #[.agg #[.int .i64 a.f0, .int .i64 a.f1, .int .i64 a.f2, .int .i64 a.f3], .agg #[.int .i64 b.f0, .int .i64 b.f1, .int .i64 b.f2, .int .i64 b.f3]] w fun e w' => e = .returned (.bool (bef a b)) ∧ Below w.heap.size w w' :=
  bourneref1_Before.calls _ _ _ _ _ _ _ _ _ w (bef_f a b)
def tw0 (a b : S28) : S28 := ⟨a.f0 + b.f0, a.f1 + b.f1, if b.f2 < a.f2 then b.f2 else a.f2, if a.f3 < b.f3 then b.f3 else a.f3, a.f4, b.f5, []⟩
def tw1 (a b : S28) : S28 := if bef b.f4 a.f4 = true then ⟨(tw0 a b).f0, (tw0 a b).f1, (tw0 a b).f2, (tw0 a b).f3, b.f4, b.f5, []⟩ else tw0 a b
def tw2 (a b : S28) : S28 := if bef b.f5 a.f5 = true then ⟨(tw1 a b).f0, (tw1 a b).f1, (tw1 a b).f2, (tw1 a b).f3, (tw1 a b).f4, a.f5, []⟩ else tw1 a b
def tw3 (o : S28) (h : List Int) : S28 := ⟨o.f0, o.f1, o.f2, o.f3, o.f4, o.f5, h⟩
/-- Both together, as the document tells it. -/
def twoA (a b : S28) : S28 := tw3 (tw2 a b) (hadd a.f6 b.f6)
/-- Where no sum wraps. -/
structure TwoOk (a b : S28) : Prop where
  c1 : -1000000 ≤ a.f0 ∧ a.f0 ≤ 1000000
  c2 : -1000000 ≤ b.f0 ∧ b.f0 ≤ 1000000
  s1 : -1152921504606846976 ≤ a.f1 ∧ a.f1 ≤ 1152921504606846976
  s2 : -1152921504606846976 ≤ b.f1 ∧ b.f1 ≤ 1152921504606846976
  len : b.f6.length = a.f6.length
  l9 : a.f6.length ≤ 9
  h1 : ∀ i, i < a.f6.length → -1000000 ≤ a.f6.getD i 0 ∧ a.f6.getD i 0 ≤ 1000000
  h2 : ∀ i, i < a.f6.length → -1000000 ≤ b.f6.getD i 0 ∧ b.f6.getD i 0 ≤ 1000000
instance (a b : S28) : Decidable (TwoOk a b) :=
  decidable_of_iff ((-1000000 ≤ a.f0 ∧ a.f0 ≤ 1000000) ∧ (-1000000 ≤ b.f0 ∧ b.f0 ≤ 1000000) ∧ (-1152921504606846976 ≤ a.f1 ∧ a.f1 ≤ 1152921504606846976) ∧ (-1152921504606846976 ≤ b.f1 ∧ b.f1 ≤ 1152921504606846976) ∧ b.f6.length = a.f6.length ∧ a.f6.length ≤ 9 ∧ (∀ i, i < a.f6.length → -1000000 ≤ a.f6.getD i 0 ∧ a.f6.getD i 0 ≤ 1000000) ∧ (∀ i, i < a.f6.length → -1000000 ≤ b.f6.getD i 0 ∧ b.f6.getD i 0 ≤ 1000000))
    ⟨fun ⟨h1, h2, h3, h4, h5, h6, h7, h8⟩ => ⟨h1, h2, h3, h4, h5, h6, h7, h8⟩, fun ⟨h1, h2, h3, h4, h5, h6, h7, h8⟩ => ⟨h1, h2, h3, h4, h5, h6, h7, h8⟩⟩
theorem tw_f6 (a b : S28) : (tw2 a b).f6 = [] := by unfold tw2; split <;> (try unfold tw1) <;> (try split) <;> rfl
theorem hadd_take {h n : List Int} (hl : n.length = h.length) {k : Nat} (hk : k < h.length) : (hadd h n).take (k + 1) = (hadd h n).take k ++ [h.getD k 0 + n.getD k 0] := by
  have hlen : (hadd h n).length = h.length := by unfold hadd; rw [List.length_zipWith]; omega
  rw [List.take_succ_eq_append_getElem (by omega)]
  congr 2
  unfold hadd
  simp [List.getD_eq_getElem?_getD, List.getElem?_eq_getElem hk, List.getElem?_eq_getElem (show k < n.length by omega)]

/-- append of some cells that lie in memory, to a row of one's own: at the operation. -/
theorem wp_append {P : Program} {o : Oper} {a : Act} {w : World} {K : Act → World → Prop} {Q : Exit → Act → World → Prop} (s x : Operand) (t e : TypeId) (z : Value) (size bytes base : Nat)
    (ho : o.op = .call { callee := .builtin .append, args := #[s, x], argTypes := #[t, t] })
    (ht : P.underlying t = some (.slice e)) (hinfo : (P.info? e).map (fun i => (i.zero, i.size, i.bytes)) = some (some z, size, bytes)) (hz : z.cells.size = size) (hsz : 0 < size)
    (v : Value) (n m : Nat) (xs news : List Value) (g c : Nat) (hs : a.eval s = v) (hx : a.eval x = .slice (some ⟨g, 0, none⟩) m c)
    (hown : w.ownsRow base e size v n xs) (hbase : base ≤ w.heap.size) (hl : news.length = m * size) (hnews : ∀ j u, news[j]? = some u → w.cell? ⟨g, j, none⟩ = some u) (h1 : ∀ u ∈ news, u.oneCell' = true) (hb : (n + m) * bytes ≤ 140737488355328) (h63 : n + m ≤ 9223372036854775807)
    (h : ∀ v1 w1, w1.ownsRow base e size v1 (n + m) (xs ++ news) → w.grownBy w1 v.ownBlock → (v1.ownBlock = v.ownBlock ∨ v1.ownBlock = some w.heap.size) → K (a.put o.dst v1) w1) : o.wp P a w K Q := by
  obtain ⟨i0, hi, hzz⟩ := Option.map_eq_some_iff.1 hinfo
  simp only [Prod.mk.injEq] at hzz
  obtain ⟨hz0, hz1, hz2⟩ := hzz
  have ha : ∀ j, (⟨g, 0, none⟩ : Addr).add j = ⟨g, j, none⟩ := fun j => by unfold Addr.add; split <;> simp_all
  obtain ⟨v1, w1, hr, h2, h3, _, h5⟩ := run_append_own_at (P := P) w base t o.type e i0 z size bytes ht hi hz0 hz1 hz2 hz hsz v n xs hown ⟨g, 0, none⟩ m c news hl (fun j u hu => by rw [ha]; exact hnews j u hu) h1 (by simp only [maxLen]; omega) hb hbase
  unfold Oper.wp execOp
  simp only [ho, resolve, invoke, builtin, Sem.run_bind, Sem.run_pure, Result.andThen_ok, List.map_toArray, List.map_cons, List.map_nil, hs, hx, hr]
  exact h v1 w1 h2 h3 h5

/-- What is built up: its block, its own row. -/
structure TwAt (w0 w : World) (g : Nat) (o : S28) (h : List Int) (v : Value) : Prop where
  blk : w.heap[g]? = some (acO (tw3 o h) v)
  row : Own w w0.heap.size v h
  bel : Below w0.heap.size w0 w
/-- What came in, in its variables. -/
structure TwIn (w : World) (g : Nat) (a b : S28) (Aa : Option Addr) (ca : Nat) (Ab : Option Addr) (cb : Nat) : Prop where
  ga : w.heap[g]? = some (acO a (.slice Aa a.f6.length ca))
  gb : w.heap[g + 1]? = some (acO b (.slice Ab b.f6.length cb))
  go : w.heap[g + 2]? = some (acO z28 (.slice none 0 0))
theorem own_no {w : World} {base g : Nat} {v u : Value} {h : List Int} {a : S28} (ho : Own w base v h) (hg : w.heap[g]? = some (acO a u)) : ¬ some g = v.ownBlock := by
  rcases ho.2 with ⟨e, _⟩ | ⟨b, cap, cur, e, _, hh, _⟩
  · rw [e]
    intro h
    cases h
  · rw [e]
    intro h
    have e2 : some g = some b := h
    injection e2 with e2
    rw [e2, hh] at hg
    unfold acO at hg
    injection hg with hg
    injection hg with _ ht
    exact absurd ht (by decide)
theorem TwAt.below {w0 w w1 : World} {g : Nat} {o : S28} {h : List Int} {v : Value} (t : TwAt w0 w g o h v) (hb : Below w.heap.size w w1) : TwAt w0 w1 g o h v := ⟨blk_below t.blk hb, t.row.below hb, t.bel.trans (hb.mono t.bel.size)⟩
theorem TwIn.below {w w1 : World} {g : Nat} {a b : S28} {Aa : Option Addr} {ca : Nat} {Ab : Option Addr} {cb : Nat} (t : TwIn w g a b Aa ca Ab cb) (hb : Below w.heap.size w w1) : TwIn w1 g a b Aa ca Ab cb := ⟨blk_below t.ga hb, blk_below t.gb hb, blk_below t.go hb⟩
theorem TwIn.chg {S : Nat → Prop} {w w1 : World} {g : Nat} {a b : S28} {Aa : Option Addr} {ca : Nat} {Ab : Option Addr} {cb : Nat} (t : TwIn w g a b Aa ca Ab cb) (hc : Chg S w w1) (h0 : ¬ S g) (h1 : ¬ S (g + 1)) (h2 : ¬ S (g + 2)) : TwIn w1 g a b Aa ca Ab cb := ⟨hc.obj t.ga h0, hc.obj t.gb h1, hc.obj t.go h2⟩
set_option maxHeartbeats 8000000 in
set_option maxRecDepth 100000 in
theorem two_any (a b : S28) (Aa : Option Addr) (ca : Nat) (Ab : Option Addr) (cb : Nat) (w : World) (ha : RdI w Aa a.f6) (hb : RdI w Ab b.f6) (hk : TwoOk a b) :
    Calls Try.prog 53 #[acV a (.slice Aa a.f6.length ca), acV b (.slice Ab b.f6.length cb)] w fun e w' => ∃ v, e = .returned (acV (twoA a b) v) ∧ Own w' w.heap.size v (twoA a b).f6 ∧ Below w.heap.size w w' := by
  have HA := Lib.hid ha
  have HBB := Lib.hid hb
  have HK := Lib.hid hk
  clear ha hb hk
  obtain ⟨w3, hw3⟩ : ∃ w3, w3 = ((w.alloc (acO a (.slice Aa a.f6.length ca))).alloc (acO b (.slice Ab b.f6.length cb))).alloc (acO z28 (.slice none 0 0)) := ⟨_, rfl⟩
  have hB : Below w.heap.size w w3 := by rw [hw3]; exact (((Below.refl w.heap.size w).alloc (Nat.le_refl _) _).alloc (by simp) _).alloc (by simp; omega) _
  have hga : w3.heap[w.heap.size]? = some (acO a (.slice Aa a.f6.length ca)) := by rw [hw3]; exact blk_below (heap_alloc_new w _) (((Below.refl _ _).alloc (Nat.le_refl _) _).alloc (by simp) _)
  have hgb : w3.heap[w.heap.size + 1]? = some (acO b (.slice Ab b.f6.length cb)) := by
    rw [hw3]
    have := blk_below (heap_alloc_new (w.alloc (acO a (.slice Aa a.f6.length ca))) (acO b (.slice Ab b.f6.length cb))) ((Below.refl _ _).alloc (Nat.le_refl _) (acO z28 (.slice none 0 0)))
    simpa using this
  have hgo : w3.heap[w.heap.size + 2]? = some (acO z28 (.slice none 0 0)) := by
    rw [hw3]
    have := heap_alloc_new ((w.alloc (acO a (.slice Aa a.f6.length ca))).alloc (acO b (.slice Ab b.f6.length cb))) (acO z28 (.slice none 0 0))
    simpa using this
  have hs3 : w3.heap.size = w.heap.size + 3 := by rw [hw3]; simp
  have HB := Lib.hid hB
  have HGA := Lib.hid hga
  have HGB := Lib.hid hgb
  have HGO := Lib.hid hgo
  have HS := Lib.hid hs3
  have HW3 := Lib.hid hw3
  clear hB hga hgb hgo hs3 hw3
  obtain ⟨hc1, hc2⟩ := HK.out.c1
  obtain ⟨hc3, hc4⟩ := HK.out.c2
  obtain ⟨hs1, hs2⟩ := HK.out.s1
  obtain ⟨hs5, hs6⟩ := HK.out.s2
  obtain ⟨m2, hm2⟩ : ∃ m, (if b.f2 < a.f2 then b.f2 else a.f2) = m := ⟨_, rfl⟩
  obtain ⟨m3, hm3⟩ : ∃ m, (if a.f3 < b.f3 then b.f3 else a.f3) = m := ⟨_, rfl⟩
  have H0 := Lib.hid (show tw0 a b = ⟨a.f0 + b.f0, a.f1 + b.f1, m2, m3, a.f4, b.f5, []⟩ by unfold tw0; rw [hm2, hm3])
  unfold acV
  go_enter Try.func53, Try.ntmps53
  go_wp2_with fail
  show Calls _ _ _ (((((w.alloc (acO a (.slice Aa a.f6.length ca))).alloc (acO b (.slice Ab b.f6.length cb))).alloc (acO z28 (.slice none 0 0)))).alloc (acO ⟨a.f0 + b.f0, a.f1 + b.f1, m2, m3, a.f4, b.f5, []⟩ (.slice none 0 0))) _
  rw [← H0.out, ← HW3.out]
  clear hc1 hc2 hc3 hc4 hs1 hs2 hs5 hs6 hm2 hm3 HW3
  have hb4 : Below w3.heap.size w3 (w3.alloc (acO (tw0 a b) (.slice none 0 0))) := (Below.refl _ _).alloc (Nat.le_refl _) _
  have HC4 := Lib.hid (show (w3.alloc (acO (tw0 a b) (.slice none 0 0))).heap[w.heap.size + 3]? = some (acO (tw0 a b) (.slice none 0 0)) by rw [← HS.out]; exact heap_alloc_new w3 _)
  have HGA4 := Lib.hid (blk_below HGA.out hb4)
  have HGB4 := Lib.hid (blk_below HGB.out hb4)
  have HGO4 := Lib.hid (blk_below HGO.out hb4)
  have HB4 := Lib.hid (HB.out.trans (hb4.mono HB.out.size))
  clear hb4 HGA HGB HGO HB HS
  generalize w3.alloc (acO (tw0 a b) (.slice none 0 0)) = w4 at *
  refine (bef_any b.f4 a.f4 _).mono ?_
  rintro e w5 ⟨rfl, hb⟩
  have HC5 := Lib.hid (blk_below HC4.out hb)
  have HGA5 := Lib.hid (blk_below HGA4.out hb)
  have HGB5 := Lib.hid (blk_below HGB4.out hb)
  have HGO5 := Lib.hid (blk_below HGO4.out hb)
  have HB5 := Lib.hid (HB4.out.trans (hb.mono HB4.out.size))
  clear hb HC4 HGA4 HGB4 HGO4 HB4
  obtain ⟨c0, c1, c2, c3, c4, c5, c6, c7, c8, c9, c10, c11, c12, cl⟩ := acO_facts HC5.out
  obtain ⟨a0, a1, a2, a3, a4, a5, a6, a7, a8, a9, a10, a11, a12, al⟩ := acO_facts HGA5.out
  obtain ⟨b0, b1, b2, b3, b4, b5, b6, b7, b8, b9, b10, b11, b12, bl⟩ := acO_facts HGB5.out
  have hf := fun j => blk_free HC5.out j
  have htw1 : tw1 a b = if bef b.f4 a.f4 = true then ⟨(tw0 a b).f0, (tw0 a b).f1, (tw0 a b).f2, (tw0 a b).f3, b.f4, b.f5, []⟩ else tw0 a b := rfl
  have H1 := Lib.hid htw1
  clear htw1
  generalize bef b.f4 a.f4 = q1 at *
  cases q1
  focus
    have h9 := H1.out
    rw [if_neg (by decide)] at h9
    rw [← h9] at HC5
    clear H1 h9
    go_wp2_with fail
    clear a0 a1 a2 a3 a4 a5 a6 a7 a8 a9 a10 a11 a12 al b0 b1 b2 b3 b4 b5 b6 b7 b8 b9 b10 b11 b12 bl c0 c1 c2 c3 c4 c5 c6 c7 c8 c9 c10 c11 c12 cl hf
    have HC6 := Lib.hid HC5.out
    have HGA6 := Lib.hid HGA5.out
    have HGB6 := Lib.hid HGB5.out
    have HGO6 := Lib.hid HGO5.out
    have HB6 := Lib.hid HB5.out
    clear HC5 HGA5 HGB5 HGO5 HB5
    generalize w5 = w6 at *
  rotate_left 1
  focus
    have h9 := H1.out
    rw [if_pos rfl] at h9
    have H9 := Lib.hid h9
    clear H1 h9
    go_wp2_with fail
    show Calls _ _ _ (put4c w5 (w.heap.size + 3) 4 b.f4) _
    have hbk := blk_put4 HC5.out 4 b.f4
    simp only [List.setIfInBounds_toArray, List.set_cons_zero, List.set_cons_succ] at hbk
    have hch := put4c_chg (Chg.refl (fun k => k = w.heap.size + 3) w5) 4 b.f4
    have HC6 := Lib.hid (show (put4c w5 (w.heap.size + 3) 4 b.f4).heap[w.heap.size + 3]? = some (acO (tw1 a b) (.slice none 0 0)) by rw [H9.out]; exact hbk)
    have HGA6 := Lib.hid (hch.obj HGA5.out (by omega))
    have HGB6 := Lib.hid (hch.obj HGB5.out (by omega))
    have HGO6 := Lib.hid (hch.obj HGO5.out (by omega))
    have HB6 := Lib.hid (Chg.base HB5.out hch HB5.out.size (fun i hi => by omega))
    clear hbk hch a0 a1 a2 a3 a4 a5 a6 a7 a8 a9 a10 a11 a12 al b0 b1 b2 b3 b4 b5 b6 b7 b8 b9 b10 b11 b12 bl c0 c1 c2 c3 c4 c5 c6 c7 c8 c9 c10 c11 c12 cl hf H9 HC5 HGA5 HGB5 HGO5 HB5
    generalize put4c w5 (w.heap.size + 3) 4 b.f4 = w6 at *
  all_goals
    refine (bef_any b.f5 a.f5 _).mono ?_
    rintro e w7 ⟨rfl, hb⟩
    have HC7 := Lib.hid (blk_below HC6.out hb)
    have HGA7 := Lib.hid (blk_below HGA6.out hb)
    have HGB7 := Lib.hid (blk_below HGB6.out hb)
    have HGO7 := Lib.hid (blk_below HGO6.out hb)
    have HB7 := Lib.hid (HB6.out.trans (hb.mono HB6.out.size))
    clear hb HC6 HGA6 HGB6 HGO6 HB6
    obtain ⟨c0, c1, c2, c3, c4, c5, c6, c7, c8, c9, c10, c11, c12, cl⟩ := acO_facts HC7.out
    obtain ⟨a0, a1, a2, a3, a4, a5, a6, a7, a8, a9, a10, a11, a12, al⟩ := acO_facts HGA7.out
    have hf := fun j => blk_free HC7.out j
    have htw2 : tw2 a b = if bef b.f5 a.f5 = true then ⟨(tw1 a b).f0, (tw1 a b).f1, (tw1 a b).f2, (tw1 a b).f3, (tw1 a b).f4, a.f5, []⟩ else tw1 a b := rfl
    have H2 := Lib.hid htw2
    clear htw2
    generalize bef b.f5 a.f5 = q2 at *
    cases q2
    focus
      have h9 := H2.out
      rw [if_neg (by decide)] at h9
      rw [← h9] at HC7
      clear H2 h9
      go_wp2_with fail
      clear a0 a1 a2 a3 a4 a5 a6 a7 a8 a9 a10 a11 a12 al c0 c1 c2 c3 c4 c5 c6 c7 c8 c9 c10 c11 c12 cl hf
      have HC8 := Lib.hid HC7.out
      have HGA8 := Lib.hid HGA7.out
      have HGB8 := Lib.hid HGB7.out
      have HGO8 := Lib.hid HGO7.out
      have HB8 := Lib.hid HB7.out
      clear HC7 HGA7 HGB7 HGO7 HB7
      generalize w7 = w8 at *
    rotate_left 1
    focus
      have h9 := H2.out
      rw [if_pos rfl] at h9
      have H9 := Lib.hid h9
      clear H2 h9
      go_wp2_with fail
      show Code.wp _ _ _ _ (put4c w7 (w.heap.size + 3) 8 a.f5)
      have hbk := blk_put4 HC7.out 8 a.f5
      simp only [List.setIfInBounds_toArray, List.set_cons_zero, List.set_cons_succ] at hbk
      have hch := put4c_chg (Chg.refl (fun k => k = w.heap.size + 3) w7) 8 a.f5
      have HC8 := Lib.hid (show (put4c w7 (w.heap.size + 3) 8 a.f5).heap[w.heap.size + 3]? = some (acO (tw2 a b) (.slice none 0 0)) by rw [H9.out]; exact hbk)
      have HGA8 := Lib.hid (hch.obj HGA7.out (by omega))
      have HGB8 := Lib.hid (hch.obj HGB7.out (by omega))
      have HGO8 := Lib.hid (hch.obj HGO7.out (by omega))
      have HB8 := Lib.hid (Chg.base HB7.out hch HB7.out.size (fun i hi => by omega))
      clear hbk hch a0 a1 a2 a3 a4 a5 a6 a7 a8 a9 a10 a11 a12 al c0 c1 c2 c3 c4 c5 c6 c7 c8 c9 c10 c11 c12 cl hf H9 HC7 HGA7 HGB7 HGO7 HB7
      generalize put4c w7 (w.heap.size + 3) 8 a.f5 = w8 at *
    all_goals
      go_loopw [6] (fun s wr => ∃ (k : Nat) (v : Value), s = .int .i64 k ∧ k ≤ a.f6.length ∧ TwAt w wr (w.heap.size + 3) (tw2 a b) ((hadd a.f6 b.f6).take k) v ∧ TwIn wr w.heap.size a b Aa ca Ab cb) (fun s _ => a.f6.length - (intOf s).toNat)
      case atStart =>
        refine ⟨0, .slice none 0 0, rfl, by omega, ⟨?_, Own.nil _ _, HB8.out⟩, HGA8.out, HGB8.out, HGO8.out⟩
        rw [HC8.out]
        congr 2
        unfold tw3
        have := tw_f6 a b
        cases htw : tw2 a b
        rw [htw] at this
        simp only at this
        subst this
        rfl
      case round =>
        obtain ⟨k, v, rfl, hk, ht, hin⟩ := hrel
        have HT := Lib.hid ht
        have HIN := Lib.hid hin
        have hl := HK.out.len
        have hl9 := HK.out.l9
        have HL := Lib.hid hl
        clear ht hin hl
        have hgl := blk_lt HT.out.blk
        obtain ⟨c0, c1, c2, c3, c4, c5, c6, c7, c8, c9, c10, c11, c12, cl⟩ := acO_facts HT.out.blk
        obtain ⟨a0, a1, a2, a3, a4, a5, a6, a7, a8, a9, a10, a11, a12, al⟩ := acO_facts HIN.out.ga
        obtain ⟨b0, b1, b2, b3, b4, b5, b6, b7, b8, b9, b10, b11, b12, bl⟩ := acO_facts HIN.out.gb
        obtain ⟨z0, z1, z2, z3, z4, z5, z6, z7, z8, z9, z10, z11, z12, zl⟩ := acO_facts HIN.out.go
        clear c0 c1 c2 c3 c4 c5 c6 c7 c8 c9 c10 c11 a0 a1 a2 a3 a4 a5 a6 a7 a8 a9 a10 a11 b0 b1 b2 b3 b4 b5 b6 b7 b8 b9 b10 b11
        by_cases hlt : k < a.f6.length
        · clear z0 z1 z2 z3 z4 z5 z6 z7 z8 z9 z10 z11 z12 zl
          obtain ⟨ada, rfl, ea⟩ := ((HA.out).below HT.out.bel).at_ hlt
          have hltb : k < b.f6.length := by have := HL.out; omega
          obtain ⟨adb, rfl, eb⟩ := ((HBB.out).below HT.out.bel).at_ hltb
          obtain ⟨n1, n2⟩ := HK.out.h1 k hlt
          obtain ⟨n3, n4⟩ := HK.out.h2 k hlt
          have hsn := hadd_take HL.out hlt
          obtain ⟨na, hna⟩ : ∃ n, a.f6.getD k 0 = n := ⟨_, rfl⟩
          obtain ⟨nb, hnb⟩ : ∃ n, b.f6.getD k 0 = n := ⟨_, rfl⟩
          rw [hna] at ea n1 n2 hsn
          rw [hnb] at eb n3 n4 hsn
          have HSN := Lib.hid hsn
          clear hsn hna hnb
          have hda : decide (k < a.f6.length) = true := decide_eq_true hlt
          have hdb : decide (k < b.f6.length) = true := decide_eq_true hltb
          go_wp2_with fail
          refine Txt.wp_region_mix (by kernel_rfl) (by kernel_rfl) (fun HB => ?_)
          repeat (first
            | (refine Txt.mix_p (by rfl) rfl rfl (fun K hK => ?_); go_big_quiet_op; refine hK _ ?_; clear hK K)
            | (refine Txt.mix_re (by rfl) (by decide +kernel) (by rfl) (by rfl) (by go_simp) HB (fun K hK => ?_); go_big_quiet_op; refine hK _ ?_; clear hK K)
            | (refine Txt.mix_rl (by rfl) (by decide +kernel) (by rfl) (by rfl) (by go_simp) HB (fun K hK => ?_); go_big_quiet_op; refine hK _ ?_; clear hK K)
            | (refine Txt.mix_pass (by rfl) (by rfl) ?_; simp only [List.set_cons_succ, List.set_cons_zero]))
          refine Txt.mix_m (fun g => .slice (some ⟨g, 0, none⟩) 1 1) (.cells #[.int .i64 (na + nb)] 3) (by rfl) (by decide +kernel) (fun w1 => by go_simp) HB ?_
          intro gn wn hbn hgn hon
          replace HB := HB.trans hbn
          simp only [Act.put, List.setIfInBounds_toArray, List.set_cons_succ, List.set_cons_zero]
          have HT2 := Lib.hid (HT.out.below HB.undrew)
          have HIN2 := Lib.hid (HIN.out.below HB.undrew)
          have HON := Lib.hid hon
          clear hon hgn hbn HT HIN c12 cl a12 al b12 bl ea eb hda hdb hgl
          have hlk : ((hadd a.f6 b.f6).take k).length = k := by
            rw [List.length_take]
            have : (hadd a.f6 b.f6).length = a.f6.length := by unfold hadd; rw [List.length_zipWith]; have := HL.out; omega
            omega
          have HLK := Lib.hid hlk
          clear hlk
          refine Txt.mix_a (by rfl) (by decide +kernel) (fun K hK => ?_)
          refine wp_append (.tmp 56) (.tmp 68) 22 3 (.int .i64 0) 1 8 w.heap.size rfl Try.underlying22 info_int rfl (by decide) v k 1 (((hadd a.f6 b.f6).take k).map (Value.int .i64)) [.int .i64 (na + nb)] gn 1 rfl rfl (by have := HT2.out.row; unfold Own at this; rw [HLK.out] at this; exact this) HT2.out.bel.size rfl ?_ ?_ (by omega) (by omega) ?_
          · intro j u hu
            rw [blk_cell HON.out]
            exact (List.getElem?_toArray).trans hu
          · intro u hu
            simp only [List.mem_cons, List.not_mem_nil, or_false] at hu
            subst hu
            rfl
          intro v1 w1 hown hgr hat
          refine hK _ _ ?_
          clear hK K
          simp only [Act.put, List.setIfInBounds_toArray, List.set_cons_succ, List.set_cons_zero]
          have hch : Chg (fun i => some i = v.ownBlock) wn w1 := (Chg.refl _ wn).grown hgr (fun j hj => .inl hj.symm)
          have hblk := hch.obj HT2.out.blk (own_no HT2.out.row HT2.out.blk)
          have HIN3 := Lib.hid (HIN2.out.chg hch (own_no HT2.out.row HIN2.out.ga) (own_no HT2.out.row HIN2.out.gb) (own_no HT2.out.row HIN2.out.go))
          have hrow : Own w1 w.heap.size v1 ((hadd a.f6 b.f6).take (k + 1)) := by
            rw [HSN.out]
            unfold Own
            rw [List.length_append, HLK.out, List.map_append]
            exact hown
          obtain ⟨Ar, cr, rfl, _, _⟩ := hrow.reads
          obtain ⟨lr, hlr⟩ : ∃ n, ((hadd a.f6 b.f6).take (k + 1)).length = n := ⟨_, rfl⟩
          rw [hlr] at hrow hown ⊢
          clear hlr
          have hb1 := Chg.base HT2.out.bel hch HT2.out.bel.size (fun i hi => own_base HT2.out.row i hi.symm)
          have HROW := Lib.hid hrow
          have HB1 := Lib.hid hb1
          have HBLK := Lib.hid hblk
          have hc12 := (acO_facts hblk).2.2.2.2.2.2.2.2.2.2.2.2.1
          have hf := fun j => blk_free hblk j
          clear hown hgr hat hch hrow hb1 HT2 HIN2 HON hblk HB
          repeat (first
            | (refine Txt.mix_p (by rfl) rfl rfl (fun K hK => ?_); go_big_quiet_op; refine hK _ ?_; clear hK K)
            | (refine Txt.mix_re (by rfl) (by decide +kernel) (by rfl) (by rfl) (by go_simp) HB (fun K hK => ?_); go_big_quiet_op; refine hK _ ?_; clear hK K)
            | (refine Txt.mix_rl (by rfl) (by decide +kernel) (by rfl) (by rfl) (by go_simp) HB (fun K hK => ?_); go_big_quiet_op; refine hK _ ?_; clear hK K)
            | (refine Txt.mix_pass (by rfl) (by rfl) ?_; simp only [List.set_cons_succ, List.set_cons_zero]))
          refine Txt.mix_a (by rfl) (by decide +kernel) (fun K hK => ?_)
          go_wp2_with fail
          refine Txt.mix_nil ?_
          have hc2 := (Chg.refl (fun i => i = w.heap.size + 3) w1).setCell (p := ⟨w.heap.size + 3, 12, none⟩) (.inl rfl) (.slice Ar lr cr)
          have hbl2 : (w1.setCell ⟨w.heap.size + 3, 12, none⟩ (.slice Ar lr cr)).heap[w.heap.size + 3]? = some (acO (tw3 (tw2 a b) ((hadd a.f6 b.f6).take (k + 1))) (.slice Ar lr cr)) := by
            have := blk_set HBLK.out 12 (.slice Ar lr cr)
            simp only [List.setIfInBounds_toArray, List.set_cons_zero, List.set_cons_succ] at this
            exact this
          have HT4 := Lib.hid (show TwAt w (w1.setCell ⟨w.heap.size + 3, 12, none⟩ (.slice Ar lr cr)) (w.heap.size + 3) (tw2 a b) ((hadd a.f6 b.f6).take (k + 1)) (.slice Ar lr cr) from ⟨hbl2, HROW.out.keep hc2 (fun j hj e => own_no HROW.out HBLK.out (by rw [hj, e])), Chg.base HB1.out hc2 HB1.out.size (fun i hi => by omega)⟩)
          have HIN4 := Lib.hid (HIN3.out.chg hc2 (by omega) (by omega) (by omega))
          clear hc2 hbl2 HROW HB1 HBLK HIN3 hc12 hf
          first | show Exit.inBlock _ _ _ _ (w1.setCell ⟨w.heap.size + 3, 12, none⟩ (.slice Ar lr cr)) | show Exit.then _ _ _ _ (w1.setCell ⟨w.heap.size + 3, 12, none⟩ (.slice Ar lr cr)) | show Code.wp _ _ _ _ (w1.setCell ⟨w.heap.size + 3, 12, none⟩ (.slice Ar lr cr))
          generalize w1.setCell ⟨w.heap.size + 3, 12, none⟩ (.slice Ar lr cr) = w9 at *
          go_wp2_with fail
          exact ⟨⟨k + 1, (.slice Ar lr cr), by go_num, by omega, HT4.out, HIN4.out⟩, by simp [intOf]; omega⟩
        · obtain rfl : k = a.f6.length := by omega
          have hlen : (hadd a.f6 b.f6).length = a.f6.length := by unfold hadd; rw [List.length_zipWith]; have := HL.out; omega
          have hta : tw3 (tw2 a b) ((hadd a.f6 b.f6).take a.f6.length) = twoA a b := by rw [← hlen, List.take_length]; rfl
          obtain ⟨c0, c1, c2, c3, c4, c5, c6, c7, c8, c9, c10, c11, _, _⟩ := acO_facts HT.out.blk
          have hfo := fun j => blk_free HIN.out.go j
          rw [hta] at c0 c1 c2 c3 c4 c5 c6 c7 c8 c9 c10 c11
          obtain ⟨Ar, cr, rfl, _, _⟩ := HT.out.row.reads
          rw [show ((hadd a.f6 b.f6).take a.f6.length).length = a.f6.length by rw [List.length_take]; omega] at c12 HT
          have HTA := Lib.hid hta
          clear hta
          go_wp2_with fail
          show bodyPost _ _ _ _ _ (putA wr (w.heap.size + 2) (twoA a b) (.slice Ar a.f6.length cr))
          have hch := putA_chg wr (w.heap.size + 2) (twoA a b) (.slice Ar a.f6.length cr)
          refine bodyPost_ret (results_cell_row rfl _ _ (w.heap.size + 2) 28 _ (0, 0) _ rfl (putA_blk (a := twoA a b) (v := .slice Ar a.f6.length cr) HIN.out.go) Try.underlying28 rfl (by kernel_rfl)) rfl ?_
          refine ⟨.slice Ar a.f6.length cr, rfl, ?_, Chg.base HT.out.bel hch HT.out.bel.size (fun i hi => by omega)⟩
          have hr := HT.out.row.keep hch (fun j hj e => own_no HT.out.row HIN.out.go (by rw [hj, e]))
          rw [show (twoA a b).f6 = (hadd a.f6 b.f6).take a.f6.length by rw [← hlen, List.take_length]; rfl]
          exact hr
end Go.Proofs.Ytggaefklcpbfnaa.My
