/- What is told of a window: the tellers, their table. No statement of the seed is proved here. -/
import Derived.Test.YtggaefklcpbfnaaAccC
import Derived.Test.YtggaefklcpbfnaaWMore
import Derived.Lib.SliceRun
namespace Go.Proofs.Ytggaefklcpbfnaa.My
open Go.RowKit Pa Go.Proofs.YtggaefklcpbfnaaW.PrintWords Go.Proofs.YtggaefklcpbfnaaW.PrintMore
attribute [local go_sem] max2_int min2_int max_two min_two

/-- A query: its kind, aggregate, size, slide, rank; bounds lie apart. -/
structure Qy where
  k : Int
  agg : Int
  size : Int
  slide : Int
  rank : Int
def quO (q : Qy) (v : Value) : Obj := .cells #[.int .i64 q.k, .int .i64 q.agg, .int .i64 q.size, .int .i64 q.slide, v, .int .i64 q.rank] 24
def ouV (n : Int) (o : Bool) (v : Value) : Value := .agg #[.int .i64 n, .bool o, v]
def ouO (n : Int) (o : Bool) (v : Value) : Obj := .cells #[.int .i64 n, .bool o, v] 31
theorem quO_facts {w : World} {b : Nat} {q : Qy} {v : Value} (h : w.heap[b]? = some (quO q v)) : w.cell? ⟨b, 0, none⟩ = some (.int .i64 q.k) ∧ w.cell? ⟨b, 1, none⟩ = some (.int .i64 q.agg) ∧ w.cell? ⟨b, 2, none⟩ = some (.int .i64 q.size) ∧ w.cell? ⟨b, 3, none⟩ = some (.int .i64 q.slide) ∧ w.cell? ⟨b, 4, none⟩ = some v ∧ w.cell? ⟨b, 5, none⟩ = some (.int .i64 q.rank) ∧ b < w.heap.size :=
  ⟨(blk_cell h 0).trans rfl, (blk_cell h 1).trans rfl, (blk_cell h 2).trans rfl, (blk_cell h 3).trans rfl, (blk_cell h 4).trans rfl, (blk_cell h 5).trans rfl, blk_lt h⟩
theorem ouO_facts {w : World} {b : Nat} {n : Int} {o : Bool} {v : Value} (h : w.heap[b]? = some (ouO n o v)) : w.cell? ⟨b, 0, none⟩ = some (.int .i64 n) ∧ w.cell? ⟨b, 1, none⟩ = some (.bool o) ∧ w.cell? ⟨b, 2, none⟩ = some v ∧ b < w.heap.size :=
  ⟨(blk_cell h 0).trans rfl, (blk_cell h 1).trans rfl, (blk_cell h 2).trans rfl, blk_lt h⟩
/-- The end of a function that hands out what is told. -/
theorem results_out {fn : Func} {p : Tmp} (h : fn.results = #[.cell p 31]) (tmps : Array Value) (w : World) (g : Nat) (n : Int) (o : Bool) (v : Value) (hp : tmps.getD p undef = .pointer (some ⟨g, 0, none⟩)) (hg : w.heap[g]? = some (ouO n o v)) :
    (results fn tmps).run Try.prog w = .ok (ouV n o v) w :=
  results_cell_row h tmps w g 31 _ (0, 0) _ hp hg Try.underlying31 rfl (by kernel_rfl)

set_option maxHeartbeats 2000000 in
set_option maxRecDepth 100000 in
theorem low_count_any (a : S28) (va : Value) (q g : Nat) (w : World) (h : w.heap[g]? = some (acO a va)) :
    Calls Try.prog 60 #[.pointer (some ⟨q, 0, none⟩), .pointer (some ⟨g, 0, none⟩)] w fun e w' => e = .returned (ouV a.f0 false (.slice none 0 0)) ∧ Below w.heap.size w w' := by
  obtain ⟨a0, a1, a2, a3, a4, a5, a6, a7, a8, a9, a10, a11, a12, al⟩ := acO_facts h
  go_enter Try.func60, Try.ntmps60
  go_wp2_with fail
  exact bodyPost_ret (results_out rfl _ _ w.heap.size _ _ _ rfl (heap_alloc_new w _)) rfl ⟨rfl, (Below.refl _ _).alloc (Nat.le_refl _) _⟩
set_option maxHeartbeats 2000000 in
set_option maxRecDepth 100000 in
theorem low_least_any (a : S28) (va : Value) (q g : Nat) (w : World) (h : w.heap[g]? = some (acO a va)) :
    Calls Try.prog 62 #[.pointer (some ⟨q, 0, none⟩), .pointer (some ⟨g, 0, none⟩)] w fun e w' => e = .returned (ouV a.f2 false (.slice none 0 0)) ∧ Below w.heap.size w w' := by
  obtain ⟨a0, a1, a2, a3, a4, a5, a6, a7, a8, a9, a10, a11, a12, al⟩ := acO_facts h
  go_enter Try.func62, Try.ntmps62
  go_wp2_with fail
  exact bodyPost_ret (results_out rfl _ _ w.heap.size _ _ _ rfl (heap_alloc_new w _)) rfl ⟨rfl, (Below.refl _ _).alloc (Nat.le_refl _) _⟩
set_option maxHeartbeats 2000000 in
set_option maxRecDepth 100000 in
theorem low_greatest_any (a : S28) (va : Value) (q g : Nat) (w : World) (h : w.heap[g]? = some (acO a va)) :
    Calls Try.prog 63 #[.pointer (some ⟨q, 0, none⟩), .pointer (some ⟨g, 0, none⟩)] w fun e w' => e = .returned (ouV a.f3 false (.slice none 0 0)) ∧ Below w.heap.size w w' := by
  obtain ⟨a0, a1, a2, a3, a4, a5, a6, a7, a8, a9, a10, a11, a12, al⟩ := acO_facts h
  go_enter Try.func63, Try.ntmps63
  go_wp2_with fail
  exact bodyPost_ret (results_out rfl _ _ w.heap.size _ _ _ rfl (heap_alloc_new w _)) rfl ⟨rfl, (Below.refl _ _).alloc (Nat.le_refl _) _⟩
set_option maxHeartbeats 2000000 in
set_option maxRecDepth 100000 in
theorem low_first_any (a : S28) (va : Value) (q g : Nat) (w : World) (h : w.heap[g]? = some (acO a va)) :
    Calls Try.prog 64 #[.pointer (some ⟨q, 0, none⟩), .pointer (some ⟨g, 0, none⟩)] w fun e w' => e = .returned (ouV a.f4.f3 false (.slice none 0 0)) ∧ Below w.heap.size w w' := by
  obtain ⟨a0, a1, a2, a3, a4, a5, a6, a7, a8, a9, a10, a11, a12, al⟩ := acO_facts h
  go_enter Try.func64, Try.ntmps64
  go_wp2_with fail
  exact bodyPost_ret (results_out rfl _ _ w.heap.size _ _ _ rfl (heap_alloc_new w _)) rfl ⟨rfl, (Below.refl _ _).alloc (Nat.le_refl _) _⟩
set_option maxHeartbeats 2000000 in
set_option maxRecDepth 100000 in
theorem low_last_any (a : S28) (va : Value) (q g : Nat) (w : World) (h : w.heap[g]? = some (acO a va)) :
    Calls Try.prog 65 #[.pointer (some ⟨q, 0, none⟩), .pointer (some ⟨g, 0, none⟩)] w fun e w' => e = .returned (ouV a.f5.f3 false (.slice none 0 0)) ∧ Below w.heap.size w w' := by
  obtain ⟨a0, a1, a2, a3, a4, a5, a6, a7, a8, a9, a10, a11, a12, al⟩ := acO_facts h
  go_enter Try.func65, Try.ntmps65
  go_wp2_with fail
  exact bodyPost_ret (results_out rfl _ _ w.heap.size _ _ _ rfl (heap_alloc_new w _)) rfl ⟨rfl, (Below.refl _ _).alloc (Nat.le_refl _) _⟩
def sumOver (s : Int) : Bool := decide (s < -1125899906842624) || decide (1125899906842624 < s)
def sumVal (s : Int) : Int := if sumOver s = true then 0 else s
set_option maxHeartbeats 2000000 in
set_option maxRecDepth 100000 in
theorem low_sum_any (a : S28) (va : Value) (q g : Nat) (w : World) (h : w.heap[g]? = some (acO a va)) :
    Calls Try.prog 61 #[.pointer (some ⟨q, 0, none⟩), .pointer (some ⟨g, 0, none⟩)] w fun e w' => e = .returned (ouV (sumVal a.f1) (sumOver a.f1) (.slice none 0 0)) ∧ Below w.heap.size w w' := by
  obtain ⟨a0, a1, a2, a3, a4, a5, a6, a7, a8, a9, a10, a11, a12, al⟩ := acO_facts h
  by_cases h1 : a.f1 < -1125899906842624
  · have hs : sumOver a.f1 = true := by unfold sumOver; rw [decide_eq_true h1]; rfl
    have HS := Lib.hid hs
    have hd : decide (a.f1 < -1125899906842624) = true := decide_eq_true h1
    clear hs
    go_enter Try.func61, Try.ntmps61
    go_wp2_with fail
    refine bodyPost_ret (results_out rfl _ _ w.heap.size _ _ _ rfl (heap_alloc_new w _)) rfl ⟨?_, (Below.refl _ _).alloc (Nat.le_refl _) _⟩
    unfold sumVal; rw [HS.out]; rfl
  · have hd : decide (a.f1 < -1125899906842624) = false := decide_eq_false h1
    by_cases h2 : 1125899906842624 < a.f1
    · have hs : sumOver a.f1 = true := by unfold sumOver; rw [decide_eq_true h2]; simp
      have HS := Lib.hid hs
      have hd2 : decide (1125899906842624 < a.f1) = true := decide_eq_true h2
      clear hs
      go_enter Try.func61, Try.ntmps61
      go_wp2_with fail
      refine bodyPost_ret (results_out rfl _ _ w.heap.size _ _ _ rfl (heap_alloc_new w _)) rfl ⟨?_, (Below.refl _ _).alloc (Nat.le_refl _) _⟩
      unfold sumVal; rw [HS.out]; rfl
    · have hs : sumOver a.f1 = false := by unfold sumOver; rw [hd, decide_eq_false h2]; rfl
      have HS := Lib.hid hs
      have hd2 : decide (1125899906842624 < a.f1) = false := decide_eq_false h2
      clear hs
      go_enter Try.func61, Try.ntmps61
      go_wp2_with fail
      refine bodyPost_ret (results_out rfl _ _ w.heap.size _ _ _ rfl (heap_alloc_new w _)) rfl ⟨?_, (Below.refl _ _).alloc (Nat.le_refl _) _⟩
      unfold sumVal; rw [HS.out]; rfl

set_option maxHeartbeats 8000000 in
set_option maxRecDepth 100000 in
theorem clone_any (A : Option Addr) (c : Nat) (l : List Int) (w : World) (hr : RdI w A l) (hc : l.length ≤ c) (hl : l.length ≤ 1000) :
    Calls Try.prog 69 #[.slice A l.length c] w fun e w' => ∃ v, e = .returned v ∧ Kd.R (Kd.int .i64) 3 w' w.heap.size (fun _ => True) v l ∧ Below w.heap.size w w' := by
  have HR := Lib.hid hr
  have HC := Lib.hid hc
  clear hr hc
  have hk := fun (w : World) (n : Nat) => Lib.run_eql_slice_nil (P := Try.prog) w 22 3 A n c 0 0 Try.underlying22
  by_cases hA : A = none
  · subst hA
    have hl0 : l = [] := by
      by_cases h0 : 0 < l.length
      · obtain ⟨ad, e, _⟩ := HR.out.2.2 h0
        cases e
      · exact List.eq_nil_of_length_eq_zero (by omega)
    subst hl0
    go_enter Try.func69, Try.ntmps69
    go_wp2_with fail
    go_ret
    exact ⟨_, rfl, Kd.R_nil _ _ _ _ _, Below.refl _ _⟩
  · obtain ⟨ad, rfl⟩ : ∃ ad, A = some ad := by
      cases A with
      | none => exact absurd rfl hA
      | some ad => exact ⟨ad, rfl⟩
    clear hA
    go_enter Try.func69, Try.ntmps69
    go_wp2_with (first | ((with_reducible refine gate_dst (N := 5) rfl ?_); refine Kd.R_lit (Kd.int .i64) _ 3 ?hg (N := 5) ?hd (xs := ([] : List Int)) (inner := []) (ok := fun _ => True) (okp := fun _ => True) ?hr ?hp (fun _ hk => hk) trivial (Below.refl _ _) (Nat.le_refl _) (by simp) ?_; (case hd => rfl); (case hg => rfl); (case hr => first | (go_simp; done) | (go_simp; rfl)); (case hp => exact (Reps.none _ _)); intro v3 w3 ho4 hb hg_ hnew_; clear hg_ hnew_; have HO := Lib.hid ho4; have HB := Lib.hid hb; clear ho4 hb) | ((with_reducible refine gate_builtin (b := .append) (xs := #[.tmp 5, .tmp 6]) rfl ?_); at_builtin; refine Kd.R_append_rows (Kd.int .i64) (w0 := w) w.heap.size rfl (.tmp 5) (.tmp 6) 22 3 (.int .i64 0) 8 rfl Try.underlying22 info3 rfl (by decide) (by omega) v3 [] l _ _ _ (fun _ => True) (fun _ => False) rfl rfl ?aO ?aR (fun _ _ h => h) (fun _ h => h.elim) ?aF ?aB ?aS ?aL ?_; (case aR => exact Kd.C_below HR.out HB.out); (case aB => exact HB.out); (case aF => exact (fun _ _ => trivial)); (case aO => exact HO.out); (case aS => exact HB.out.size); (case aL => simp; omega); intro v376 w5 ho hb2 hg hat; have HO2 := Lib.hid ho; have HB2 := Lib.hid hb2; clear ho hb2 hg hat))
    go_ret
    exact ⟨_, rfl, HO2.out, HB2.out⟩

theorem ouO_put {w : World} {b : Nat} {n n1 : Int} {o o1 : Bool} {v v1 : Value} (h : w.heap[b]? = some (ouO n o v)) : (((w.setCell ⟨b, 0, none⟩ (.int .i64 n1)).setCell ⟨b, 1, none⟩ (.bool o1)).setCell ⟨b, 2, none⟩ v1).heap[b]? = some (ouO n1 o1 v1) := by
  have := blk_set (blk_set (blk_set h 0 (.int .i64 n1)) 1 (.bool o1)) 2 v1
  simp only [List.setIfInBounds_toArray, List.set_cons_zero, List.set_cons_succ] at this
  exact this
theorem ouO_chg (w : World) (b : Nat) (n1 : Int) (o1 : Bool) (v1 : Value) : Chg (fun k => k = b) w (((w.setCell ⟨b, 0, none⟩ (.int .i64 n1)).setCell ⟨b, 1, none⟩ (.bool o1)).setCell ⟨b, 2, none⟩ v1) :=
  (((Chg.refl (fun k => k = b) w).setCell (p := ⟨b, 0, none⟩) (.inl rfl) _).setCell (p := ⟨b, 1, none⟩) (.inl rfl) _).setCell (p := ⟨b, 2, none⟩) (.inl rfl) _
theorem own_lower {w : World} {b b1 : Nat} {v : Value} {n : Nat} {cs : List Value} {e : TypeId} {size : Nat} (h : w.ownsRow b e size v n cs) (hb : b1 ≤ b) : w.ownsRow b1 e size v n cs := by
  refine ⟨h.1, ?_⟩
  rcases h.2 with h | ⟨g, cap, cur, h1, h2, h3⟩
  · exact .inl h
  · exact .inr ⟨g, cap, cur, h1, by omega, h3⟩
set_option maxHeartbeats 2000000 in
set_option maxRecDepth 100000 in
theorem low_hist_any (a : S28) (Ah : Option Addr) (ch q g : Nat) (w : World) (h : w.heap[g]? = some (acO a (.slice Ah a.f6.length ch))) (hr : RdI w Ah a.f6) (hc : a.f6.length ≤ ch) (hl : a.f6.length ≤ 1000) :
    Calls Try.prog 66 #[.pointer (some ⟨q, 0, none⟩), .pointer (some ⟨g, 0, none⟩)] w fun e w' => ∃ v, e = .returned (ouV 0 false v) ∧ Own w' w.heap.size v a.f6 ∧ Below w.heap.size w w' := by
  obtain ⟨a0, a1, a2, a3, a4, a5, a6, a7, a8, a9, a10, a11, a12, al⟩ := acO_facts h
  have HR := Lib.hid hr
  have HC := Lib.hid hc
  clear hr hc h
  go_enter Try.func66, Try.ntmps66
  go_wp2_with fail
  have hb0 : Below w.heap.size w (w.alloc (ouO 0 false (.slice none 0 0))) := (Below.refl _ _).alloc (Nat.le_refl _) _
  have hz : (w.alloc (ouO 0 false (.slice none 0 0))).heap[w.heap.size]? = some (ouO 0 false (.slice none 0 0)) := heap_alloc_new w _
  refine (clone_any Ah ch a.f6 _ (Kd.C_below HR.out hb0) HC.out hl).mono ?_
  rintro e w2 ⟨v, rfl, ho, hb⟩
  obtain ⟨Av, cv, rfl⟩ := Kd.R_slice ho
  have hz2 := blk_below hz hb
  have hne : ∀ k, (Value.slice Av a.f6.length cv).ownBlock = some k → k ≠ w.heap.size := fun k hk => by
    have := Kd.R_base ho k hk
    have hs : (w.alloc (ouO 0 false (.slice none 0 0))).heap.size = w.heap.size + 1 := by simp
    omega
  have HO := Lib.hid (show Own w2 w.heap.size (.slice Av a.f6.length cv) a.f6 from own_lower (Kd.own_of_R ho) hb0.size)
  have HN := Lib.hid hne
  have HB := Lib.hid (hb0.trans (hb.mono hb0.size))
  have HZ := Lib.hid hz2
  have HB1 := Lib.hid hb
  obtain ⟨z0, z1, z2, zl⟩ := ouO_facts hz2
  have hf := fun j => blk_free hz2 j
  clear hz hb0 ho hb hz2 a0 a1 a2 a3 a4 a5 a6 a7 a8 a9 a10 a11 a12 al
  clear hne
  go_wp2_with fail
  refine bodyPost_ret (results_out rfl _ _ w.heap.size 0 false (.slice Av a.f6.length cv) rfl (ouO_put HZ.out)) rfl ?_
  have hch := ouO_chg w2 w.heap.size 0 false (.slice Av a.f6.length cv)
  exact ⟨_, rfl, HO.out.keep hch (fun k hk e => HN.out k hk e), Chg.base HB.out hch HB.out.size (fun i hi => by omega)⟩

def rankK (r c : Int) : Int := if 1 < (r * c + 1000 - 1) / 1000 then (r * c + 1000 - 1) / 1000 else 1
def rankGo (h bs : List Int) (mx : Int) : Nat → Nat → Int → Int
  | 0, _, _ => mx
  | n + 1, i, k => if k - h.getD i 0 ≤ 0 then bs.getD i 0 else rankGo h bs mx n (i + 1) (k - h.getD i 0)
theorem rank_bound {r c : Int} (h1 : 0 ≤ r) (h2 : r ≤ 1000) (h3 : 0 ≤ c) (h4 : c ≤ 8192) : 0 ≤ r * c ∧ r * c ≤ 8192000 := by
  have e1 := Int.mul_le_mul h2 h4 h3 (by omega)
  have e2 := Int.mul_nonneg h1 h3
  omega
set_option maxHeartbeats 4000000 in
set_option maxRecDepth 100000 in
theorem low_rank_any (a : S28) (qy : Qy) (bs : List Int) (Ah : Option Addr) (ch : Nat) (Ab : Option Addr) (cb q g : Nat) (w : World) (h : w.heap[g]? = some (acO a (.slice Ah a.f6.length ch))) (hr : RdI w Ah a.f6) (hq : w.heap[q]? = some (quO qy (.slice Ab bs.length cb))) (hb : RdI w Ab bs)
    (hl : bs.length ≤ 8) (hh : a.f6.length = bs.length + 1) (hn : ∀ i, i < a.f6.length → 0 ≤ a.f6.getD i 0 ∧ a.f6.getD i 0 ≤ 8192) (h1 : 0 ≤ qy.rank) (h2 : qy.rank ≤ 1000) (h3 : 0 ≤ a.f0) (h4 : a.f0 ≤ 8192) :
    Calls Try.prog 67 #[.pointer (some ⟨q, 0, none⟩), .pointer (some ⟨g, 0, none⟩)] w fun e w' => e = .returned (ouV (rankGo a.f6 bs a.f3 bs.length 0 (rankK qy.rank a.f0)) false (.slice none 0 0)) ∧ Below w.heap.size w w' := by
  have hb0 : Below w.heap.size w (w.alloc (ouO 0 false (.slice none 0 0))) := (Below.refl _ _).alloc (Nat.le_refl _) _
  have hz : (w.alloc (ouO 0 false (.slice none 0 0))).heap[w.heap.size]? = some (ouO 0 false (.slice none 0 0)) := heap_alloc_new w _
  have hg := blk_below h hb0
  have hq1 := blk_below hq hb0
  have HR := Lib.hid (Kd.C_below hr hb0)
  have HBS := Lib.hid (Kd.C_below hb hb0)
  have HZ := Lib.hid hz
  have HB := Lib.hid hb0
  have HN := Lib.hid hn
  have HH := Lib.hid hh
  obtain ⟨e1, e2⟩ := rank_bound h1 h2 h3 h4
  clear hr hb h hq hz hb0 hn hh
  obtain ⟨a0, a1, a2, a3, a4, a5, a6, a7, a8, a9, a10, a11, a12, al⟩ := acO_facts hg
  obtain ⟨q0, q1, q2, q3, q4, q5, ql⟩ := quO_facts hq1
  obtain ⟨z0, z1, z2, zl⟩ := ouO_facts HZ.out
  have hf := fun j => blk_free HZ.out j
  go_enter Try.func67, Try.ntmps67
  go_wp2_with fail
  show Code.wp _ _ _ _ (w.alloc (ouO 0 false (.slice none 0 0)))
  generalize w.alloc (ouO 0 false (.slice none 0 0)) = w1 at *
  obtain ⟨kk, hkk⟩ : ∃ k, (if 1 < (qy.rank * a.f0 + 1000 - 1) / 1000 then (qy.rank * a.f0 + 1000 - 1) / 1000 else 1) = k := ⟨_, rfl⟩
  have HKK := Lib.hid (show rankK qy.rank a.f0 = kk from hkk)
  have hk1 : 1 ≤ kk := by rw [← hkk]; split <;> omega
  have hk2 : kk ≤ 8193 := by rw [← hkk]; split <;> omega
  refine Txt.wp_region_text (by kernel_rfl) (by kernel_rfl) ?_
  repeat (first
    | (refine Txt.text_p (by rfl) rfl (fun K hK => ?_); go_big_quiet_op; refine hK _ ?_; clear hK K)
    | (refine Txt.text_r (by rfl) rfl (fun K hK => ?_); go_big_quiet_op; refine hK _ ?_; clear hK K)
    | (refine Txt.text_pass (by rfl) (by rfl) ?_; simp only [List.set_cons_succ, List.set_cons_zero]))
  refine Txt.text_nil ?_
  clear a0 a1 a2 a3 a4 a5 a6 a7 a8 a9 a10 a11 a12 al q0 q1 q2 q3 q4 q5 ql z0 z1 z2 zl hf hkk
  have HB2 := Lib.hid (HB.out.drew)
  have HZ2 := Lib.hid (show w1.drew.heap[w.heap.size]? = some (ouO 0 false (.slice none 0 0)) from HZ.out)
  have HR2 := Lib.hid (show RdI w1.drew Ah a.f6 from Kd.C_drew HR.out)
  have HBS2 := Lib.hid (show RdI w1.drew Ab bs from Kd.C_drew HBS.out)
  have hg2 : w1.drew.heap[g]? = some (acO a (.slice Ah a.f6.length ch)) := hg
  have hq2 : w1.drew.heap[q]? = some (quO qy (.slice Ab bs.length cb)) := hq1
  clear HB HZ HR HBS hg hq1
  generalize World.drew w1 = w2 at *
  obtain ⟨a0, a1, a2, a3, a4, a5, a6, a7, a8, a9, a10, a11, a12, al⟩ := acO_facts hg2
  obtain ⟨q0, q1, q2, q3, q4, q5, ql⟩ := quO_facts hq2
  obtain ⟨z0, z1, z2, zl⟩ := ouO_facts HZ2.out
  have hf := fun j => blk_free HZ2.out j
  clear hg2 hq2
  go_wp2_with fail
  go_loopw [5, 26] (fun s i wr => ∃ (k : Nat) (r : Int), i = .int .i64 k ∧ s = .int .i64 r ∧ k ≤ bs.length ∧ wr = w2 ∧ r ≤ 8193 ∧ -8192 * (k : Int) ≤ r ∧ Rel (rankGo a.f6 bs a.f3 bs.length 0 kk = rankGo a.f6 bs a.f3 (bs.length - k) k r)) (fun _ i _ => bs.length - (intOf i).toNat)
  case atStart => exact ⟨0, kk, rfl, rfl, by omega, rfl, by omega, by omega, rfl⟩
  case round =>
    obtain ⟨k, r, rfl, rfl, hk, rfl, hr1, hr2, hx⟩ := hrel
    have HX := Lib.hid hx
    clear hx
    by_cases hlt : k < bs.length
    · obtain ⟨ad, rfl, e0⟩ := HBS2.out.at_ hlt
      have hkh : k < a.f6.length := by have := HH.out; omega
      obtain ⟨ad2, rfl, e3⟩ := HR2.out.at_ hkh
      obtain ⟨n1, n2⟩ := HN.out k hkh
      have hx := HX.out
      unfold Rel at hx
      rw [show bs.length - k = (bs.length - (k + 1)) + 1 by omega, rankGo] at hx
      have hhl : decide (k < a.f6.length) = true := decide_eq_true hkh
      have hhi : decide ((k : Int) < (a.f6.length : Int)) = true := decide_eq_true (by omega)
      generalize a.f6.getD k 0 = n at *
      generalize bs.getD k 0 = b at *
      have HY := Lib.hid hx
      clear hx HX
      by_cases h5 : r - n ≤ 0
      · have hd : decide (r - n ≤ 0) = true := decide_eq_true h5
        have hy := HY.out
        rw [if_pos h5] at hy
        have HY2 := Lib.hid hy
        clear h5 hy HY
        go_wp2_with fail
        refine bodyPost_ret (results_out rfl _ _ w.heap.size b false (.slice none 0 0) rfl (ouO_put HZ2.out)) rfl ?_
        have hch := ouO_chg wr w.heap.size b false (.slice none 0 0)
        exact ⟨by rw [HKK.out, HY2.out], Chg.base HB2.out hch HB2.out.size (fun i hi => by omega)⟩
      · have hd : decide (r - n ≤ 0) = false := decide_eq_false h5
        have hy := HY.out
        rw [if_neg h5] at hy
        have HY2 := Lib.hid hy
        clear h5 hy HY
        go_wp2_with fail
        exact ⟨⟨k + 1, r - n, by go_num, by first | rfl | trivial, by omega, by first | rfl | trivial, by omega, by omega, HY2.out⟩, by simp [intOf]; omega⟩
    · obtain rfl : k = bs.length := by omega
      have hx := HX.out
      unfold Rel at hx
      rw [Nat.sub_self, rankGo] at hx
      have HY := Lib.hid hx
      clear hx HX
      go_wp2_with fail
      refine bodyPost_ret (results_out rfl _ _ w.heap.size a.f3 false (.slice none 0 0) rfl (ouO_put HZ2.out)) rfl ?_
      have hch := ouO_chg wr w.heap.size a.f3 false (.slice none 0 0)
      exact ⟨by rw [HKK.out, HY.out], Chg.base HB2.out hch HB2.out.size (fun i hi => by omega)⟩
end Go.Proofs.Ytggaefklcpbfnaa.My
