/- The heap's functions, walked: items are pushed. No statement of the seed is proved here. -/
import Derived.Test.YtcleljmbdiddeaaHeapD
namespace Go.Proofs.Ytcleljmbdiddeaa
open Go.RowKit HP PHeaps

/-- A slice of items that is read. -/
def Rd (w : World) (A : Option Addr) (ys : List It) : Prop := 0 < ys.length → ∃ b o, A = some ⟨b, o, none⟩ ∧ b < w.heap.size ∧ ∀ i, i < ys.length →
  w.cell? ⟨b, o + i * 4, none⟩ = some (.int .i64 (at_ ys i).s) ∧ w.cell? ⟨b, o + i * 4 + 1, none⟩ = some (.int .i64 (at_ ys i).t) ∧ w.cell? ⟨b, o + i * 4 + 2, none⟩ = some (.int .i64 (at_ ys i).q) ∧ w.cell? ⟨b, o + i * 4 + 3, none⟩ = some (.int .i64 (at_ ys i).v)

def pushAll (xs ys : List It) : List It := ys.foldl push xs
theorem pushAll_snoc (xs ys : List It) (y : It) : pushAll xs (ys ++ [y]) = push (pushAll xs ys) y := by simp [pushAll]
theorem pushAll_spec {xs : List It} (ys : List It) (h : Heap xs) : Heap (pushAll xs ys) ∧ (pushAll xs ys).Perm (xs ++ ys) := by
  induction ys generalizing xs with
  | nil => exact ⟨h, by simp [pushAll]⟩
  | cons y r ih =>
    have hp := push_spec h y
    have hr := ih hp.1
    refine ⟨hr.1, hr.2.trans ?_⟩
    refine (List.Perm.append_right r hp.2).trans ?_
    exact (List.perm_middle (a := y) (l₁ := xs) (l₂ := r)).symm
theorem pushAll_length {xs : List It} (ys : List It) (h : Heap xs) : (pushAll xs ys).length = xs.length + ys.length := by
  rw [(pushAll_spec ys h).2.length_eq, List.length_append]

/-- What pushing comes to. -/
def PushPost (F : Nat → Prop) (w : World) (g : Nat) (most : Int) (xs ys : List It) (e : Ending) (w' : World) : Prop :=
  if ys.all may = false then e = .returned (.int .i64 1500) ∧ Below w.heap.size w w'
  else if most < xs.length + ys.length then e = .returned (.int .i64 1501) ∧ Below w.heap.size w w'
  else e = .returned (.int .i64 0) ∧ (∃ v', HeapAt (fun k => F k ∨ w.heap.size ≤ k) w' g v' most (pushAll xs ys)) ∧ Chg F w w'
theorem push_bad {F : Nat → Prop} {w w' : World} {g : Nat} {most : Int} {xs ys : List It} {i : Nat} (hi : i < ys.length) (h : may (at_ ys i) = false) (hb : Below w.heap.size w w') : PushPost F w g most xs ys (.returned (.int .i64 1500)) w' := by
  unfold PushPost
  rw [if_pos]
  · exact ⟨rfl, hb⟩
  · rw [at_eq hi] at h
    cases ha : ys.all may with
    | false => rfl
    | true =>
      rw [List.all_eq_true] at ha
      have := ha ys[i] (List.getElem_mem hi)
      rw [h] at this
      cases this
theorem all_may {ys : List It} (h : ∀ i, i < ys.length → may (at_ ys i) = true) : ¬ ys.all may = false := by
  have : ys.all may = true := by
    rw [List.all_eq_true]
    intro y hy
    obtain ⟨i, hi, rfl⟩ := List.getElem_of_mem hy
    rw [← at_eq hi]
    exact h i hi
  rw [this]
  simp
theorem push_over {F : Nat → Prop} {w w' : World} {g : Nat} {most : Int} {xs ys : List It} (h : ∀ i, i < ys.length → may (at_ ys i) = true) (ho : most < xs.length + ys.length) (hb : Below w.heap.size w w') : PushPost F w g most xs ys (.returned (.int .i64 1501)) w' := by
  unfold PushPost
  rw [if_neg (all_may h), if_pos ho]
  exact ⟨rfl, hb⟩
theorem push_done {F : Nat → Prop} {w w' : World} {g : Nat} {v' : Value} {most : Int} {xs ys : List It} (h : ∀ i, i < ys.length → may (at_ ys i) = true) (ho : ¬ most < xs.length + ys.length) (hh : HeapAt (fun k => F k ∨ w.heap.size ≤ k) w' g v' most (pushAll xs ys)) (hc : Chg F w w') : PushPost F w g most xs ys (.returned (.int .i64 0)) w' := by
  unfold PushPost
  rw [if_neg (all_may h), if_neg ho]
  exact ⟨rfl, ⟨v', hh⟩, hc⟩

/-- append of some cells that lie in memory, to a row of one's own: at the operation. -/
theorem wp_append {P : Program} {o : Oper} {a : Act} {w : World} {K : Act → World → Prop} {Q : Exit → Act → World → Prop} (s x : Operand) (t e : TypeId) (z : Value) (size bytes : Nat)
    (ho : o.op = .call { callee := .builtin .append, args := #[s, x], argTypes := #[t, t] })
    (ht : P.underlying t = some (.slice e)) (hinfo : (P.info? e).map (fun i => (i.zero, i.size, i.bytes)) = some (some z, size, bytes)) (hz : z.cells.size = size) (hsz : 0 < size)
    (v : Value) (n m : Nat) (xs news : List Value) (g c : Nat) (hs : a.eval s = v) (hx : a.eval x = .slice (some ⟨g, 0, none⟩) m c)
    (hown : w.ownsRow 0 e size v n xs) (hl : news.length = m * size) (hnews : ∀ j u, news[j]? = some u → w.cell? ⟨g, j, none⟩ = some u) (h1 : ∀ u ∈ news, u.oneCell' = true) (hb : (n + m) * bytes ≤ 140737488355328) (h63 : n + m ≤ 9223372036854775807)
    (h : ∀ v1 w1, w1.ownsRow 0 e size v1 (n + m) (xs ++ news) → w.grownBy w1 v.ownBlock → (v1.ownBlock = v.ownBlock ∨ v1.ownBlock = some w.heap.size) → K (a.put o.dst v1) w1) : o.wp P a w K Q := by
  obtain ⟨i0, hi, hzz⟩ := Option.map_eq_some_iff.1 hinfo
  simp only [Prod.mk.injEq] at hzz
  obtain ⟨hz0, hz1, hz2⟩ := hzz
  have ha : ∀ j, (⟨g, 0, none⟩ : Addr).add j = ⟨g, j, none⟩ := fun j => by unfold Addr.add; split <;> simp_all
  obtain ⟨v1, w1, hr, h2, h3, _, h5⟩ := run_append_own_at (P := P) w 0 t o.type e i0 z size bytes ht hi hz0 hz1 hz2 hz hsz v n xs hown ⟨g, 0, none⟩ m c news hl (fun j u hu => by rw [ha]; exact hnews j u hu) h1 (by simp only [maxLen]; omega) hb (Nat.zero_le _)
  unfold Oper.wp execOp
  simp only [ho, resolve, invoke, builtin, Sem.run_bind, Sem.run_pure, Result.andThen_ok, List.map_toArray, List.map_cons, List.map_nil, hs, hx, hr]
  exact h v1 w1 h2 h3 h5

theorem take_one {ys : List It} {k : Nat} (h : k < ys.length) : ys.take (k + 1) = ys.take k ++ [at_ ys k] := by
  rw [List.take_succ_eq_append_getElem h, at_eq h]

theorem Chg.cell {S : Nat → Prop} {w w1 : World} {p : Addr} {u : Value} (h : Chg S w w1) (hc : w.cell? p = some u) (hn : ¬ S p.block) : w1.cell? p = some u :=
  (World.cell?_of_block (h.block p.block (World.block_lt_of_cell? w p hc) hn)).trans hc

theorem info_item : (Try.prog.info? 34).map (fun i => (i.zero, i.size, i.bytes)) = some (some (.agg #[(.int .i64 0), (.int .i64 0), (.int .i64 0), (.int .i64 0)]), 4, 32) := by kernel_rfl

set_option maxHeartbeats 2000000 in
set_option maxRecDepth 100000 in
theorem push_any {F : Nat → Prop} (g : Nat) (v : Value) (most : Int) (xs ys : List It) (A : Option Addr) (c : Nat) (w : World) (h : HeapAt F w g v most xs) (hF : ∀ k, F k → k < w.heap.size) (hH : Heap xs)
    (hA : Rd w A ys) (hAF : ∀ b o, A = some ⟨b, o, none⟩ → ¬ F b) (hm : most ≤ 8192) (hl : xs.length ≤ 8192) (hy : ys.length ≤ 4398046511104) :
    Calls Try.prog 23 #[.pointer (some ⟨g, 0, none⟩), .slice A ys.length c] w (PushPost F w g most xs ys) := by
  have H1 := Lib.hid h
  have HF := Lib.hid hF
  have HA := Lib.hid hA
  have HAF := Lib.hid hAF
  have HH := Lib.hid hH
  clear h hF hA hAF hH
  go_enter Try.func23, Try.ntmps23
  go_wp2_with fail
  go_loopw [13] (fun i wr => ∃ k : Nat, i = .int .i64 k ∧ k ≤ ys.length ∧ Below w.heap.size w wr ∧ Rel (∀ j, j < k → may (at_ ys j) = true)) (fun i _ => ys.length - (intOf i).toNat)
  case atStart => exact ⟨0, rfl, Nat.zero_le _, Below.refl _ _, fun j hj => absurd hj (by omega)⟩
  case round =>
    obtain ⟨k, rfl, hk, hb, hmay⟩ := hrel
    have HB := Lib.hid hb
    have HM := Lib.hid hmay
    clear hb hmay
    by_cases hlt : k < ys.length
    · obtain ⟨b, o, rfl, hbs, hcells⟩ := HA.out (by omega)
      obtain ⟨a0, a1, a2, a3⟩ := hcells k hlt
      have hsz := HB.out.size
      have e0 := (HB.out.cell (p := ⟨b, o + k * 4, none⟩) hbs).trans a0
      have e1 := (HB.out.cell (p := ⟨b, o + k * 4 + 1, none⟩) hbs).trans a1
      have e2 := (HB.out.cell (p := ⟨b, o + k * 4 + 2, none⟩) hbs).trans a2
      have e3 := (HB.out.cell (p := ⟨b, o + k * 4 + 3, none⟩) hbs).trans a3
      clear hcells a0 a1 a2 a3
      cases hmk : may (at_ ys k) with
      | true =>
        have HK := Lib.hid hmk
        clear hmk
        go_wp2_with fail
        refine (may_yes (at_ ys k) _ HK.out).mono ?_
        rintro e w1 ⟨rfl, hb1⟩
        have HB1 := Lib.hid ((HB.out.alloc hsz (itObj (at_ ys k))).trans (hb1.mono (by simp; omega)))
        clear hb1
        go_wp2_with fail
        go_roundw
        case rel =>
          refine ⟨k + 1, by go_num, by omega, HB1.out, fun j hj => ?_⟩
          by_cases hjk : j = k
          · rw [hjk]; exact HK.out
          · exact HM.out j (by omega)
        case measure => simp [intOf]; omega
      | false =>
        have HK := Lib.hid hmk
        clear hmk
        go_wp2_with fail
        refine (may_no (at_ ys k) _ HK.out).mono ?_
        rintro e w1 ⟨rfl, hb1⟩
        have HB1 := Lib.hid ((HB.out.alloc hsz (itObj (at_ ys k))).trans (hb1.mono (by simp; omega)))
        clear hb1
        go_wp2_with fail
        go_ret
        exact push_bad hlt HK.out HB1.out
    · obtain rfl : k = ys.length := by omega
      have hh := H1.out.below HB.out
      obtain ⟨A1, c1, hv⟩ := hh.any
      have h0 : wr.cell? ⟨g, 0, none⟩ = some (.int .i64 most) := (blk_cell hh.head 0).trans rfl
      have h1 : wr.cell? ⟨g, 1, none⟩ = some (.slice A1 xs.length c1) := by rw [← hv]; exact (blk_cell hh.head 1).trans rfl
      have hg := blk_lt hh.head
      have HV := Lib.hid hv
      clear hv hh
      by_cases hov : most < (xs.length : Int) + ys.length
      · have hd : decide (most < (xs.length : Int) + ys.length) = true := decide_eq_true hov
        go_wp2_with fail
        refine Txt.wp_region_text (by kernel_rfl) (by kernel_rfl) ?_
        repeat (first
          | (refine Txt.text_p (by rfl) rfl (fun K hK => ?_); go_big_quiet_op; refine hK _ ?_; clear hK K)
          | (refine Txt.text_r (by rfl) rfl (fun K hK => ?_); go_big_quiet_op; refine hK _ ?_; clear hK K)
          | (refine Txt.text_pass (by rfl) (by rfl) ?_; simp only [List.set_cons_succ, List.set_cons_zero]))
        refine Txt.text_nil ?_
        go_wp2_with fail
        go_ret
        exact push_over HM.out hov HB.out.drew
      · have hd : decide (most < (xs.length : Int) + ys.length) = false := decide_eq_false hov
        go_wp2_with fail
        refine Txt.wp_region_text (by kernel_rfl) (by kernel_rfl) ?_
        repeat (first
          | (refine Txt.text_p (by rfl) rfl (fun K hK => ?_); go_big_quiet_op; refine hK _ ?_; clear hK K)
          | (refine Txt.text_r (by rfl) rfl (fun K hK => ?_); go_big_quiet_op; refine hK _ ?_; clear hK K)
          | (refine Txt.text_pass (by rfl) (by rfl) ?_; simp only [List.set_cons_succ, List.set_cons_zero]))
        refine Txt.text_nil ?_
        go_wp2_with fail
        have HB0 := Lib.hid HB.out.drew
        have hsum : (xs.length : Int) + ys.length ≤ 8192 := by omega
        clear h0 h1 hg hd
        generalize wr.drew = wd at *
        go_loopw [36] (fun i wx => ∃ k : Nat, i = .int .i64 k ∧ k ≤ ys.length ∧ (∃ v', HeapAt (fun k => F k ∨ w.heap.size ≤ k) wx g v' most (pushAll xs (ys.take k))) ∧ Chg F w wx) (fun i _ => ys.length - (intOf i).toNat)
        case atStart => exact ⟨0, rfl, Nat.zero_le _, ⟨v, by
          have h2 := H1.out.below HB0.out
          exact ⟨h2.head, h2.row, .inl h2.ing, fun k hk => .inl (h2.inv k hk)⟩⟩, Chg.of_below HB0.out⟩
        case round =>
          obtain ⟨k, rfl, hk, ⟨v1, hh⟩, hch⟩ := hrel
          have HC := Lib.hid hch
          by_cases hlt : k < ys.length
          · obtain ⟨b, o, rfl, hbs, hcells⟩ := HA.out (by omega)
            obtain ⟨a0, a1, a2, a3⟩ := hcells k hlt
            have hnb := HAF.out b o rfl
            have e0 := HC.out.cell a0 hnb
            have e1 := HC.out.cell a1 hnb
            have e2 := HC.out.cell a2 hnb
            have e3 := HC.out.cell a3 hnb
            have hsz := hch.size
            clear hcells a0 a1 a2 a3 hch hnb
            have hlen : (pushAll xs (ys.take k)).length = xs.length + k := by rw [pushAll_length _ HH.out, List.length_take]; omega
            have HL := Lib.hid hlen
            obtain ⟨A1, c1, hv1⟩ := hh.any
            rw [hlen] at hv1
            subst hv1
            have H2 := Lib.hid hh
            have HI := Lib.hid hh.ing
            clear hh hlen
            go_wp2_with fail
            show Code.wp _ _ _ _ (wr.alloc (itObj (at_ ys k)))
            have hx := heap_alloc_new wr (itObj (at_ ys k))
            have hba := (Below.refl wr.heap.size wr).alloc (Nat.le_refl _) (itObj (at_ ys k))
            have H3 := Lib.hid (H2.out.below hba)
            have HC3 := Lib.hid (HC.out.below hba)
            clear hba e0 e1 e2 e3 H2 HC
            generalize wr.alloc (itObj (at_ ys k)) = wa at *
            generalize wr.heap.size = xb at *
            obtain ⟨x0, x1, x2, x3, hxl⟩ := it_facts hx
            have hg := blk_lt H3.out.head
            have c1 : wa.cell? ⟨g, 1, none⟩ = some (.slice A1 (xs.length + k) c1) := (blk_cell H3.out.head 1).trans rfl
            refine Txt.wp_region_mix (by kernel_rfl) (by kernel_rfl) (fun HB => ?_)
            repeat (first
              | (refine Txt.mix_p (by rfl) rfl rfl (fun K hK => ?_); go_big_quiet_op; refine hK _ ?_; clear hK K)
              | (refine Txt.mix_re (by rfl) (by decide +kernel) (by rfl) (by rfl) (by go_simp) HB (fun K hK => ?_); go_big_quiet_op; refine hK _ ?_; clear hK K)
              | (refine Txt.mix_rl (by rfl) (by decide +kernel) (by rfl) (by rfl) (by go_simp) HB (fun K hK => ?_); go_big_quiet_op; refine hK _ ?_; clear hK K)
              | (refine Txt.mix_pass (by rfl) (by rfl) ?_; simp only [List.set_cons_succ, List.set_cons_zero]))
            refine Txt.mix_m (fun g => .slice (some ⟨g, 0, none⟩) 1 1) (itObj (at_ ys k)) (by rfl) (by decide +kernel) (fun w1 => by unfold itObj; go_simp) HB ?_
            intro gb w2 hb2 hg2 ho2
            replace HB := HB.trans hb2
            simp only [Act.put, List.setIfInBounds_toArray, List.set_cons_succ, List.set_cons_zero]
            have H4 := Lib.hid (H3.out.below hb2.undrew)
            have HC4 := Lib.hid (HC3.out.below hb2.undrew)
            clear H3 HC3 hx x0 x1 x2 x3 hxl hb2 c1 hg
            have HG := Lib.hid ho2
            clear ho2
            refine Txt.mix_a (by rfl) (by decide +kernel) (fun K hK => ?_)
            refine wp_append (.tmp 44) (.tmp 46) 23 34 (.agg #[(.int .i64 0), (.int .i64 0), (.int .i64 0), (.int .i64 0)]) 4 32 rfl Try.underlying23 info_item rfl (by decide) (.slice A1 (xs.length + k) c1) (xs.length + k) 1 (flat (pushAll xs (ys.take k))) (cells4 (at_ ys k)) gb 1 rfl rfl (by have := H4.out.row; rw [HL.out] at this; exact this) rfl ?_ ?_ (by omega) (by omega) ?_
            · intro j u hu
              rw [blk_cell HG.out]
              exact (List.getElem?_toArray).trans hu
            · intro u hu
              simp only [cells4, List.mem_cons, List.not_mem_nil, or_false] at hu
              rcases hu with rfl | rfl | rfl | rfl <;> rfl
            intro v2 w3 hown3 hgr3 hat
            refine hK _ _ ?_
            clear hK K
            simp only [Act.put, List.setIfInBounds_toArray, List.set_cons_succ, List.set_cons_zero]
            obtain ⟨b3, cap3, rfl, hb3⟩ : ∃ b3 cap3, v2 = .slice (some ⟨b3, 0, none⟩) (xs.length + k + 1) cap3 ∧ (F b3 ∨ w.heap.size ≤ b3) := by
              obtain ⟨b3, cap3, e, _, _⟩ := hown3.form (by omega)
              refine ⟨b3, cap3, e, ?_⟩
              have eb : (Value.slice (some ⟨b3, 0, none⟩) (xs.length + k + 1) cap3).ownBlock = some b3 := rfl
              rw [e, eb] at hat
              rcases hat with hat | hat
              · exact H4.out.inv b3 hat.symm
              · injection hat with hat
                have := HC4.out.size
                exact .inr (by omega)
            have hhead : w3.heap[g]? = some (.cells #[.int .i64 most, .slice A1 (xs.length + k) c1] 54 (0, 0)) := by
              rw [hgr3.block g (blk_lt H4.out.head) (fun e => by
                obtain ⟨cur, hcur⟩ := Go.Proofs.YtcleljmbdiddeaaW.PrintWords.own_typed H4.out.row g e.symm
                rw [H4.out.head] at hcur
                injection hcur with hcur
                injection hcur with _ ht
                exact absurd ht (by decide))]
              exact H4.out.head
            have HC5 := Lib.hid (HC4.out.grown hgr3 (fun j hj => H4.out.inv j hj))
            have hm6 : Mid (fun k => F k ∨ w.heap.size ≤ k) (w3.setCell ⟨g, 1, none⟩ (.slice (some ⟨b3, 0, none⟩) (xs.length + k + 1) cap3)) (w3.setCell ⟨g, 1, none⟩ (.slice (some ⟨b3, 0, none⟩) (xs.length + k + 1) cap3)) g b3 (xs.length + k + 1) cap3 most (pushAll xs (ys.take k) ++ [at_ ys k]) := by
              have hne : g ≠ b3 := by
                rintro rfl
                obtain ⟨cur, hcur⟩ := row_blk hown3
                rw [hhead] at hcur
                injection hcur with hcur
                injection hcur with _ ht
                exact absurd ht (by decide)
              refine ⟨by simpa using blk_set hhead 1 (.slice (some ⟨b3, 0, none⟩) (xs.length + k + 1) cap3), ?_, Chg.refl _ _, hb3, by rw [List.length_append, HL.out]; rfl⟩
              rw [flat_append, flat_one]
              exact row_keep (S := fun j => j = g) hown3 ((Chg.refl (fun j => j = g) w3).setCell (p := ⟨g, 1, none⟩) (.inl rfl) _) (fun j hj e => by
                have : b3 = j := by simpa [Value.ownBlock] using hj
                exact hne (by rw [this, e]))
            have hc6 := HC5.out.setCell (p := ⟨g, 1, none⟩) HI.out (.slice (some ⟨b3, 0, none⟩) (xs.length + k + 1) cap3)
            have HM6 := Lib.hid hm6
            have HC6 := Lib.hid hc6
            clear hm6 hc6
            have hg := blk_lt hhead
            have c1 : w3.cell? ⟨g, 1, none⟩ = some (.slice A1 (xs.length + k) c1) := (blk_cell hhead 1).trans rfl
            have hf := blk_free hhead
            clear hhead hown3 hgr3 hat HC5 H4 HC4
            repeat (first
              | (refine Txt.mix_p (by rfl) rfl rfl (fun K hK => ?_); go_big_quiet_op; refine hK _ ?_; clear hK K)
              | (refine Txt.mix_re (by rfl) (by decide +kernel) (by rfl) (by rfl) (by go_simp) HB (fun K hK => ?_); go_big_quiet_op; refine hK _ ?_; clear hK K)
              | (refine Txt.mix_rl (by rfl) (by decide +kernel) (by rfl) (by rfl) (by go_simp) HB (fun K hK => ?_); go_big_quiet_op; refine hK _ ?_; clear hK K)
              | (refine Txt.mix_pass (by rfl) (by rfl) ?_; simp only [List.set_cons_succ, List.set_cons_zero]))
            refine Txt.mix_a (by rfl) (by decide +kernel) (fun K hK => ?_)
            go_wp2_with fail
            refine Txt.mix_nil ?_
            generalize w3.setCell ⟨g, 1, none⟩ (.slice (some ⟨b3, 0, none⟩) (xs.length + k + 1) cap3) = w6 at *
            clear c1 hf hg HB
            obtain ⟨c1, hg, hb⟩ := HM6.out.facts
            go_wp2_with fail
            rw [show (xs.length : Int) + (k : Int) = ((xs.length + k : Nat) : Int) from (Int.natCast_add _ _).symm]
            refine (up_any (fun k => F k ∨ w.heap.size ≤ k) g b3 (xs.length + k + 1) cap3 (xs.length + k) most _ w6 w6 (by omega) (by omega) HM6.out).mono ?_
            rintro e w7 ⟨rfl, hm7⟩
            have hc7 := HC6.out.trans hm7.chg (fun i hi hs => hs.resolve_right (by omega))
            have hh7 : HeapAt (fun k => F k ∨ w.heap.size ≤ k) w7 g (.slice (some ⟨b3, 0, none⟩) (xs.length + k + 1) cap3) most (pushAll xs (ys.take (k + 1))) := by
              have := hm7.heap HI.out
              rw [take_one hlt, pushAll_snoc]
              unfold push
              rw [HL.out]
              exact this
            have HH7 := Lib.hid hh7
            have HC7 := Lib.hid hc7
            clear hm7 hh7 hc7 c1 hg hb
            go_wp2_with fail
            go_roundw
            case rel => exact ⟨k + 1, by go_num, by omega, ⟨_, HH7.out⟩, HC7.out⟩
            case measure => simp [intOf]; omega
          · obtain rfl : k = ys.length := by omega
            have HH7 := Lib.hid hh
            clear hh hch
            go_wp2_with fail
            go_ret
            refine push_done (v' := v1) HM.out (by omega) ?_ HC.out
            have := HH7.out
            rw [List.take_length] at this
            exact this
end Go.Proofs.Ytcleljmbdiddeaa
