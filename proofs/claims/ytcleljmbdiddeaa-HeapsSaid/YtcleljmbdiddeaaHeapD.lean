/- The heap's functions, walked: the least item is taken. No statement of the seed is proved here. -/
import Derived.Test.YtcleljmbdiddeaaHeapC
namespace Go.Proofs.Ytcleljmbdiddeaa
open Go.RowKit HP PHeaps

theorem Mid.cut {S : Nat → Prop} {w0 w : World} {g b n cap m : Nat} {most : Int} {ys : List It} (h : Mid S w0 w g b n cap most ys) (hg : S g) (hm : m ≤ n) :
    Mid S w0 (w.setCell ⟨g, 1, none⟩ (.slice (some ⟨b, 0, none⟩) m cap)) g b m cap most (ys.take m) := by
  refine ⟨?_, ?_, h.chg.setCell (.inl hg) _, h.inb, by rw [List.length_take, h.len]; omega⟩
  · have := blk_set h.head 1 (.slice (some ⟨b, 0, none⟩) m cap)
    simpa using this
  · have hk : Chg (fun k => k = g) w (w.setCell ⟨g, 1, none⟩ (.slice (some ⟨b, 0, none⟩) m cap)) := (Chg.refl (fun k => k = g) w).setCell (p := ⟨g, 1, none⟩) (.inl rfl) _
    refine row_keep (row_take h.row hm) hk (fun k hk => ?_)
    have : b = k := by simpa [Value.ownBlock] using hk
    have hne := h.ne
    intro he
    exact hne (by rw [this, he])

theorem Mid.other {S : Nat → Prop} {w0 w : World} {g b n cap : Nat} {most : Int} {ys : List It} (h : Mid S w0 w g b n cap most ys) {p : Addr} (hg : p.block ≠ g) (hb : p.block ≠ b) (hs : S p.block ∨ w0.heap.size ≤ p.block) (u : Value) : Mid S w0 (w.setCell p u) g b n cap most ys := by
  have hk : Chg (fun k => k = p.block) w (w.setCell p u) := (Chg.refl (fun k => k = p.block) w).setCell (.inl rfl) _
  exact ⟨blk_far h.head (fun e => hg e.symm) u, row_keep h.row hk (fun k hk e => by
    have : b = k := by simpa [Value.ownBlock] using hk
    exact hb (by rw [← e, this])), h.chg.setCell hs u, h.inb, h.len⟩

theorem Mid.anew {S : Nat → Prop} {w0 w : World} {g b n cap : Nat} {most : Int} {ys : List It} (h : Mid S w0 w g b n cap most ys) : Mid S w w g b n cap most ys := ⟨h.head, h.row, Chg.refl _ _, h.inb, h.len⟩

theorem Mid.heap {F : Nat → Prop} {w0 w : World} {g b n cap : Nat} {most : Int} {ys : List It} (h : Mid F w0 w g b n cap most ys) (hg : F g) : HeapAt F w g (.slice (some ⟨b, 0, none⟩) n cap) most ys :=
  ⟨h.head, by rw [h.len]; exact h.row, hg, fun k hk => by
    have : b = k := by simpa [Value.ownBlock] using hk
    rw [← this]; exact h.inb⟩

set_option maxHeartbeats 400000 in
theorem pop_none {F : Nat → Prop} (g : Nat) (v : Value) (most : Int) (w : World) (h : HeapAt F w g v most []) :
    Calls Try.prog 20 #[.pointer (some ⟨g, 0, none⟩)] w fun e w' => e = .returned (.tuple #[.agg #[.int .i64 0, .int .i64 0, .int .i64 0, .int .i64 0], .int .i64 1502]) ∧ Below w.heap.size w w' := by
  have H1 := Lib.hid h
  clear h
  go_enter Try.func20, Try.ntmps20
  go_wp2_with fail
  refine (peek_none g v most _ (H1.out.below ((Below.refl _ _).alloc (Nat.le_refl _) _))).mono ?_
  rintro e w1 ⟨rfl, hb1⟩
  have hr := (hb1.block w.heap.size (by simp)).trans (heap_alloc_new w _)
  have hlt := blk_lt hr
  have c0 := blk_cell hr 0
  have c1 := blk_cell hr 1
  have c2 := blk_cell hr 2
  have c3 := blk_cell hr 3
  have hf := blk_free hr
  simp only [List.getElem?_toArray, List.getElem?_cons_zero, List.getElem?_cons_succ] at c0 c1 c2 c3
  have hb0 : Below w.heap.size w w1 := ((Below.refl _ _).alloc (Nat.le_refl _) _).trans (hb1.mono (by simp))
  have HB := Lib.hid hb0
  clear hr hb1 hb0
  go_wp2_with fail
  have hs1 : ∀ (u : World) (j : Nat) (x : Value), Below w.heap.size w u → Below w.heap.size w (u.setCell ⟨w.heap.size, j, none⟩ x) := fun u j x hu => hu.setCell (p := ⟨w.heap.size, j, none⟩) (Nat.le_refl _) x
  refine bodyPost_ret (v := .tuple #[.agg #[.int .i64 0, .int .i64 0, .int .i64 0, .int .i64 0], .int .i64 1502]) (by simp [results, Try.results20, go_sem, c0, c1, c2, c3, hlt]) rfl ⟨rfl, ?_⟩
  exact (hs1 _ _ _ (hs1 _ _ _ (hs1 _ _ _ (hs1 _ _ _ HB.out)))).alloc (by have := HB.out.size; simp [World.setCell]; omega) _

/-- An item in a block of its own. -/
def itObj (x : It) : Obj := .cells #[.int .i64 x.s, .int .i64 x.t, .int .i64 x.q, .int .i64 x.v] 34

theorem down_zero (S : Nat → Prop) (g b n cap : Nat) (most : Int) (xs : List It) (w0 w : World) (hn : n ≤ 10000) (hm : Mid S w0 w g b n cap most xs) :
    Calls Try.prog 32 #[.pointer (some ⟨g, 0, none⟩), .int .i64 0] w fun e w' => e = .returned (.tuple #[]) ∧ Mid S w0 w' g b n cap most (down xs 0) := by
  have := down_any S g b n cap 0 most xs w0 w hn (Nat.zero_le _) hm
  simpa using this

theorem it_facts {w : World} {r : Nat} {x : It} (h : w.heap[r]? = some (itObj x)) :
    w.cell? ⟨r, 0, none⟩ = some (.int .i64 x.s) ∧ w.cell? ⟨r, 1, none⟩ = some (.int .i64 x.t) ∧ w.cell? ⟨r, 2, none⟩ = some (.int .i64 x.q) ∧ w.cell? ⟨r, 3, none⟩ = some (.int .i64 x.v) ∧ r < w.heap.size :=
  ⟨(blk_cell h 0).trans rfl, (blk_cell h 1).trans rfl, (blk_cell h 2).trans rfl, (blk_cell h 3).trans rfl, blk_lt h⟩

set_option maxHeartbeats 800000 in
set_option maxRecDepth 100000 in
theorem pop_some {F : Nat → Prop} (g : Nat) (v : Value) (most : Int) (xs : List It) (w : World) (h : HeapAt F w g v most xs) (hF : ∀ k, F k → k < w.heap.size) (hp : 0 < xs.length) (hn : xs.length ≤ 10000) :
    Calls Try.prog 20 #[.pointer (some ⟨g, 0, none⟩)] w fun e w' => e = .returned (.tuple #[.agg #[.int .i64 (at_ xs 0).s, .int .i64 (at_ xs 0).t, .int .i64 (at_ xs 0).q, .int .i64 (at_ xs 0).v], .int .i64 0]) ∧ (∃ v', HeapAt F w' g v' most (pop xs)) ∧ Chg F w w' := by
  have H1 := Lib.hid h
  have HF := Lib.hid hF
  clear h hF
  go_enter Try.func20, Try.ntmps20
  go_wp2_with fail
  refine (peek_some g v most xs _ (H1.out.below ((Below.refl _ _).alloc (Nat.le_refl _) _)) hp).mono ?_
  rintro e w1 ⟨rfl, hb1⟩
  have hr := (hb1.block w.heap.size (by simp)).trans (heap_alloc_new w _)
  have hb0 : Below w.heap.size w w1 := ((Below.refl _ _).alloc (Nat.le_refl _) _).trans (hb1.mono (by simp))
  have h1 := H1.out.below hb0
  obtain ⟨b, cap, rfl, hFb⟩ := h1.form hp
  have hm : Mid F w w1 g b xs.length cap most xs := ⟨h1.head, h1.row, Chg.of_below hb0, hFb, rfl⟩
  have hgr : w.heap.size ≠ g := by have := HF.out g h1.ing; omega
  have hbr : w.heap.size ≠ b := by have := HF.out b hFb; omega
  have hsz := hb0.size
  have HI := Lib.hid h1.ing
  clear hb0 hb1 h1
  generalize hR : w.heap.size = rb at hr hgr hbr hsz
  have HR := Lib.hid hR
  clear hR
  obtain ⟨c1, hg, hb⟩ := hm.facts
  obtain ⟨a0, a1, a2, a3⟩ := hm.get hp
  obtain ⟨b0, b1, b2, b3⟩ := hm.get (show xs.length - 1 < xs.length by omega)
  have hrl := blk_lt hr
  have r0 := blk_cell hr 0
  have r1 := blk_cell hr 1
  have r2 := blk_cell hr 2
  have r3 := blk_cell hr 3
  have hf := blk_free hr
  have hgb := hm.ne
  simp only [List.getElem?_toArray, List.getElem?_cons_zero, List.getElem?_cons_succ] at r0 r1 r2 r3
  simp only [Nat.zero_mul, Nat.zero_add] at a0 a1 a2 a3
  have hcap := (row_cap hm.row).1
  go_wp2_with fail
  show Code.wp _ _ _ _ (w1.alloc (itObj (at_ xs 0)))
  have hx := heap_alloc_new w1 (itObj (at_ xs 0))
  have hba := (Below.refl w1.heap.size w1).alloc (Nat.le_refl _) (itObj (at_ xs 0))
  have hm2 := hm.below hba
  have hr2 := (hba.block rb hrl).trans hr
  have hxg : w1.heap.size ≠ g := by omega
  have hxb : w1.heap.size ≠ b := by omega
  have hxr : w1.heap.size ≠ rb := by omega
  clear c1 a0 a1 a2 a3 b0 b1 b2 b3 r0 r1 r2 r3 hf hm hr hba hg hb hrl
  generalize w1.alloc (itObj (at_ xs 0)) = w2 at *
  generalize w1.heap.size = xb at *
  obtain ⟨c1, hg, hb⟩ := hm2.facts
  obtain ⟨a0, a1, a2, a3⟩ := hm2.get hp
  obtain ⟨b0, b1, b2, b3⟩ := hm2.get (show xs.length - 1 < xs.length by omega)
  simp only [Nat.zero_mul, Nat.zero_add] at a0 a1 a2 a3
  have hfz := hm2.free
  refine Txt.wp_region_text (by kernel_rfl) (by kernel_rfl) ?_
  repeat (first
    | (refine Txt.text_p (by rfl) rfl (fun K hK => ?_); go_big_quiet_op; refine hK _ ?_; clear hK K)
    | (refine Txt.text_r (by rfl) rfl (fun K hK => ?_); go_big_quiet_op; refine hK _ ?_; clear hK K)
    | (refine Txt.text_pass (by rfl) (by rfl) ?_; simp only [List.set_cons_succ, List.set_cons_zero]))
  refine Txt.text_a (by rfl) rfl (fun K hK => ?_)
  go_wp2_with fail
  show Txt.wpText _ _ _ _ _ (put4 w2.drew b 0 (at_ xs (xs.length - 1)))
  have hm3 := hm2.drew.put hp (at_ xs (xs.length - 1))
  have hr3 : (put4 w2.drew b 0 (at_ xs (xs.length - 1))).heap[rb]? = some (.cells #[.int .i64 0, .int .i64 0, .int .i64 0, .int .i64 0] 34) := blk_far (blk_far (blk_far (blk_far hr2 hbr _) hbr _) hbr _) hbr _
  have hx3 : (put4 w2.drew b 0 (at_ xs (xs.length - 1))).heap[xb]? = some (itObj (at_ xs 0)) := blk_far (blk_far (blk_far (blk_far hx hxb _) hxb _) hxb _) hxb _
  clear c1 a0 a1 a2 a3 b0 b1 b2 b3 hfz hr2 hx hm2 hg hb
  generalize put4 w2.drew b 0 (at_ xs (xs.length - 1)) = w3 at *
  refine Txt.text_nil ?_
  obtain ⟨c1, hg, hb⟩ := hm3.facts
  have g1 := blk_free hm3.head
  go_wp2_with fail
  have hm4 := hm3.cut HI.out (show xs.length - 1 ≤ xs.length by omega)
  have hr4 := blk_far hr3 (p := ⟨g, 1, none⟩) hgr (.slice (some ⟨b, 0, none⟩) (xs.length - 1) cap)
  have hx4 := blk_far hx3 (p := ⟨g, 1, none⟩) hxg (.slice (some ⟨b, 0, none⟩) (xs.length - 1) cap)
  clear c1 hg hb g1 hm3 hr3 hx3
  refine (down_zero F g b (xs.length - 1) cap most _ _ _ (by omega) hm4.anew).mono ?_
  rintro e w5 ⟨rfl, hm5⟩
  have hFr : ¬ F rb := fun h => by have := HF.out rb h; have := HR.out; omega
  have hFx : ¬ F xb := fun h => by have := HF.out xb h; have := HR.out; omega
  have hr5 := hm5.chg.obj hr4 hFr
  have hx5 := hm5.chg.obj hx4 hFx
  have hc5 := hm4.chg.then_ hm5.chg
  have hh5 := hm5.heap HI.out
  clear hm4 hm5 hr4 hx4 hFr hFx
  obtain ⟨x0, x1, x2, x3, hxl⟩ := it_facts hx5
  have r0 := blk_cell hr5 0
  have r1 := blk_cell hr5 1
  have r2 := blk_cell hr5 2
  have r3 := blk_cell hr5 3
  have hf := blk_free hr5
  simp only [List.getElem?_toArray, List.getElem?_cons_zero, List.getElem?_cons_succ] at r0 r1 r2 r3
  have hrl := blk_lt hr5
  go_wp2_with fail
  have hs1 : ∀ (u : World) (j : Nat) (x : Value), Chg F w u → Chg F w (u.setCell ⟨rb, j, none⟩ x) := fun u j x hu => hu.setCell (p := ⟨rb, j, none⟩) (.inr (Nat.le_of_eq HR.out)) x
  have hs2 : ∀ (u : World) (j : Nat) (x : Value), Chg (fun k => k = rb) u (u.setCell ⟨rb, j, none⟩ x) := fun u j x => (Chg.refl (fun k => k = rb) u).setCell (p := ⟨rb, j, none⟩) (.inl rfl) x
  refine bodyPost_ret (v := .tuple #[.agg #[.int .i64 (at_ xs 0).s, .int .i64 (at_ xs 0).t, .int .i64 (at_ xs 0).q, .int .i64 (at_ xs 0).v], .int .i64 0]) (by simp [results, Try.results20, go_sem, r0, r1, r2, r3]) rfl ⟨rfl, ?_, hs1 _ _ _ (hs1 _ _ _ (hs1 _ _ _ (hs1 _ _ _ hc5)))⟩
  refine ⟨.slice (some ⟨b, 0, none⟩) (xs.length - 1) cap, hh5.keep (S := fun k => k = rb) ((((hs2 _ _ _).then_ (hs2 _ _ _)).then_ (hs2 _ _ _)).then_ (hs2 _ _ _)) (fun k hk e => ?_)⟩
  have := HF.out k hk
  have := HR.out
  omega
end Go.Proofs.Ytcleljmbdiddeaa
