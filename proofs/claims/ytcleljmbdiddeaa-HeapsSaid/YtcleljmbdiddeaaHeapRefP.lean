/- The reference's heap: its Pop. No statement of the seed is proved here. -/
import Derived.Test.YtcleljmbdiddeaaHeapRef
namespace Go.Proofs.Ytcleljmbdiddeaa
open Go.RowKit HP PHeaps

theorem fresh_row (w : World) : (w.alloc (.cells #[] 34)).ownsRow 0 34 4 (.slice (some ⟨w.heap.size, 0, none⟩) 0 0) 0 (flat []) :=
  ⟨rfl, .inr ⟨w.heap.size, 0, #[], rfl, Nat.zero_le _, heap_alloc_new w _, Nat.le_refl _, Nat.zero_le _, rfl, rfl⟩⟩
theorem row_any {w : World} {v : Value} {n : Nat} {cs : List Value} {T : TypeId} (h : w.ownsRow 0 T 4 v n cs) : ∃ A c, v = .slice A n c := by
  rcases h.2 with ⟨e, h0⟩ | ⟨b, cap, cur, e, _⟩
  · exact ⟨none, 0, by rw [e, h0]⟩
  · exact ⟨_, cap, e⟩
theorem row_rd {w : World} {b c : Nat} {ys : List It} (h : w.ownsRow 0 34 4 (.slice (some ⟨b, 0, none⟩) ys.length c) ys.length (flat ys)) : Rd w (some ⟨b, 0, none⟩) ys := fun _ => by
  refine ⟨b, 0, rfl, (h.lt b rfl).2, fun i hi => ?_⟩
  have := row_get h hi
  simpa using this

set_option maxHeartbeats 800000 in
set_option maxRecDepth 100000 in
theorem ref_pop_none (g : Nat) (v : Value) (most : Int) (w : World) (h : RefAt w g v most []) :
    Calls Try.prog 21 #[.pointer (some ⟨g, 0, none⟩)] w fun e w' => e = .returned (.tuple #[.agg #[.int .i64 0, .int .i64 0, .int .i64 0, .int .i64 0], .int .i64 1502]) ∧ Below w.heap.size w w' := by
  have H1 := Lib.hid h
  clear h
  go_enter Try.func21, Try.ntmps21
  go_wp2_with fail
  refine (ref_peek_none g v most _ (H1.out.below ((Below.refl _ _).alloc (Nat.le_refl _) _))).mono ?_
  rintro e w1 ⟨rfl, hb1⟩
  have hr := (hb1.block w.heap.size (by simp)).trans (heap_alloc_new w _)
  have hlt := blk_lt hr
  have c0 := blk_cell hr 0
  have c1 := blk_cell hr 1
  have c2 := blk_cell hr 2
  have c3 := blk_cell hr 3
  have hf := blk_free hr
  simp only [List.getElem?_toArray, List.getElem?_cons_zero, List.getElem?_cons_succ] at c0 c1 c2 c3
  have hb0 : Below w.heap.size w w1 := ((Below.refl _ _).alloc (Nat.le_refl _) _).trans (hb1.mono (by simp))
  have HB := Lib.hid hb0
  clear hr hb1 hb0
  go_wp2_with fail
  have hs1 : ∀ (u : World) (j : Nat) (x : Value), Below w.heap.size w u → Below w.heap.size w (u.setCell ⟨w.heap.size, j, none⟩ x) := fun u j x hu => hu.setCell (p := ⟨w.heap.size, j, none⟩) (Nat.le_refl _) x
  refine bodyPost_ret (v := .tuple #[.agg #[.int .i64 0, .int .i64 0, .int .i64 0, .int .i64 0], .int .i64 1502]) (by simp [results, Try.results21, go_sem, c0, c1, c2, c3, hlt]) rfl ⟨rfl, ?_⟩
  exact (hs1 _ _ _ (hs1 _ _ _ (hs1 _ _ _ (hs1 _ _ _ HB.out)))).alloc (by have := HB.out.size; simp [World.setCell]; omega) _

set_option maxHeartbeats 2000000 in
set_option maxRecDepth 100000 in
theorem ref_pop_some (g : Nat) (v : Value) (most : Int) (ys : List It) (w : World) (h : RefAt w g v most ys) (hp : 0 < ys.length) (hn : ys.length ≤ 10000) :
    Calls Try.prog 21 #[.pointer (some ⟨g, 0, none⟩)] w fun e w' => e = .returned (.tuple #[.agg #[.int .i64 (at_ ys 0).s, .int .i64 (at_ ys 0).t, .int .i64 (at_ ys 0).q, .int .i64 (at_ ys 0).v], .int .i64 0]) ∧ ∃ v', RefAt w' g v' most (ys.drop 1) ∧ Step g v w v' w' := by
  have H1 := Lib.hid h
  clear h
  go_enter Try.func21, Try.ntmps21
  go_wp2_with fail
  refine (ref_peek_some g v most ys _ (H1.out.below ((Below.refl _ _).alloc (Nat.le_refl _) _)) hp).mono ?_
  rintro e w1 ⟨rfl, hb1⟩
  have hr := (hb1.block w.heap.size (by simp)).trans (heap_alloc_new w _)
  have hb0 : Below w.heap.size w w1 := ((Below.refl _ _).alloc (Nat.le_refl _) _).trans (hb1.mono (by simp))
  obtain ⟨b, cap, rfl⟩ := H1.out.form hp
  have hgr : w.heap.size ≠ g := by have := H1.out.lt g (.inl rfl); omega
  have hx := heap_alloc_new w1 (itObj (at_ ys 0))
  have hba := (Below.refl w1.heap.size w1).alloc (Nat.le_refl _) (itObj (at_ ys 0))
  have hb2 := hb0.trans (hba.mono hb0.size)
  have hr2 := (hba.block _ (blk_lt hr)).trans hr
  have hrx : w.heap.size ≠ w1.heap.size := by have := blk_lt hr; omega
  have hxg : w1.heap.size ≠ g := by have := H1.out.lt g (.inl rfl); have := hb0.size; omega
  have h1 := H1.out.below hb0
  have c1 : w1.cell? ⟨g, 1, none⟩ = some (.slice (some ⟨b, 0, none⟩) ys.length cap) := (blk_cell h1.head 1).trans rfl
  have hg := blk_lt h1.head
  obtain ⟨hc1, hc2⟩ := row_cap h1.row
  have HB := Lib.hid hb2
  have HR := Lib.hid hr2
  have HX := Lib.hid hx
  clear hr hb0 hb1 hba h1 hb2 hr2 hx
  go_wp2_with (at_builtin; refine at_append _ _ _ rfl ?_)
  all_goals
    have hsz : (w1.alloc (itObj (at_ ys 0))).heap.size = w1.heap.size + 1 := by simp
    have hfr := fresh_row (w1.alloc (itObj (at_ ys 0)))
    rw [hsz] at hfr
    have hal := (Below.refl (w1.alloc (itObj (at_ ys 0))).heap.size (w1.alloc (itObj (at_ ys 0)))).alloc (Nat.le_refl _) (.cells #[] 34)
    have hb3 := HB.out.trans (hal.mono HB.out.size)
    have h3 := H1.out.below hb3
    have hr3 := (hal.block _ (blk_lt HR.out)).trans HR.out
    have hx3 := (hal.block _ (blk_lt HX.out)).trans HX.out
    have hgl := H1.out.lt g (.inl rfl)
    have hwl := HB.out.size
    rw [hsz] at hwl
    have hrl := blk_lt HR.out
    rw [hsz] at hrl
    first
    | refine cat_any (.tmp 14) (.tmp 19) rfl rfl hfr rfl (some ⟨b, 4, none⟩) (ys.drop 1) (ys.length - 1) (cap - 1) (by simp) rfl (by have := (row_rd h3.row).drop 1; exact this) (fun e => by cases e) (by simp; omega) ?_
    | refine cat_any (.tmp 14) (.tmp 19) rfl rfl hfr rfl (some ⟨b, 0, none⟩) (ys.drop 1) (ys.length - 1) 0 (by simp) rfl (fun h => absurd h (by simp; omega)) (fun e => by cases e) (by simp; omega) ?_
    rintro v1 w4 hrow hgr hat
    rw [List.nil_append] at hrow
    obtain ⟨A2, c2, rfl⟩ := row_any hrow
    have hown : ∀ k, (Value.slice A2 (ys.drop 1).length c2).ownBlock = some k → w1.heap.size + 1 ≤ k := fun k hk => by
      rcases hat with e | e
      · rw [hk] at e
        have e1 : k = w1.heap.size + 1 := by simpa [Value.ownBlock] using e
        omega
      · rw [hk] at e
        have e1 : k = (w1.alloc (itObj (at_ ys 0))).heap.size + 1 := by simpa using e
        omega
    have hgrow := (Chg.refl (fun k => w1.heap.size + 1 ≤ k) _).grown hgr (fun k hk => by
      have e1 : w1.heap.size + 1 = k := by simpa [Value.ownBlock] using hk
      exact .inl (Nat.le_of_eq e1))
    have hh4 := hgrow.obj h3.head (by omega)
    have hr4 := hgrow.obj hr3 (by omega)
    have hx4 := hgrow.obj hx3 (by omega)
    have hc4 := (Chg.of_below (S := own g (.slice (some ⟨b, 0, none⟩) ys.length cap)) hb3).trans hgrow (fun i hi hs => absurd hs (by omega))
    have HC := Lib.hid hc4
    have HH := Lib.hid hh4
    have HR4 := Lib.hid hr4
    have HROW := Lib.hid hrow
    have HOWN := Lib.hid hown
    obtain ⟨x0, x1, x2, x3, x4⟩ := it_facts hx4
    have c1 := blk_cell hh4 1
    have g1 := blk_free hh4
    have hg := blk_lt hh4
    have r0 := blk_cell hr4 0
    have r1 := blk_cell hr4 1
    have r2 := blk_cell hr4 2
    have r3 := blk_cell hr4 3
    have hf := blk_free hr4
    simp only [List.getElem?_toArray, List.getElem?_cons_zero, List.getElem?_cons_succ] at c1 r0 r1 r2 r3
    clear hsz hfr hal hb3 h3 hr3 hx3 hrow hgr hat hown hgrow hh4 hr4 hx4 hc4 HB HR HX
    simp only [Act.put, List.setIfInBounds_toArray, List.set_cons_succ, List.set_cons_zero]
    go_wp2_with fail
    have hs1 : ∀ (u : World) (j : Nat) (x : Value), Chg (own g (.slice (some ⟨b, 0, none⟩) ys.length cap)) w u → Chg (own g (.slice (some ⟨b, 0, none⟩) ys.length cap)) w (u.setCell ⟨w.heap.size, j, none⟩ x) := fun u j x hu => hu.setCell (p := ⟨w.heap.size, j, none⟩) (.inr (Nat.le_refl _)) x
    have hs2 : ∀ (u : World) (j : Nat) (x : Value), Chg (fun k => k = w.heap.size) u (u.setCell ⟨w.heap.size, j, none⟩ x) := fun u j x => (Chg.refl (fun k => k = w.heap.size) u).setCell (p := ⟨w.heap.size, j, none⟩) (.inl rfl) x
    refine bodyPost_ret (v := .tuple #[.agg #[.int .i64 (at_ ys 0).s, .int .i64 (at_ ys 0).t, .int .i64 (at_ ys 0).q, .int .i64 (at_ ys 0).v], .int .i64 0]) (by simp [results, Try.results21, go_sem, r0, r1, r2, r3]) rfl ⟨rfl, .slice A2 (ys.drop 1).length c2, ?_, ?_⟩
    · rw [← show (ys.drop 1).length = ys.length - 1 by simp]
      have h5 : RefAt (w4.setCell ⟨g, 1, none⟩ (.slice A2 (ys.drop 1).length c2)) g (.slice A2 (ys.drop 1).length c2) most (ys.drop 1) := by
        refine ⟨blk_set HH.out 1 _, row_keep (S := fun k => k = g) HROW.out ((Chg.refl (fun k => k = g) w4).setCell (p := ⟨g, 1, none⟩) (.inl rfl) _) (fun k hk e => ?_)⟩
        have := HOWN.out k hk
        omega
      refine h5.keep (S := fun k => k = w.heap.size) ((((hs2 _ _ _).then_ (hs2 _ _ _)).then_ (hs2 _ _ _)).then_ (hs2 _ _ _)) (fun k hk e => ?_)
      have e1 : k = w.heap.size := e
      rcases hk with hk | hk
      · omega
      · have := HOWN.out k hk
        omega
    · rw [← show (ys.drop 1).length = ys.length - 1 by simp]
      refine ⟨hs1 _ _ _ (hs1 _ _ _ (hs1 _ _ _ (hs1 _ _ _ (HC.out.setCell (p := ⟨g, 1, none⟩) (.inl (.inl rfl)) _)))), fun k hk hn hk' => ?_⟩
      rcases hk' with hk' | hk'
      · exact hn (.inl hk')
      · have := HOWN.out k hk'
        omega
end Go.Proofs.Ytcleljmbdiddeaa
