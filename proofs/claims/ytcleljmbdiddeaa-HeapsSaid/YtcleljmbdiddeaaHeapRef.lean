/- The reference's heap: its New, Peek and Pop. No statement of the seed is proved here. -/
import Derived.Test.YtcleljmbdiddeaaHeapCut
namespace Go.Proofs.Ytcleljmbdiddeaa
open Go.RowKit HP PHeaps

/-- Items that are read are appended to a row of one's own. -/
theorem cat_any {ops : Array Oper} {Q : Exit → Act → World → Prop} {o : Oper} {rest : List Oper} {a : Act} {w : World} {v : Value} {ys : List It} (s x : Operand)
    (hgd : o.guard = none) (ho : o.op = .call { callee := .builtin .append, args := #[s, x], argTypes := #[23, 23] })
    (L : w.ownsRow 0 34 4 v ys.length (flat ys)) (hs : a.eval s = v) (A : Option Addr) (zs : List It) (m c : Nat) (hm : zs.length = m) (hx : a.eval x = .slice A m c)
    (hA : Rd w A zs) (hc : A = none → c = 0) (hl : (ys.length + m) * 32 ≤ 140737488355328)
    (h : ∀ v1 w1, w1.ownsRow 0 34 4 v1 (ys ++ zs).length (flat (ys ++ zs)) → w.grownBy w1 v.ownBlock → (v1.ownBlock = v.ownBlock ∨ v1.ownBlock = some w.heap.size) → wpList Try.prog ops Q rest (a.put o.dst v1) w1) : AtAppend Try.prog ops Q o rest a w := by
  subst hm
  unfold AtAppend
  refine wpList_plain hgd fun K hK => ?_
  obtain ⟨i0, hi, hz0, hz1, hz2⟩ := info_parts info_item
  cases A with
  | none =>
    have hz : zs = [] := by
      cases zs with
      | nil => rfl
      | cons z r => obtain ⟨b, o, e, -⟩ := hA (by simp); cases e
    subst hz
    have hr := run_append_owned_none (P := Try.prog) w 0 23 o.type 34 i0 4 Try.underlying23 hi v ys.length (flat ys) L
    rw [hc rfl] at hx
    unfold Oper.wp execOp
    simp only [ho, resolve, invoke, builtin, Sem.run_bind, Sem.run_pure, Result.andThen_ok, List.map_toArray, List.map_cons, List.map_nil, hs, hx, List.length_nil, hr]
    exact hK _ _ (h v w (by rw [List.append_nil]; exact L) (World.grownBy.refl _ _) (.inl rfl))
  | some ad =>
    obtain ⟨v1, w1, hr, h2, h3, _, h5⟩ := run_append_own_at (P := Try.prog) w 0 23 o.type 34 i0 (.agg #[(.int .i64 0), (.int .i64 0), (.int .i64 0), (.int .i64 0)]) 4 32 Try.underlying23 hi hz0 hz1 hz2 rfl (by decide) v ys.length (flat ys) L ad zs.length c (flat zs) (flat_length zs) hA.flat (fun u hu => by
      obtain ⟨y, _, hy⟩ := List.mem_flatMap.1 hu
      simp only [cells4, List.mem_cons, List.not_mem_nil, or_false] at hy
      rcases hy with rfl | rfl | rfl | rfl <;> rfl) (by simp only [maxLen]; omega) hl (Nat.zero_le _)
    unfold Oper.wp execOp
    simp only [ho, resolve, invoke, builtin, Sem.run_bind, Sem.run_pure, Result.andThen_ok, List.map_toArray, List.map_cons, List.map_nil, hs, hx, hr]
    exact hK _ _ (h v1 w1 (by rw [List.length_append, flat_append]; exact h2) h3 h5)

/-- The reference's heap in memory. -/
structure RefAt (w : World) (g : Nat) (v : Value) (most : Int) (ys : List It) : Prop where
  head : w.heap[g]? = some (.cells #[.int .i64 most, v] 47 (0, 0))
  row : w.ownsRow 0 34 4 v ys.length (flat ys)

section
variable {w w1 : World} {g : Nat} {v : Value} {most : Int} {ys : List It}
theorem RefAt.keep {S : Nat → Prop} (h : RefAt w g v most ys) (hc : Chg S w w1) (hd : ∀ k, own g v k → ¬ S k) : RefAt w1 g v most ys :=
  ⟨hc.obj h.head (hd g (.inl rfl)), row_keep h.row hc (fun k hk => hd k (.inr hk))⟩
theorem RefAt.below (h : RefAt w g v most ys) (hb : Below w.heap.size w w1) : RefAt w1 g v most ys :=
  h.keep (S := fun _ => False) (Chg.of_below hb) (fun _ _ h => h)
theorem RefAt.form (h : RefAt w g v most ys) (hp : 0 < ys.length) : ∃ b cap, v = .slice (some ⟨b, 0, none⟩) ys.length cap := by
  obtain ⟨b, cap, e, _, _⟩ := h.row.form hp
  exact ⟨b, cap, e⟩
theorem RefAt.any (h : RefAt w g v most ys) : ∃ A c, v = .slice A ys.length c := by
  rcases h.row.2 with ⟨e, h0⟩ | ⟨b, cap, cur, e, _⟩
  · exact ⟨none, 0, by rw [e, h0]⟩
  · exact ⟨_, cap, e⟩
theorem RefAt.lt (h : RefAt w g v most ys) : ∀ k, own g v k → k < w.heap.size := fun k hk => by
  rcases hk with rfl | hk
  · exact blk_lt h.head
  · exact (h.row.lt k hk).2
end

set_option maxHeartbeats 400000 in
theorem ref_new_ok (m : Int) (w : World) (h1 : 1 ≤ m) (h2 : m ≤ 8192) :
    Calls Try.prog 17 #[.int .i64 m] w fun e w' => e = .returned (.tuple #[.pointer (some ⟨w.heap.size, 0, none⟩), .int .i64 0]) ∧ w' = w.alloc (.cells #[.int .i64 m, .slice none 0 0] 47) := by
  go_enter Try.func17, Try.ntmps17
  go_wp2
  go_ret2
  exact ⟨rfl, rfl⟩
theorem ref_new_at (m : Int) (w : World) : RefAt (w.alloc (.cells #[.int .i64 m, .slice none 0 0] 47)) w.heap.size (.slice none 0 0) m [] :=
  ⟨heap_alloc_new w _, World.ownsRow_nil _ _ _ _⟩
set_option maxHeartbeats 400000 in
theorem ref_new_no (m : Int) (w : World) (h : m < 1 ∨ 8192 < m) :
    Calls Try.prog 17 #[.int .i64 m] w fun e w' => e = .returned (.tuple #[.pointer none, .int .i64 1500]) ∧ w' = w := by
  rcases h with h | h
  · go_enter Try.func17, Try.ntmps17
    go_wp2
    go_ret2
    exact ⟨rfl, rfl⟩
  · go_enter Try.func17, Try.ntmps17
    go_wp2
    go_ret2
    exact ⟨rfl, rfl⟩

set_option maxHeartbeats 400000 in
theorem ref_peek_none (g : Nat) (v : Value) (most : Int) (w : World) (h : RefAt w g v most []) :
    Calls Try.prog 28 #[.pointer (some ⟨g, 0, none⟩)] w fun e w' => e = .returned (.tuple #[.agg #[.int .i64 0, .int .i64 0, .int .i64 0, .int .i64 0], .int .i64 1502]) ∧ Below w.heap.size w w' := by
  obtain ⟨A, c, rfl⟩ := h.any
  have hc : w.cell? ⟨g, 1, none⟩ = some (.slice A 0 c) := (blk_cell h.head 1).trans rfl
  have hg := blk_lt h.head
  clear h
  go_enter Try.func28, Try.ntmps28
  go_wp2
  refine bodyPost_ret (v := .tuple #[.agg #[.int .i64 0, .int .i64 0, .int .i64 0, .int .i64 0], .int .i64 1502]) (by simp [results, Try.results28, go_sem]) rfl ⟨rfl, ?_⟩
  exact (Below.refl _ _).alloc (Nat.le_refl _) _

set_option maxHeartbeats 400000 in
theorem ref_peek_some (g : Nat) (v : Value) (most : Int) (ys : List It) (w : World) (h : RefAt w g v most ys) (hp : 0 < ys.length) :
    Calls Try.prog 28 #[.pointer (some ⟨g, 0, none⟩)] w fun e w' => e = .returned (.tuple #[.agg #[.int .i64 (at_ ys 0).s, .int .i64 (at_ ys 0).t, .int .i64 (at_ ys 0).q, .int .i64 (at_ ys 0).v], .int .i64 0]) ∧ Below w.heap.size w w' := by
  obtain ⟨b, c, rfl⟩ := h.form hp
  have hc : w.cell? ⟨g, 1, none⟩ = some (.slice (some ⟨b, 0, none⟩) ys.length c) := (blk_cell h.head 1).trans rfl
  have hg := blk_lt h.head
  obtain ⟨a0, a1, a2, a3⟩ := row_get h.row hp
  obtain ⟨cur, hcur⟩ := row_blk h.row
  have hb := blk_lt hcur
  simp only [Nat.zero_mul, Nat.zero_add] at a0 a1 a2 a3
  have hl : ((ys.length : Int) == 0) = false := by simp; intro e; rw [e] at hp; simp at hp
  clear h hcur
  generalize ys.length = n at *
  go_enter Try.func28, Try.ntmps28
  go_wp2
  refine bodyPost_ret (v := .tuple #[.agg #[.int .i64 (at_ ys 0).s, .int .i64 (at_ ys 0).t, .int .i64 (at_ ys 0).q, .int .i64 (at_ ys 0).v], .int .i64 0]) (by simp [results, Try.results28, go_sem]) rfl ⟨rfl, ?_⟩
  exact (Below.refl _ _).alloc (Nat.le_refl _) _
end Go.Proofs.Ytcleljmbdiddeaa
