/- The heap's functions, walked: made, asked, taken from. No statement of the seed is proved here. -/
import Derived.Test.YtcleljmbdiddeaaHeapB
import Derived.Test.YtcleljmbdiddeaaMix
namespace Go.Proofs.Ytcleljmbdiddeaa
open Go.RowKit HP PHeaps

/-- May an item be? -/
def may (x : It) : Bool := decide (0 ≤ x.s ∧ x.s ≤ 1048575 ∧ -1099511627776 ≤ x.t ∧ x.t ≤ 1099511627776 ∧ 1 ≤ x.q ∧ x.q ≤ 1073741823 ∧ -1099511627776 ≤ x.v ∧ x.v ≤ 1099511627776)
theorem may_f (x : It) : acc_ItemMay.f x.s x.t x.q x.v = some (may x) := by
  unfold acc_ItemMay.f acc_within.f may
  have e : wrap64 (-1099511627776) = -1099511627776 := by unfold wrap64; rfl
  simp only [e]
  by_cases h1 : x.s ≥ 0 <;> by_cases h2 : x.s ≤ 1048575 <;> by_cases h3 : x.t ≥ -1099511627776 <;> by_cases h4 : x.t ≤ 1099511627776 <;> by_cases h5 : x.q ≥ 1 <;> by_cases h6 : x.q ≤ 1073741823 <;> by_cases h7 : x.v ≥ -1099511627776 <;> by_cases h8 : x.v ≤ 1099511627776 <;> simp [h1, h2, h3, h4, h5, h6, h7, h8] <;> omega
theorem may_any (x : It) (w : World) :
    Calls Try.prog 34 #[.agg #[.int .i64 x.s, .int .i64 x.t, .int .i64 x.q, .int .i64 x.v]] w fun e w' => e = .returned (.bool (may x)) ∧ Below w.heap.size w w' :=
  acc_ItemMay.calls _ _ _ _ _ w (may_f x)
theorem may_yes (x : It) (w : World) (h : may x = true) :
    Calls Try.prog 34 #[.agg #[.int .i64 x.s, .int .i64 x.t, .int .i64 x.q, .int .i64 x.v]] w fun e w' => e = .returned (.bool true) ∧ Below w.heap.size w w' := by
  rw [← h]; exact may_any x w
theorem may_no (x : It) (w : World) (h : may x = false) :
    Calls Try.prog 34 #[.agg #[.int .i64 x.s, .int .i64 x.t, .int .i64 x.q, .int .i64 x.v]] w fun e w' => e = .returned (.bool false) ∧ Below w.heap.size w w' := by
  rw [← h]; exact may_any x w

/-- A heap of F's blocks. -/
structure HeapAt (F : Nat → Prop) (w : World) (g : Nat) (v : Value) (most : Int) (xs : List It) : Prop where
  head : w.heap[g]? = some (.cells #[.int .i64 most, v] 54 (0, 0))
  row : w.ownsRow 0 34 4 v xs.length (flat xs)
  ing : F g
  inv : ∀ k, v.ownBlock = some k → F k

theorem HeapAt.keep {F S : Nat → Prop} {w w1 : World} {g : Nat} {v : Value} {most : Int} {xs : List It} (h : HeapAt F w g v most xs) (hc : Chg S w w1) (hd : ∀ k, F k → ¬ S k) : HeapAt F w1 g v most xs :=
  ⟨hc.obj h.head (hd g h.ing), row_keep h.row hc (fun k hk => hd k (h.inv k hk)), h.ing, h.inv⟩
theorem HeapAt.below {F : Nat → Prop} {w w1 : World} {g : Nat} {v : Value} {most : Int} {xs : List It} (h : HeapAt F w g v most xs) (hb : Below w.heap.size w w1) : HeapAt F w1 g v most xs :=
  h.keep (S := fun _ => False) (Chg.of_below hb) (fun _ _ h => h)
theorem HeapAt.form {F : Nat → Prop} {w : World} {g : Nat} {v : Value} {most : Int} {xs : List It} (h : HeapAt F w g v most xs) (hp : 0 < xs.length) : ∃ b cap, v = .slice (some ⟨b, 0, none⟩) xs.length cap ∧ F b := by
  obtain ⟨b, cap, e, _, _⟩ := h.row.form hp
  exact ⟨b, cap, e, h.inv b (by rw [e]; rfl)⟩
theorem HeapAt.any {F : Nat → Prop} {w : World} {g : Nat} {v : Value} {most : Int} {xs : List It} (h : HeapAt F w g v most xs) : ∃ A c, v = .slice A xs.length c := by
  rcases h.row.2 with ⟨e, h0⟩ | ⟨b, cap, cur, e, _⟩
  · exact ⟨none, 0, by rw [e, h0]⟩
  · exact ⟨_, cap, e⟩
theorem HeapAt.mid {F : Nat → Prop} {w : World} {g b cap : Nat} {most : Int} {xs : List It} (h : HeapAt F w g (.slice (some ⟨b, 0, none⟩) xs.length cap) most xs) : Mid F w w g b xs.length cap most xs :=
  ⟨h.head, h.row, Chg.refl _ _, h.inv b rfl, rfl⟩

set_option maxHeartbeats 400000 in
theorem new_ok (m : Int) (w : World) (h1 : 1 ≤ m) (h2 : m ≤ 8192) :
    Calls Try.prog 16 #[.int .i64 m] w fun e w' => e = .returned (.tuple #[.pointer (some ⟨w.heap.size, 0, none⟩), .int .i64 0]) ∧ w' = w.alloc (.cells #[.int .i64 m, .slice none 0 0] 54) := by
  go_enter Try.func16, Try.ntmps16
  go_wp2
  go_ret2
  exact ⟨rfl, rfl⟩

theorem new_at (m : Int) (w : World) : HeapAt (fun k => k = w.heap.size) (w.alloc (.cells #[.int .i64 m, .slice none 0 0] 54)) w.heap.size (.slice none 0 0) m [] :=
  ⟨heap_alloc_new w _, World.ownsRow_nil _ _ _ _, rfl, fun k hk => by simp [Value.ownBlock] at hk⟩

set_option maxHeartbeats 400000 in
theorem new_no (m : Int) (w : World) (h : m < 1 ∨ 8192 < m) :
    Calls Try.prog 16 #[.int .i64 m] w fun e w' => e = .returned (.tuple #[.pointer none, .int .i64 1500]) ∧ w' = w := by
  rcases h with h | h
  · go_enter Try.func16, Try.ntmps16
    go_wp2
    go_ret2
    exact ⟨rfl, rfl⟩
  · go_enter Try.func16, Try.ntmps16
    go_wp2
    go_ret2
    exact ⟨rfl, rfl⟩

set_option maxHeartbeats 400000 in
theorem len_any {F : Nat → Prop} (g : Nat) (v : Value) (most : Int) (xs : List It) (w : World) (h : HeapAt F w g v most xs) :
    Calls Try.prog 29 #[.pointer (some ⟨g, 0, none⟩)] w fun e w' => e = .returned (.int .i64 xs.length) ∧ w' = w := by
  obtain ⟨A, c, rfl⟩ := h.any
  have hc : w.cell? ⟨g, 1, none⟩ = some (.slice A xs.length c) := (blk_cell h.head 1).trans rfl
  clear h
  go_enter Try.func29, Try.ntmps29
  go_wp2
  go_ret
  exact ⟨rfl, rfl⟩

set_option maxHeartbeats 400000 in
theorem peek_none {F : Nat → Prop} (g : Nat) (v : Value) (most : Int) (w : World) (h : HeapAt F w g v most []) :
    Calls Try.prog 27 #[.pointer (some ⟨g, 0, none⟩)] w fun e w' => e = .returned (.tuple #[.agg #[.int .i64 0, .int .i64 0, .int .i64 0, .int .i64 0], .int .i64 1502]) ∧ Below w.heap.size w w' := by
  obtain ⟨A, c, rfl⟩ := h.any
  have hc : w.cell? ⟨g, 1, none⟩ = some (.slice A 0 c) := (blk_cell h.head 1).trans rfl
  have hg := blk_lt h.head
  clear h
  go_enter Try.func27, Try.ntmps27
  go_wp2
  refine bodyPost_ret (v := .tuple #[.agg #[.int .i64 0, .int .i64 0, .int .i64 0, .int .i64 0], .int .i64 1502]) (by simp [results, Try.results27, go_sem]) rfl ⟨rfl, ?_⟩
  exact (Below.refl _ _).alloc (Nat.le_refl _) _

set_option maxHeartbeats 400000 in
theorem peek_some {F : Nat → Prop} (g : Nat) (v : Value) (most : Int) (xs : List It) (w : World) (h : HeapAt F w g v most xs) (hp : 0 < xs.length) :
    Calls Try.prog 27 #[.pointer (some ⟨g, 0, none⟩)] w fun e w' => e = .returned (.tuple #[.agg #[.int .i64 (at_ xs 0).s, .int .i64 (at_ xs 0).t, .int .i64 (at_ xs 0).q, .int .i64 (at_ xs 0).v], .int .i64 0]) ∧ Below w.heap.size w w' := by
  obtain ⟨b, c, rfl, _⟩ := h.form hp
  have hm := h.mid
  obtain ⟨hc, hg, hb⟩ := hm.facts
  obtain ⟨a0, a1, a2, a3⟩ := hm.get hp
  simp only [Nat.zero_mul, Nat.zero_add] at a0 a1 a2 a3
  have hl : ((xs.length : Int) == 0) = false := by simp; intro e; rw [e] at hp; simp at hp
  clear h hm
  generalize xs.length = n at *
  go_enter Try.func27, Try.ntmps27
  go_wp2
  refine bodyPost_ret (v := .tuple #[.agg #[.int .i64 (at_ xs 0).s, .int .i64 (at_ xs 0).t, .int .i64 (at_ xs 0).q, .int .i64 (at_ xs 0).v], .int .i64 0]) (by simp [results, Try.results27, go_sem]) rfl ⟨rfl, ?_⟩
  exact (Below.refl _ _).alloc (Nat.le_refl _) _
end Go.Proofs.Ytcleljmbdiddeaa
