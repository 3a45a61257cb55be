/- A law's own variable that holds an item is written; the reference's Before is the heap's order; sums of values. No statement of the seed is proved here. -/
import Derived.Test.YtcleljmbdiddeaaHeapRow
import Derived.Test.YtcleljmbdiddeaaPHeapsx3
namespace Go.Proofs.Ytcleljmbdiddeaa
open Go.RowKit HP PHeaps

/-- An item is stored over one. -/
def putIt (w : World) (b : Nat) (x : It) : World := (((w.setCell ⟨b, 0, none⟩ (.int .i64 x.s)).setCell ⟨b, 1, none⟩ (.int .i64 x.t)).setCell ⟨b, 2, none⟩ (.int .i64 x.q)).setCell ⟨b, 3, none⟩ (.int .i64 x.v)
theorem putIt_chg (w : World) (b : Nat) (x : It) : Chg (fun k => k = b) w (putIt w b x) := by
  have h : ∀ (u : World) (j : Nat) (y : Value), Chg (fun k => k = b) u (u.setCell ⟨b, j, none⟩ y) := fun u j y => (Chg.refl (fun k => k = b) u).setCell (p := ⟨b, j, none⟩) (.inl rfl) y
  exact (((h _ _ _).then_ (h _ _ _)).then_ (h _ _ _)).then_ (h _ _ _)
theorem putIt_blk {w : World} {b : Nat} {x : It} (y : It) (h : w.heap[b]? = some (itObj x)) : (putIt w b y).heap[b]? = some (itObj y) :=
  blk_set (blk_set (blk_set (blk_set h 0 _) 1 _) 2 _) 3 _
theorem HS.put {w0 w : World} {g b : Nat} {v : Value} {most : Int} {xs : List It} (h : HS w0 w g v most xs) (hn : ¬ own g v b) (hb : w0.heap.size ≤ b) (y : It) : HS w0 (putIt w b y) g v most xs :=
  ⟨h.at_.keep (putIt_chg w b y) (fun _ hk e => hn (e ▸ hk)), Chg.base h.bel (putIt_chg w b y) h.bel.size (fun _ e => e ▸ hb), h.new, h.heap⟩
theorem Var.put {g b : Nat} {v : Value} {w : World} {x : It} (h : Var g v w b x) (y : It) : Var g v (putIt w b y) b y := ⟨putIt_blk y h.blk, h.apart⟩

theorem ref_less_f (x y : It) : bourneref1_less.f x.s x.t x.q x.v y.s y.t y.q y.v = some (lt x y) := by
  unfold bourneref1_less.f lt
  by_cases h1 : x.t = y.t <;> by_cases h2 : x.q = y.q <;> by_cases h3 : x.s = y.s <;> simp [h1, h2, h3]

set_option maxHeartbeats 800000 in
set_option maxRecDepth 100000 in
/-- The reference's 'Before' is false where the order is not less. -/
theorem before_no (x y : It) (w : World) (h : lt x y = false) :
    Calls Try.prog 31 #[.agg #[.int .i64 x.s, .int .i64 x.t, .int .i64 x.q, .int .i64 x.v], .agg #[.int .i64 y.s, .int .i64 y.t, .int .i64 y.q, .int .i64 y.v]] w fun e w' => e = .returned (.bool false) ∧ Below w.heap.size w w' := by
  rw [nlt_iff] at h
  have h1 : decide (x.t < y.t) = false := decide_eq_false (by omega)
  have h3 : x.t = y.t → decide (x.q < y.q) = false := fun e => decide_eq_false (by omega)
  clear h
  go_enter Try.func31, Try.ntmps31
  have hb := ((Below.refl w.heap.size w).alloc (Nat.le_refl _) (itObj x)).alloc (by simp) (itObj y)
  obtain ⟨a0, a1, a2, a3, a4⟩ := it_facts (w := (w.alloc (itObj x)).alloc (itObj y)) (r := w.heap.size) (x := x) ((((Below.refl (w.alloc (itObj x)).heap.size (w.alloc (itObj x))).alloc (Nat.le_refl _) (itObj y)).block w.heap.size (by simp)).trans (heap_alloc_new w (itObj x)))
  obtain ⟨b0, b1, b2, b3, b4⟩ := it_facts (w := (w.alloc (itObj x)).alloc (itObj y)) (r := w.heap.size + 1) (x := y) (by have e := heap_alloc_new (w.alloc (itObj x)) (itObj y); rw [show (w.alloc (itObj x)).heap.size = w.heap.size + 1 by simp] at e; exact e)
  by_cases h2 : x.t = y.t
  · have h4 := h3 h2
    unfold itObj at hb
    rw [h2] at hb
    go_wp2_with fail
    go_ret
    exact ⟨rfl, hb⟩
  · go_wp2_with fail
    go_ret
    exact ⟨rfl, hb⟩

/-- What the values come to. -/
def total (xs : List It) : Int := xs.foldr (fun x n => x.v + n) 0
theorem total_cons (x : It) (xs : List It) : total (x :: xs) = x.v + total xs := rfl
theorem total_perm {xs ys : List It} (h : xs.Perm ys) : total xs = total ys := by
  induction h with
  | nil => rfl
  | cons x _ ih => rw [total_cons, total_cons, ih]
  | swap x y l => simp only [total_cons]; omega
  | trans _ _ ih1 ih2 => exact ih1.trans ih2
theorem total_pos {xs : List It} (h : ∀ x ∈ xs, 0 ≤ x.v) : 0 ≤ total xs := by
  induction xs with
  | nil => exact Int.le_refl 0
  | cons x r ih =>
    rw [total_cons]
    have h1 := h x (by simp)
    have h2 := ih (fun y hy => h y (List.mem_cons_of_mem _ hy))
    omega
end Go.Proofs.Ytcleljmbdiddeaa
