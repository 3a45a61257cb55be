/- A heap's memory: its two cells, its row of items; what is kept beside. No statement of the seed is proved here. -/
import Derived.Test.YtggaefklcpbfnaaHeapPure
import Derived.WalkKit
namespace Go.Proofs.Ytggaefklcpbfnaa
open Go.RowKit HP

/-- All is kept but what S names; streams and tape stand. -/
structure Chg (S : Nat → Prop) (w w' : World) : Prop where
  os : w'.os = w.os
  tape : w'.tape = w.tape
  output : w'.output = w.output
  size : w.heap.size ≤ w'.heap.size
  block : ∀ k, k < w.heap.size → ¬ S k → w'.heap[k]? = w.heap[k]?

section
variable {S T : Nat → Prop} {w w1 w2 : World}
theorem Chg.refl (S : Nat → Prop) (w : World) : Chg S w w := ⟨rfl, rfl, rfl, Nat.le_refl _, fun _ _ _ => rfl⟩
theorem Chg.trans (h : Chg S w w1) (k : Chg T w1 w2) (hT : ∀ i, i < w.heap.size → T i → S i) : Chg S w w2 :=
  ⟨k.os.trans h.os, k.tape.trans h.tape, k.output.trans h.output, Nat.le_trans h.size k.size, fun i hi hn => (k.block i (Nat.lt_of_lt_of_le hi h.size) (fun ht => hn (hT i hi ht))).trans (h.block i hi hn)⟩
theorem Chg.then_ (h : Chg S w w1) (k : Chg S w1 w2) : Chg S w w2 := h.trans k (fun _ _ h => h)
theorem Chg.mono (h : Chg S w w1) (hS : ∀ i, i < w.heap.size → S i → T i) : Chg T w w1 := ⟨h.os, h.tape, h.output, h.size, fun i hi hn => h.block i hi (fun hs => hn (hS i hi hs))⟩
theorem Chg.of_below (h : Below w.heap.size w w1) : Chg S w w1 := ⟨h.os, h.tape, h.output, h.size, fun i hi _ => h.block i hi⟩
theorem Chg.below (h : Chg S w w1) (hb : Below w1.heap.size w1 w2) : Chg S w w2 := h.then_ (Chg.of_below hb)
theorem Chg.drew (h : Chg S w w1) : Chg S w w1.drew := ⟨h.os, h.tape, h.output, h.size, h.block⟩
theorem Chg.alloc (h : Chg S w w1) (o : Obj) : Chg S w (w1.alloc o) := h.below ((Below.refl _ _).alloc (Nat.le_refl _) o)
theorem Chg.setCell (h : Chg S w w1) {p : Addr} (hp : S p.block ∨ w.heap.size ≤ p.block) (u : Value) : Chg S w (w1.setCell p u) :=
  h.trans (T := fun k => k = p.block) ⟨rfl, rfl, rfl, by simp [World.setCell], fun k _ hn => Below.heap_setCell _ _ _ _ hn⟩ (fun i hi e => by
    rcases hp with hp | hp
    · rw [e]; exact hp
    · omega)
theorem Chg.grown {row : Option Nat} (h : Chg S w w1) (hg : w1.grownBy w2 row) (hr : ∀ k, row = some k → S k ∨ w.heap.size ≤ k) : Chg S w w2 :=
  h.trans (T := fun k => some k = row) ⟨hg.os, hg.tape, hg.output, hg.size, fun k hk hn => hg.block k hk hn⟩ (fun i hi e => by
    rcases hr i e.symm with h | h
    · exact h
    · omega)
/-- Nothing that was there is named: all of it stands. -/
theorem Chg.old (h : Chg S w w1) (hS : ∀ i, i < w.heap.size → ¬ S i) : Below w.heap.size w w1 := ⟨h.os, h.tape, h.output, h.size, fun i hi => h.block i hi (hS i hi)⟩
theorem Chg.base {B : Nat} {w0 : World} (h0 : Below B w0 w) (h : Chg S w w1) (hB : B ≤ w.heap.size) (hS : ∀ i, S i → B ≤ i) : Below B w0 w1 :=
  h0.trans ⟨h.os, h.tape, h.output, h.size, fun i hi => h.block i (by omega) (fun hs => by have := hS i hs; omega)⟩
theorem Chg.obj {o : Obj} {b : Nat} (h : Chg S w w1) (hb : w.heap[b]? = some o) (hn : ¬ S b) : w1.heap[b]? = some o := (h.block b (Array.getElem?_eq_some_iff.1 hb).1 hn).trans hb
end

theorem blk_lt {w : World} {b : Nat} {o : Obj} (h : w.heap[b]? = some o) : b < w.heap.size := (Array.getElem?_eq_some_iff.1 h).1
theorem blk_cell {w : World} {b : Nat} {cs : Array Value} {t : TypeId} {fr : Nat × Nat} (h : w.heap[b]? = some (.cells cs t fr)) (j : Nat) : w.cell? ⟨b, j, none⟩ = cs[j]? := by simp [World.cell?, h]
theorem blk_free {w : World} {b : Nat} {cs : Array Value} {t : TypeId} (h : w.heap[b]? = some (.cells cs t (0, 0))) (j : Nat) : w.frozen? ⟨b, j, none⟩ = false := by simp [World.frozen?, h]
theorem blk_set {w : World} {b : Nat} {cs : Array Value} {t : TypeId} {fr : Nat × Nat} (h : w.heap[b]? = some (.cells cs t fr)) (j : Nat) (u : Value) : (w.setCell ⟨b, j, none⟩ u).heap[b]? = some (.cells (cs.setIfInBounds j u) t fr) := by
  simp [World.setCell, Array.getElem?_modify, h]
theorem blk_far {w : World} {b : Nat} {o : Obj} (h : w.heap[b]? = some o) {p : Addr} (hne : b ≠ p.block) (u : Value) : (w.setCell p u).heap[b]? = some o := (Below.heap_setCell w p u b hne).trans h

/-! Rows of items. -/
def cells4 (x : It) : List Value := [.int .i64 x.s, .int .i64 x.t, .int .i64 x.q, .int .i64 x.v]
def flat (xs : List It) : List Value := xs.flatMap cells4
theorem flat_length (xs : List It) : (flat xs).length = xs.length * 4 := by
  induction xs with
  | nil => rfl
  | cons x r ih => simp only [flat, List.flatMap_cons, List.length_append] at *; rw [ih]; simp [cells4]; omega
theorem flat_append (xs ys : List It) : flat (xs ++ ys) = flat xs ++ flat ys := by simp [flat]
theorem flat_one (x : It) : flat [x] = cells4 x := by simp [flat]
theorem flat_get {xs : List It} : ∀ {i : Nat}, i < xs.length → ∀ k, k < 4 → (flat xs)[i * 4 + k]? = (cells4 (at_ xs i))[k]? := by
  induction xs with
  | nil => intro i h; simp at h
  | cons x r ih =>
    intro i h k hk
    have e : flat (x :: r) = cells4 x ++ flat r := by simp [flat]
    rw [e]
    cases i with
    | zero =>
      rw [List.getElem?_append_left (by simp [cells4]; omega)]
      simp [at_]
    | succ i =>
      rw [List.getElem?_append_right (by simp [cells4]; omega)]
      have e2 : (i + 1) * 4 + k - (cells4 x).length = i * 4 + k := by simp [cells4]; omega
      rw [e2, ih (by simpa using h) k hk]
      have e3 : at_ (x :: r) (i + 1) = at_ r i := rfl
      rw [e3]
theorem flat_set {xs : List It} (x : It) : ∀ {i : Nat}, i < xs.length → flat (xs.set i x) = ((((flat xs).set (i * 4) (.int .i64 x.s)).set (i * 4 + 1) (.int .i64 x.t)).set (i * 4 + 2) (.int .i64 x.q)).set (i * 4 + 3) (.int .i64 x.v) := by
  induction xs with
  | nil => intro i h; simp at h
  | cons y r ih =>
    intro i h
    have e : ∀ z : It, ∀ l, flat (z :: l) = cells4 z ++ flat l := fun z l => by simp [flat]
    cases i with
    | zero => simp [e, cells4]
    | succ i =>
      have hl : (cells4 y).length = 4 := rfl
      rw [List.set_cons_succ, e, e, ih (by simpa using h)]
      have a : ∀ (l : List Value) (k : Nat) (u : Value), (cells4 y ++ l).set ((i + 1) * 4 + k) u = cells4 y ++ l.set (i * 4 + k) u := fun l k u => by
        rw [List.set_append_right _ _ (by rw [hl]; omega)]
        congr 2
        rw [hl]; omega
      have a0 := a (flat r) 0 (.int .i64 x.s)
      simp only [Nat.add_zero] at a0
      rw [a0, a, a, a]

/-- The four cells of an item in a row of one's own. -/
theorem row_get {w : World} {base b n cap : Nat} {e : TypeId} {xs : List It} (h : w.ownsRow base e 4 (.slice (some ⟨b, 0, none⟩) n cap) n (flat xs)) {i : Nat} (hi : i < xs.length) :
    w.cell? ⟨b, i * 4, none⟩ = some (.int .i64 (at_ xs i).s) ∧ w.cell? ⟨b, i * 4 + 1, none⟩ = some (.int .i64 (at_ xs i).t) ∧ w.cell? ⟨b, i * 4 + 2, none⟩ = some (.int .i64 (at_ xs i).q) ∧ w.cell? ⟨b, i * 4 + 3, none⟩ = some (.int .i64 (at_ xs i).v) := by
  have hc : ∀ j u, (flat xs)[j]? = some u → w.cell? ⟨b, j, none⟩ = some u := fun j u hu => by
    have h1 := h.cells (g := b) rfl j u hu
    have ha : (⟨b, 0, none⟩ : Addr).add j = ⟨b, j, none⟩ := by unfold Addr.add; split <;> simp_all
    rwa [ha] at h1
  refine ⟨hc _ _ ?_, hc _ _ ?_, hc _ _ ?_, hc _ _ ?_⟩
  · exact (flat_get hi 0 (by omega)).trans rfl
  · exact (flat_get hi 1 (by omega)).trans rfl
  · exact (flat_get hi 2 (by omega)).trans rfl
  · exact (flat_get hi 3 (by omega)).trans rfl
theorem row_blk {w : World} {base b n cap : Nat} {e : TypeId} {size : Nat} {cs : List Value} (h : w.ownsRow base e size (.slice (some ⟨b, 0, none⟩) n cap) n cs) : ∃ cur, w.heap[b]? = some (.cells cur e (0, 0)) := by
  rcases h.2 with ⟨h1, _⟩ | ⟨g, cap', cur, h1, _, hh, _⟩
  · cases h1
  · injection h1 with h1
    injection h1 with h1
    injection h1 with h1
    subst h1
    exact ⟨cur, hh⟩
theorem row_cap {w : World} {base b n cap : Nat} {e : TypeId} {size : Nat} {cs : List Value} (h : w.ownsRow base e size (.slice (some ⟨b, 0, none⟩) n cap) n cs) : n ≤ cap ∧ cap ≤ maxLen := by
  rcases h.2 with ⟨h1, _⟩ | ⟨g, cap', cur, h1, _, hh, h2, h3, _⟩
  · cases h1
  · injection h1 with _ _ h1
    subst h1
    exact ⟨h2, h3⟩
/-- An item of the row is written: four stores. -/
theorem row_set {w : World} {base b n cap : Nat} {e : TypeId} {xs : List It} (h : w.ownsRow base e 4 (.slice (some ⟨b, 0, none⟩) n cap) n (flat xs)) {i : Nat} (hi : i < xs.length) (x : It) :
    ((((w.setCell ⟨b, i * 4, none⟩ (.int .i64 x.s)).setCell ⟨b, i * 4 + 1, none⟩ (.int .i64 x.t)).setCell ⟨b, i * 4 + 2, none⟩ (.int .i64 x.q)).setCell ⟨b, i * 4 + 3, none⟩ (.int .i64 x.v)).ownsRow base e 4 (.slice (some ⟨b, 0, none⟩) n cap) n (flat (xs.set i x)) := by
  rw [flat_set x hi]
  exact ((((h.stored _ _).1.stored _ _).1.stored _ _).1.stored _ _).1
/-- Four stores under one name. -/
def put4 (w : World) (b i : Nat) (x : It) : World := (((w.setCell ⟨b, i * 4, none⟩ (.int .i64 x.s)).setCell ⟨b, i * 4 + 1, none⟩ (.int .i64 x.t)).setCell ⟨b, i * 4 + 2, none⟩ (.int .i64 x.q)).setCell ⟨b, i * 4 + 3, none⟩ (.int .i64 x.v)
/-- The row is cut behind some. -/
theorem row_take {w : World} {base b n cap m : Nat} {e : TypeId} {xs : List It} (h : w.ownsRow base e 4 (.slice (some ⟨b, 0, none⟩) n cap) n (flat xs)) (hm : m ≤ n) :
    w.ownsRow base e 4 (.slice (some ⟨b, 0, none⟩) m cap) m (flat (xs.take m)) := by
  have hx : xs.length = n := by have := h.1; rw [flat_length] at this; omega
  have hft : flat (xs.take m) = (flat xs).take (m * 4) := by
    have e1 : flat xs = flat (xs.take m) ++ flat (xs.drop m) := by rw [← flat_append, List.take_append_drop]
    have hl : (flat (xs.take m)).length = m * 4 := by rw [flat_length, List.length_take]; omega
    rw [e1]
    exact (List.take_left' hl).symm
  refine ⟨by rw [flat_length]; simp; omega, ?_⟩
  rcases h.2 with ⟨h1, _⟩ | ⟨g, cap', cur, h1, h2, h3, h4, h5, h6, h7⟩
  · cases h1
  · injection h1 with e1 _ e2
    injection e1 with e1
    injection e1 with e1
    subst e1 e2
    refine .inr ⟨b, cap, cur, rfl, h2, h3, by omega, h5, h6, ?_⟩
    rw [hft, ← h7, List.take_take]
    congr 1
    omega
theorem row_keep {S : Nat → Prop} {w w1 : World} {base n : Nat} {e : TypeId} {size : Nat} {v : Value} {cs : List Value} (h : w.ownsRow base e size v n cs) (hc : Chg S w w1) (hn : ∀ k, v.ownBlock = some k → ¬ S k) : w1.ownsRow base e size v n cs := by
  obtain ⟨h1, h2⟩ := h
  refine ⟨h1, ?_⟩
  rcases h2 with h2 | ⟨g, cap, cur, rfl, hg, hh, r⟩
  · exact .inl h2
  · exact .inr ⟨g, cap, cur, rfl, hg, hc.obj hh (hn g rfl), r⟩
end Go.Proofs.Ytggaefklcpbfnaa
