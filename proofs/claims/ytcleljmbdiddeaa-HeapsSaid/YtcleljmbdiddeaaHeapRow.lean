/- A slice of whole numbers as a law's row lays it out is read place for place, and the bits of a number under a small mask are small. No conditions. -/
import Derived.Test.YtcleljmbdiddeaaHeapG
namespace Go.Proofs.Ytcleljmbdiddeaa
open Go.RowKit HP

/-- A slice of whole numbers that is read. -/
def RdI (w : World) (A : Option Addr) (l : List Int) : Prop := 0 < l.length → ∃ b o, A = some ⟨b, o, none⟩ ∧ b < w.heap.size ∧ ∀ i, i < l.length → w.cell? ⟨b, o + i, none⟩ = some (.int .i64 (l.getD i 0))

theorem and_bound (x : Int) (m : Nat) (hm : m < 9223372036854775808) : 0 ≤ bits .and .i64 x m ∧ bits .and .i64 x m ≤ m := by
  have e : bits .and .i64 x m = IntKind.i64.wrap ((BitVec.ofInt 64 x &&& BitVec.ofInt 64 m).toNat : Int) := rfl
  rw [e, BitVec.toNat_and]
  have h1 : (BitVec.ofInt 64 x).toNat &&& (BitVec.ofInt 64 (m : Int)).toNat ≤ (BitVec.ofInt 64 (m : Int)).toNat := Nat.and_le_right
  have h2 : (BitVec.ofInt 64 (m : Int)).toNat = m := by
    rw [BitVec.ofInt_natCast, BitVec.toNat_ofNat]
    exact Nat.mod_eq_of_lt (by omega)
  rw [h2] at h1 ⊢
  generalize (BitVec.ofInt 64 x).toNat &&& m = n at *
  rw [IntKind.wrap_i64]
  omega

theorem and1 (x : Int) : 0 ≤ bits .and .i64 x 1 ∧ bits .and .i64 x 1 ≤ 1 := and_bound x 1 (by decide)
theorem and3 (x : Int) : 0 ≤ bits .and .i64 x 3 ∧ bits .and .i64 x 3 ≤ 3 := and_bound x 3 (by decide)

theorem pushRes_one {most : Int} {xs : List It} {y : It} (hy : may y = true) (ho : (xs.length : Int) + 1 ≤ most) : pushRes most xs [y] = (0, push xs y) := by
  unfold pushRes bad
  rw [if_neg (by simp [hy]), if_neg (by simp; omega)]
  simp [pushAll]
theorem popRes_some {xs : List It} (h : 0 < xs.length) : popRes xs = (at_ xs 0, 0, pop xs) := by
  unfold popRes
  rw [if_neg (by intro e; rw [e] at h; simp at h)]

theorem spot_none {w : World} {a : Addr} {v : Value} (h : w.cell? a = some v) : a.spot = none := by
  unfold World.cell? at h
  split at h
  · split at h
    · cases h
    · rename_i hs
      cases e : a.spot with
      | none => rfl
      | some s => rw [e] at hs; exact absurd rfl hs
  · cases h
theorem block_lt {w : World} {a : Addr} {v : Value} (h : w.cell? a = some v) : a.block < w.heap.size := by
  unfold World.cell? at h
  split at h
  · rename_i h2
    obtain ⟨h3, -⟩ := Array.getElem?_eq_some_iff.1 h2
    exact h3
  · cases h
theorem add_at {x : Addr} (hs : x.spot = none) (i : Nat) : x.add i = ⟨x.block, x.off + i, none⟩ := by
  obtain ⟨b, o, s⟩ := x
  subst hs
  unfold Addr.add
  split
  · rename_i h
    subst h
    rfl
  · rfl

theorem rd_of_row {w : World} {x : Addr} {len cap : Nat} {zs : List Int} (hl : len ≤ cap) (hz : zs.length = cap)
    (hc : ∀ i, i < zs.length → w.cell? (x.add i) = some (.int .i64 (zs.getD i 0))) (hw : ∀ n ∈ zs, (Lit.int .i64 n).wf = true) :
    ∃ l : List Int, len = l.length ∧ RdI w (some x) l ∧ ∀ n ∈ l, (Lit.int .i64 n).wf = true := by
  refine ⟨zs.take len, by rw [List.length_take]; omega, ?_, fun n hn => hw n (List.mem_of_mem_take hn)⟩
  intro hp
  rw [List.length_take] at hp
  have h0 := hc 0 (by omega)
  have hs : x.spot = none := spot_none (a := x) h0
  have hb : x.block < w.heap.size := block_lt (a := x) h0
  refine ⟨x.block, x.off, ?_, hb, fun i hi => ?_⟩
  · obtain ⟨b, o, s⟩ := x
    subst hs
    rfl
  · rw [List.length_take] at hi
    have := hc i (by omega)
    rw [add_at hs] at this
    rw [this, List.getD_eq_getElem?_getD, List.getD_eq_getElem?_getD, List.getElem?_take, if_pos (by omega)]
end Go.Proofs.Ytcleljmbdiddeaa
