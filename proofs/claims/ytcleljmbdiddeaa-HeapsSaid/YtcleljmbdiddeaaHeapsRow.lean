/- Heaps returns true, as its row wants it. No conditions. -/
import Derived.Test.YtcleljmbdiddeaaHeaps
import Derived.SizedLaws
namespace Go.Proofs.Ytcleljmbdiddeaa
open Go.RowKit Go.ChangeShapes Go.WideShapes Go.Deep Go.Joins HP

theorem sized_rows {H : Type} {enc : TypeId × Value → H} {P : Program} {W : World} {base : Nat} {spare : Nat → Bool} {held : Bool} {t e : TypeId} {a : Option Addr} {len cap : Nat} {d : DataW H} {ps : List MemPlace} {ts : List TypeId} {ds : List (DataW H)} {j : Nat}
    (hsz : (DataW.weightsEach P ts ds).all (· ≤ reachBytes) = true) (ht : ts[j]? = some t) (hd : ds[j]? = some d) (hu : P.underlying t = some (.slice e)) {B : Nat} (hB : P.bytesOf e = B)
    (h : DataW.Trod enc P W base spare held t (.slice a len cap) d ps) : len * B ≤ 140737488351232 := by
  obtain ⟨fuel, hf⟩ := h
  rcases open_slice hu hf with ⟨hcs, _⟩ | ⟨x, l, c, m, n, D, Pl, hcs, _, _, _, _, hx, _⟩
  · simp [Value.cells] at hcs
    obtain ⟨_, rfl, _⟩ := hcs
    simp
  · simp [Value.cells] at hcs
    obtain ⟨_, rfl, _⟩ := hcs
    obtain ⟨hx, _⟩ := Prod.mk.inj hx
    subst hx
    have z := sized_slice hsz ht hd hu
    rw [hB] at z
    have hl : ((List.range len).map D).length = len := by simp
    rw [hl] at z
    exact Nat.le_trans (Nat.mul_le_mul_right _ (Nat.le_add_right _ _)) z

theorem heaps_walk (most : Int) (A : Option Addr) (xs : List It) (c : Nat) (A2 : Option Addr) (l : List Int) (c2 : Nat) (w : World) (_ : (Lit.int .i64 most).wf = true) (hA : Rd w A xs) (h0 : A = none → c = 0) (hc : xs.length ≤ c) (hx : xs.length * 32 ≤ 140737488351232) (hB : RdI w A2 l) (hl : l.length * 8 ≤ 140737488351232) (_ : ∀ n ∈ l, (Lit.int .i64 n).wf = true) :
    Calls Try.prog 4 #[.int .i64 most, .slice A xs.length c, .slice A2 l.length c2] w fun e w' => e = .returned (.bool true) ∧ Below w.heap.size w w' := heaps_any most A xs c A2 l c2 w hA h0 hc (by omega) hB (by omega)
end Go.Proofs.Ytcleljmbdiddeaa
