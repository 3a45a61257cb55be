/- A slice of items as a law's row lays it out is read item for item. No statement of the seed is proved here. -/
import Derived.Test.YtcleljmbdiddeaaHeapRow
import Derived.Deep.Slices
import Derived.Lib.SmallJoins
namespace Go.Proofs.Ytcleljmbdiddeaa
open Go.RowKit Go.ChangeShapes Go.WideShapes Go.Deep Go.Joins HP

theorem open_items {H : Type} {enc : TypeId × Value → H} {W : World} {fuel : Nat} {a : Option Addr} {len cap : Nat} {y : DataW H × List MemPlace}
    (h : DataW.trod enc Try.prog W 0 (fun _ => true) true fuel 23 [.slice a len cap] = some y) : ∃ l : List It, len = l.length ∧ Rd W a l ∧ (a = none → cap = 0) ∧ len ≤ cap ∧ cap ≤ maxLen := by
  rcases open_slice Try.underlying23 h with ⟨hcs, _⟩ | ⟨x, l, c, m, n, D, Pl, hcs, _, hl, hm, hme, _, hel⟩
  · simp at hcs
    obtain ⟨rfl, rfl, rfl⟩ := hcs
    exact ⟨[], rfl, fun h => absurd h (by simp), fun _ => rfl, Nat.le_refl _, Nat.zero_le _⟩
  · simp at hcs
    obtain ⟨rfl, rfl, rfl⟩ := hcs
    simp at hme
    subst hme
    have hc4 : Try.prog.cellsOf 34 = 4 := by kernel_rfl
    rw [hc4] at hel
    have hel4 : ∀ i, i < m → ∃ z : It, W.cell? ((x.add (i * 4)).add 0) = some (.int .i64 z.s) ∧ W.cell? ((x.add (i * 4)).add 1) = some (.int .i64 z.t) ∧ W.cell? ((x.add (i * 4)).add 2) = some (.int .i64 z.q) ∧ W.cell? ((x.add (i * 4)).add 3) = some (.int .i64 z.v) := fun i hi => by
      obtain ⟨cs, h1, h2⟩ := hel i hi
      obtain ⟨y0, y1, y2, y3, n', _, hcl, t0, t1, t2, t3⟩ := trod_struct4 Try.underlying34 h2
      have hi3 := Try.underlying3
      obtain ⟨z0, e0, -, -⟩ := DataW.trod_int hi3 t0
      obtain ⟨z1, e1, -, -⟩ := DataW.trod_int hi3 t1
      obtain ⟨z2, e2, -, -⟩ := DataW.trod_int hi3 t2
      obtain ⟨z3, e3, -, -⟩ := DataW.trod_int hi3 t3
      rw [hc4] at hcl
      match cs, hcl with
      | [u0, u1, u2, u3], _ =>
        have hci : Try.prog.cellsOf 3 = 1 := by kernel_rfl
        simp [hci] at e0 e1 e2 e3
        subst e0 e1 e2 e3
        refine ⟨⟨z0, z1, z2, z3⟩, ?_⟩
        obtain ⟨_, _, hc⟩ := World.cells?_some h1
        exact ⟨(hc 0 (by decide)).trans rfl, (hc 1 (by decide)).trans rfl, (hc 2 (by decide)).trans rfl, (hc 3 (by decide)).trans rfl⟩
    have : Inhabited It := ⟨z0⟩
    obtain ⟨Z, hZ⟩ := choose_lt hel4
    refine ⟨(List.range len).map Z, by simp, fun hp => ?_, fun e => (by cases e), hl, hm⟩
    have hlen : ((List.range len).map Z).length = len := by simp
    rw [hlen] at hp
    have h0 := (hZ 0 (by omega)).1
    have hs : x.spot = none := by
      have := spot_none h0
      simpa [Addr.add] using this
    refine ⟨x.block, x.off, by cases x; subst hs; rfl, by have := block_lt h0; simpa [Addr.add] using this, fun i hi => ?_⟩
    rw [hlen] at hi
    have hz := hZ i (by omega)
    have e : at_ ((List.range len).map Z) i = Z i := by simp [at_, List.getD_eq_getElem?_getD, hi]
    rw [e]
    simp only [add_at hs, add_at (show (⟨x.block, x.off + i * 4, none⟩ : Addr).spot = none from rfl), Nat.add_zero] at hz
    exact hz
end Go.Proofs.Ytcleljmbdiddeaa
