/- What a law is handed: items, aggregates, rows of them, opened. No statement of the seed is proved here. -/
import Derived.Test.YtggaefklcpbfnaaRowI
import Derived.Test.YtggaefklcpbfnaaAccF
import Derived.SizedLaws
import Derived.Lib.SmallJoins
namespace Go.Proofs.Ytggaefklcpbfnaa.My
open Go.RowKit Go.ChangeShapes Go.WideShapes Go.Deep Go.Joins Pa Go.Proofs.YtggaefklcpbfnaaW.PrintWords

section
variable {H : Type} {enc : TypeId × Value → H} {W : World} {fuel base : Nat} {spare : Nat → Bool} {held : Bool} {x : DataW H × List MemPlace}

theorem open_int {cs : List Value} (h : DataW.trod enc Try.prog W base spare held fuel 3 cs = some x) : ∃ n, cs = [.int .i64 n] ∧ (Lit.int .i64 n).wf = true := by
  obtain ⟨n, e, _, hw⟩ := DataW.trod_int Try.underlying3 h
  exact ⟨n, e, hw⟩
/-- All its numbers are in range. -/
def Wf26 (a : S26) : Prop := (Lit.int .i64 a.f0).wf = true ∧ (Lit.int .i64 a.f1).wf = true ∧ (Lit.int .i64 a.f2).wf = true ∧ (Lit.int .i64 a.f3).wf = true
theorem one_cell {cs : List Value} {k : Nat} {v : Value} (h : (cs.drop k).take 1 = [v]) : cs[k]? = some v := by
  have e : ((cs.drop k).take 1)[0]? = some v := by rw [h]; rfl
  rw [List.getElem?_take, if_pos (by decide), List.getElem?_drop] at e
  simpa using e
theorem list4 {cs : List Value} {a b c d : Value} (hl : cs.length = 4) (h0 : cs[0]? = some a) (h1 : cs[1]? = some b) (h2 : cs[2]? = some c) (h3 : cs[3]? = some d) : cs = [a, b, c, d] := by
  match cs, hl with
  | [_, _, _, _], _ => simp_all
theorem open_item {cs : List Value} (h : DataW.trod enc Try.prog W base spare held fuel 26 cs = some x) : ∃ a : S26, cs = [.int .i64 a.f0, .int .i64 a.f1, .int .i64 a.f2, .int .i64 a.f3] ∧ Wf26 a := by
  obtain ⟨y0, y1, y2, y3, n', _, hcl, t0, t1, t2, t3⟩ := trod_struct4 Try.underlying26 h
  obtain ⟨z0, e0, w0⟩ := open_int t0
  obtain ⟨z1, e1, w1⟩ := open_int t1
  obtain ⟨z2, e2, w2⟩ := open_int t2
  obtain ⟨z3, e3, w3⟩ := open_int t3
  have hc4 : Try.prog.cellsOf 26 = 4 := by kernel_rfl
  have hci : Try.prog.cellsOf 3 = 1 := by kernel_rfl
  rw [hc4] at hcl
  simp only [hci] at e0 e1 e2 e3
  exact ⟨⟨z0, z1, z2, z3⟩, list4 hcl (one_cell e0) (one_cell e1) (one_cell e2) (one_cell e3), w0, w1, w2, w3⟩
theorem open_row {A : Option Addr} {len cap : Nat} (h : DataW.trod enc Try.prog W base spare held fuel 22 [.slice A len cap] = some x) : ∃ l : List Int, len = l.length ∧ RdI W A l ∧ len ≤ cap ∧ ∀ n ∈ l, (Lit.int .i64 n).wf = true := by
  rcases open_ints Try.underlying22 Try.underlying3 (by kernel_rfl) h with ⟨hcs, _⟩ | ⟨x, l, c, zs, hcs, _, hl, hm, hz, _, hcell, hwz⟩
  · simp at hcs
    obtain ⟨rfl, rfl, rfl⟩ := hcs
    exact ⟨[], rfl, rdI_nil _, Nat.le_refl _, by simp⟩
  · simp at hcs
    obtain ⟨rfl, rfl, rfl⟩ := hcs
    have hzl : len ≤ zs.length := by rw [hz]; split <;> omega
    have hzc : zs.length ≤ cap := by rw [hz]; split <;> omega
    obtain ⟨l, e, hr, hw⟩ := rd_of_row hzl (Nat.le_trans hzc hm) rfl hcell hwz
    exact ⟨l, e, hr, hl, hw⟩
end
end Go.Proofs.Ytggaefklcpbfnaa.My
