/- A row of whole numbers that lies in one piece is read. No statement of the seed is proved here. -/
import Derived.Test.YtggaefklcpbfnaaAccV
namespace Go.Proofs.Ytggaefklcpbfnaa.My
open Go.RowKit Pa Go.Proofs.YtggaefklcpbfnaaW.PrintWords

theorem rd_of_row {w : World} {x : Addr} {len cap : Nat} {zs : List Int} (hl : len ≤ cap) (hm : cap ≤ maxLen) (hz : zs.length = cap)
    (hc : ∀ i, i < zs.length → w.cell? (x.add i) = some (.int .i64 (zs.getD i 0))) (hw : ∀ n ∈ zs, (Lit.int .i64 n).wf = true) :
    ∃ l : List Int, len = l.length ∧ RdI w (some x) l ∧ ∀ n ∈ l, (Lit.int .i64 n).wf = true := by
  refine ⟨zs.take len, by rw [List.length_take]; omega, ⟨rfl, ?_, fun _ => ⟨x, rfl, fun j p hp => ⟨[.int .i64 p], rfl, rfl, fun i u hu => ?_⟩⟩⟩, fun n hn => hw n (List.mem_of_mem_take hn)⟩
  · rw [List.length_take]
    have h : maxLen = 9223372036854775807 := by simp [maxLen]
    omega
  · rw [show j * (Kd.int .i64).sz + i = j + i by rw [show (Kd.int .i64).sz = 1 from rfl, Nat.mul_one]]
    cases i with
    | zero =>
      simp at hu
      subst hu
      have hj := (List.getElem?_eq_some_iff.1 hp).1
      rw [List.length_take] at hj
      have h1 := hc j (by omega)
      rw [List.getElem?_take] at hp
      split at hp
      · rw [List.getD_eq_getElem?_getD, hp] at h1
        exact h1
      · cases hp
    | succ i => simp at hu
end Go.Proofs.Ytggaefklcpbfnaa.My
