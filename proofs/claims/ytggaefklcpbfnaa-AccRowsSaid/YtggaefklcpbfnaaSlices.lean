/- A row of aggregates is cut: what is read of it. No statement of the seed is proved here. -/
import Derived.Test.YtggaefklcpbfnaaAccL
import Derived.ChangeKeysEq
namespace Go.Proofs.Ytggaefklcpbfnaa.My
open Go.RowKit Pa Go.Proofs.YtggaefklcpbfnaaW.PrintWords

theorem acc_cells : Try.prog.cellsOf (Try.prog.elem 51) = 13 := by kernel_rfl
theorem acc_size (w : World) : (sizeOf (Try.prog.elem 51)).run Try.prog w = .ok 13 w := by
  obtain ⟨i, hi, _⟩ := Option.map_eq_some_iff.1 info_acc
  have e : Try.prog.elem 51 = 28 := by kernel_rfl
  have h := run_sizeOf (P := Try.prog) (w := w) (t := Try.prog.elem 51) (i := i) (by rw [e]; exact hi)
  rw [h, acc_cells]
theorem take_any (A : Option Addr) (n c k : Nat) (hk : k ≤ c) : ∃ A5, (∀ w, (Instr.slice 51 (.slice A n c) none (some (.int .i64 k)) none).run Try.prog w = .ok (.slice A5 k c) w) ∧ ∀ b o, A = some ⟨b, o, none⟩ → A5 = some ⟨b, o, none⟩ := by
  refine ⟨if c = 0 then A else A.map (·.add (0 * 13)), fun w => ?_, fun b o e => ?_⟩
  · rw [run_slice_h (P := Try.prog) w 51 A n c Try.underlying51 .i64 k (by omega) (by omega), acc_size]
    rfl
  · subst e
    split
    · rfl
    · simp [Addr.add]
theorem drop_any (A : Option Addr) (n c k : Nat) (hk : k ≤ n) : ∃ A5, (∀ w, (Instr.slice 51 (.slice A n c) (some (.int .i64 k)) none none).run Try.prog w = .ok (.slice A5 (n - k) (c - k)) w) ∧ ∀ b o, A = some ⟨b, o, none⟩ → k < c → A5 = some ⟨b, o + k * 13, none⟩ := by
  refine ⟨if c = k then A else A.map (·.add (k * 13)), fun w => ?_, fun b o e hc => ?_⟩
  · rw [run_slice_l (P := Try.prog) w 51 A n c Try.underlying51 .i64 k (by omega) (by omega), acc_size]
    rfl
  · subst e
    rw [if_neg (by omega)]
    simp [Addr.add]
theorem RdA.take {w : World} {A A5 : Option Addr} {xs : List S28} (h : RdA w A xs) (k : Nat) (he : ∀ b o, A = some ⟨b, o, none⟩ → A5 = some ⟨b, o, none⟩) : RdA w A5 (xs.take k) := fun hp => by
  rw [List.length_take] at hp
  obtain ⟨b, o, e, hb, hc⟩ := h (by omega)
  refine ⟨b, o, he b o e, hb, fun i hi => ?_⟩
  rw [List.length_take] at hi
  have := hc i (by omega)
  rwa [show (xs.take k).getD i z28 = xs.getD i z28 from by rw [List.getD_eq_getElem?_getD, List.getElem?_take_of_lt (by omega), List.getD_eq_getElem?_getD]]
theorem RdA.drop {w : World} {A A5 : Option Addr} {xs : List S28} {c : Nat} (h : RdA w A xs) (k : Nat) (hc : xs.length ≤ c) (he : ∀ b o, A = some ⟨b, o, none⟩ → k < c → A5 = some ⟨b, o + k * 13, none⟩) : RdA w A5 (xs.drop k) := fun hp => by
  rw [List.length_drop] at hp
  obtain ⟨b, o, e, hb, hcl⟩ := h (by omega)
  refine ⟨b, o + k * 13, he b o e (by omega), hb, fun i hi => ?_⟩
  rw [List.length_drop] at hi
  have := hcl (k + i) (by omega)
  rwa [show (xs.drop k).getD i z28 = xs.getD (k + i) z28 from by rw [List.getD_eq_getElem?_getD, List.getElem?_drop, List.getD_eq_getElem?_getD], show o + k * 13 + i * 13 = o + (k + i) * 13 by omega]
theorem RowA.cap {w : World} {A : Option Addr} {n c : Nat} {xs : List S28} {cs : List Value} (h : RowA w (.slice A n c) xs cs) : xs.length ≤ c := by
  have h0 := h.own
  rcases h0.2 with ⟨e, hn⟩ | ⟨b, cap, cur, e, hb, hcur, hr⟩
  · omega
  · injection e with e1 e2 e3
    subst e1 e2 e3
    exact (row_cap h0).1
end Go.Proofs.Ytggaefklcpbfnaa.My
