/- Small laws of whole numbers. No statement of the seed is proved here. -/
import Derived.Test.YtggaefklcpbfnaaLowB
namespace Go.Proofs.Ytggaefklcpbfnaa.My
open Go.RowKit Pa Go.Proofs.YtggaefklcpbfnaaW.PrintWords

theorem and_bound (x : Int) (m : Nat) (hm : m < 9223372036854775808) : 0 ≤ bits .and .i64 x m ∧ bits .and .i64 x m ≤ m := by
  have e : bits .and .i64 x m = IntKind.i64.wrap ((BitVec.ofInt 64 x &&& BitVec.ofInt 64 m).toNat : Int) := rfl
  rw [e, BitVec.toNat_and]
  have h1 : (BitVec.ofInt 64 x).toNat &&& (BitVec.ofInt 64 (m : Int)).toNat ≤ (BitVec.ofInt 64 (m : Int)).toNat := Nat.and_le_right
  have h2 : (BitVec.ofInt 64 (m : Int)).toNat = m := by
    rw [BitVec.ofInt_natCast, BitVec.toNat_ofNat]
    exact Nat.mod_eq_of_lt (by omega)
  rw [h2] at h1 ⊢
  generalize (BitVec.ofInt 64 x).toNat &&& m = n at *
  rw [IntKind.wrap_i64]
  omega
theorem u64_nonneg (t : Int) : 0 ≤ IntKind.u64.wrap t := by
  rw [IntKind.wrap_u64]
  omega
end Go.Proofs.Ytggaefklcpbfnaa.My
