/- Aggregates that are none, in plain Lean. No statement of the seed is proved here. -/
import Derived.Test.YtggaefklcpbfnaaAccK
namespace Go.Proofs.Ytggaefklcpbfnaa.My
open Go.RowKit Pa Go.Proofs.YtggaefklcpbfnaaW.PrintWords
set_option linter.unusedSimpArgs false

theorem and_bound (x : Int) (m : Nat) (hm : m < 9223372036854775808) : 0 ≤ bits .and .i64 x m ∧ bits .and .i64 x m ≤ m := by
  have e : bits .and .i64 x m = IntKind.i64.wrap ((BitVec.ofInt 64 x &&& BitVec.ofInt 64 m).toNat : Int) := rfl
  rw [e, BitVec.toNat_and]
  have h1 : (BitVec.ofInt 64 x).toNat &&& (BitVec.ofInt 64 (m : Int)).toNat ≤ (BitVec.ofInt 64 (m : Int)).toNat := Nat.and_le_right
  have h2 : (BitVec.ofInt 64 (m : Int)).toNat = m := by
    rw [BitVec.ofInt_natCast, BitVec.toNat_ofNat]
    exact Nat.mod_eq_of_lt (by omega)
  rw [h2] at h1 ⊢
  generalize (BitVec.ofInt 64 x).toNat &&& m = n at *
  rw [IntKind.wrap_i64]
  omega

theorem u64_nonneg (t : Int) : 0 ≤ IntKind.u64.wrap t := by
  rw [IntKind.wrap_u64]
  omega
theorem RdI.take2 {w : World} {A : Option Addr} {a b c : Int} (h : RdI w A [a, b, c]) : RdI w A [a, b] := by
  obtain ⟨_, _, h2⟩ := h
  refine ⟨rfl, by simp, fun _ => ?_⟩
  obtain ⟨ad, e, hc⟩ := h2 (by simp)
  refine ⟨ad, e, fun j p hp => hc j p ?_⟩
  match j, hp with
  | 0, hp => exact hp
  | 1, hp => exact hp
  | j + 2, hp => simp at hp
/-- A variable that holds an item. -/
def IVar (w : World) (b : Nat) (x : S26) : Prop := w.heap[b]? = some (itO x)
theorem IVar.below {w w1 : World} {b : Nat} {x : S26} (h : IVar w b x) (hb : Below w.heap.size w w1) : IVar w1 b x := blk_below h hb
/-- The walk stops ahead of this operation. -/
structure AtOp (ops : Array Oper) (Q : Exit → Act → World → Prop) (o : Oper) (rest : List Oper) (a : Act) (w : World) : Prop where
  mk :: (out : wpList Try.prog ops Q (o :: rest) a w)
theorem at_load {ops : Array Oper} {Q : Exit → Act → World → Prop} {o : Oper} {rest : List Oper} {a : Act} {w : World} (s : Tmp) (_ : o.op = Op.load 28 (.tmp s)) (h : AtOp ops Q o rest a w) : wpList Try.prog ops Q (o :: rest) a w := h.out
theorem at_store {ops : Array Oper} {Q : Exit → Act → World → Prop} {o : Oper} {rest : List Oper} {a : Act} {w : World} (s x : Tmp) (_ : o.op = Op.store 28 (.tmp s) (.tmp x)) (h : AtOp ops Q o rest a w) : wpList Try.prog ops Q (o :: rest) a w := h.out
theorem join_bad {a : S28} {bs : List Int} (h : amay a bs = false) : joinRes bs [a] = (z28, 100) := by
  have hall : ¬ allm bs (-1) [a] = true := by
    unfold allm
    rw [h]
    simp
  unfold joinRes
  rw [if_neg hall]
theorem one_bad {x : S26} {bs : List Int} (h : imay x = false) : oneRes x bs = (z28, 100) := by
  unfold oneRes
  rw [h]
  rfl
theorem imay_bad1 {d : Int} (h : 1 ≤ d) : imay ⟨-d, 0, 1, 0⟩ = false := by
  unfold imay
  rw [decide_eq_false_iff_not]
  simp only []
  omega
theorem imay_bad2 {d : Int} (h : 1 ≤ d) : imay ⟨0, 0, 1 - d, 0⟩ = false := by
  unfold imay
  rw [decide_eq_false_iff_not]
  simp only []
  omega
/-- The one that may be, with one part of it turned. -/
def frm (d : Int) : Nat → S28
  | 0 => ⟨2 + d, 12, 3, 9, ⟨1, 4, 2, 3⟩, ⟨1, 5, 3, 9⟩, [0, 1, 1]⟩
  | 1 => ⟨1, 12, 3, 9, ⟨1, 4, 2, 3⟩, ⟨1, 5, 3, 9⟩, [0, 1, 1]⟩
  | 2 => ⟨2, 18 + d, 3, 9, ⟨1, 4, 2, 3⟩, ⟨1, 5, 3, 9⟩, [0, 1, 1]⟩
  | 3 => ⟨2, 6 - d, 3, 9, ⟨1, 4, 2, 3⟩, ⟨1, 5, 3, 9⟩, [0, 1, 1]⟩
  | 4 => ⟨2, 12, 3 + d, 9, ⟨1, 4, 2, 3⟩, ⟨1, 5, 3, 9⟩, [0, 1, 1]⟩
  | 5 => ⟨2, 12, 3, 9 - d, ⟨1, 4, 2, 3⟩, ⟨1, 5, 3, 9⟩, [0, 1, 1]⟩
  | 6 => ⟨2, 12, 3, 1099511627776 + d, ⟨1, 4, 2, 3⟩, ⟨1, 5, 3, 9⟩, [0, 1, 1]⟩
  | 7 => ⟨2, 12, 3, 9, ⟨2, 4, 2, 3⟩, ⟨1, 5, 3, 9⟩, [0, 1, 1]⟩
  | 8 => ⟨2, 12, 3, 9, ⟨1, 5 + d, 2, 3⟩, ⟨1, 5, 3, 9⟩, [0, 1, 1]⟩
  | 9 => ⟨2, 12, 3, 9, ⟨1, 4, 2, 3⟩, ⟨1, 5, 0, 9⟩, [0, 1, 1]⟩
  | 10 => ⟨2, 12, 3, 9, ⟨1, 4, 2, 3⟩, ⟨1, 5, 3, 9 + d⟩, [0, 1, 1]⟩
  | 11 => ⟨2, 12, 3, 9, ⟨1, 4, 2, 3⟩, ⟨1, 5, 3, 9⟩, [d, 1, 1]⟩
  | 12 => ⟨2, 12, 3, 9, ⟨1, 4, 2, 3⟩, ⟨1, 5, 3, 9⟩, [-1, 1, 1]⟩
  | 13 => ⟨2, 12, 3, 9, ⟨1, 4, 2, 3⟩, ⟨1, 5, 3, 9⟩, [0, 1]⟩
  | 14 => ⟨0, d, 0, 0, ⟨0, 0, 0, 0⟩, ⟨0, 0, 0, 0⟩, [0, 0, 0]⟩
  | 15 => ⟨0, 0, 0, 0, ⟨1, 4, 2, 3⟩, ⟨0, 0, 0, 0⟩, [0, 0, 0]⟩
  | 16 => ⟨2, 12, 3, 9, ⟨1, -1099511627776 - d, 2, 3⟩, ⟨1, 5, 3, 9⟩, [0, 1, 1]⟩
  | _ => ⟨-d, 12, 3, 9, ⟨1, 4, 2, 3⟩, ⟨1, 5, 3, 9⟩, [0, 1, 1]⟩
theorem frm_bad {d : Int} (h : 1 ≤ d) (n : Nat) : amay (frm d n) [0, 5] = false := by
  have hb : bmay [0, 5] = true := by kernel_rfl
  unfold frm
  split <;> (unfold amay; rw [hb])
  all_goals
    simp [hmay, nok, emay, iok, imay, wm, ord, bareB, isz]
  all_goals
    try omega
end Go.Proofs.Ytggaefklcpbfnaa.My
