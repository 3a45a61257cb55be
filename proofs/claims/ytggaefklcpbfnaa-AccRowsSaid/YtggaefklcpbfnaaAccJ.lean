/- What a law meets: items, aggregates that lie in its variables, like ones. No statement of the seed is proved here. -/
import Derived.Test.YtggaefklcpbfnaaAccI
import Derived.Test.YtggaefklcpbfnaaAccB
import Derived.Test.YtggaefklcpbfnaaAccV
import Derived.Test.YtggaefklcpbfnaaPaItem1
import Derived.Test.YtggaefklcpbfnaaPaSameA
namespace Go.Proofs.Ytggaefklcpbfnaa.My
open Go.RowKit Pa Go.Proofs.YtggaefklcpbfnaaW.PrintWords

theorem item_any (a b c d : Int) (w : World) :
    Calls Try.prog 38 #[.int .i64 a, .int .i64 b, .int .i64 c, .int .i64 d] w fun e w' => e = .returned (.agg #[.int .i64 a, .int .i64 b, .int .i64 c, .int .i64 d]) ∧ Below w.heap.size w w' :=
  bournelaw1_item.calls a b c d a b c d w rfl

theorem same_f (a : S28) (hl : a.f6.length ≤ 4398046511104) : bournelaw0_SameAcc.f (a.f6.length + 1) a.f0 a.f1 a.f2 a.f3 a.f4.f0 a.f4.f1 a.f4.f2 a.f4.f3 a.f5.f0 a.f5.f1 a.f5.f2 a.f5.f3 a.f6 a.f0 a.f1 a.f2 a.f3 a.f4.f0 a.f4.f1 a.f4.f2 a.f4.f3 a.f5.f0 a.f5.f1 a.f5.f2 a.f5.f3 a.f6 = some true := by
  unfold bournelaw0_SameAcc.f bournelaw0_SameInts.f
  have h := same_loop a.f6 hl a.f6.length 0 (a.f6.length + 1) (by omega) (by omega)
  simp only [Int.natCast_zero] at h
  simp [h]
/-- Like ones are told as like. -/
theorem same_yes (a : S28) (A B : Option Addr) (c d : Nat) (w : World) (hA : RdI w A a.f6) (hc : a.f6.length ≤ c) (hB : RdI w B a.f6) (hd : a.f6.length ≤ d) (hl : a.f6.length ≤ 4398046511104) :
    Calls Try.prog 22 #[acV a (.slice A a.f6.length c), acV a (.slice B a.f6.length d)] w fun e w' => e = .returned (.bool true) ∧ Below w.heap.size w w' :=
  bournelaw0_SameAcc.calls (a.f6.length + 1) _ _ _ _ _ _ _ _ _ _ _ _ A c a.f6 _ _ _ _ _ _ _ _ _ _ _ _ B d a.f6 true w hA hc hB hd (same_f a hl)

theorem rdA_nil (w : World) (A : Option Addr) : RdA w A [] := fun h => absurd h (by simp)
theorem rdA_one {w : World} {b : Nat} {x : S28} {A : Option Addr} {c : Nat} {fr : Nat × Nat} (h : w.heap[b]? = some (.cells #[.int .i64 x.f0, .int .i64 x.f1, .int .i64 x.f2, .int .i64 x.f3, .int .i64 x.f4.f0, .int .i64 x.f4.f1, .int .i64 x.f4.f2, .int .i64 x.f4.f3, .int .i64 x.f5.f0, .int .i64 x.f5.f1, .int .i64 x.f5.f2, .int .i64 x.f5.f3, .slice A x.f6.length c] 28 fr)) (hl : x.f6.length ≤ c) (hr : RdI w A x.f6) : RdA w (some ⟨b, 0, none⟩) [x] := fun _ => by
  refine ⟨b, 0, rfl, blk_lt h, fun i hi => ?_⟩
  obtain rfl : i = 0 := by simp at hi; omega
  exact ⟨A, c, (blk_cell h 0).trans rfl, (blk_cell h 1).trans rfl, (blk_cell h 2).trans rfl, (blk_cell h 3).trans rfl, (blk_cell h 4).trans rfl, (blk_cell h 5).trans rfl, (blk_cell h 6).trans rfl, (blk_cell h 7).trans rfl, (blk_cell h 8).trans rfl, (blk_cell h 9).trans rfl, (blk_cell h 10).trans rfl, (blk_cell h 11).trans rfl, (blk_cell h 12).trans rfl, hl, hr⟩
theorem rdA_two {w : World} {b : Nat} {x y : S28} {A B : Option Addr} {c d : Nat} {fr : Nat × Nat} (h : w.heap[b]? = some (.cells #[.int .i64 x.f0, .int .i64 x.f1, .int .i64 x.f2, .int .i64 x.f3, .int .i64 x.f4.f0, .int .i64 x.f4.f1, .int .i64 x.f4.f2, .int .i64 x.f4.f3, .int .i64 x.f5.f0, .int .i64 x.f5.f1, .int .i64 x.f5.f2, .int .i64 x.f5.f3, .slice A x.f6.length c, .int .i64 y.f0, .int .i64 y.f1, .int .i64 y.f2, .int .i64 y.f3, .int .i64 y.f4.f0, .int .i64 y.f4.f1, .int .i64 y.f4.f2, .int .i64 y.f4.f3, .int .i64 y.f5.f0, .int .i64 y.f5.f1, .int .i64 y.f5.f2, .int .i64 y.f5.f3, .slice B y.f6.length d] 28 fr)) (hl : x.f6.length ≤ c) (hr : RdI w A x.f6) (hl2 : y.f6.length ≤ d) (hr2 : RdI w B y.f6) : RdA w (some ⟨b, 0, none⟩) [x, y] := fun _ => by
  refine ⟨b, 0, rfl, blk_lt h, fun i hi => ?_⟩
  rcases (by simp at hi; omega : i = 0 ∨ i = 1) with rfl | rfl
  · exact ⟨A, c, (blk_cell h 0).trans rfl, (blk_cell h 1).trans rfl, (blk_cell h 2).trans rfl, (blk_cell h 3).trans rfl, (blk_cell h 4).trans rfl, (blk_cell h 5).trans rfl, (blk_cell h 6).trans rfl, (blk_cell h 7).trans rfl, (blk_cell h 8).trans rfl, (blk_cell h 9).trans rfl, (blk_cell h 10).trans rfl, (blk_cell h 11).trans rfl, (blk_cell h 12).trans rfl, hl, hr⟩
  · exact ⟨B, d, (blk_cell h 13).trans rfl, (blk_cell h 14).trans rfl, (blk_cell h 15).trans rfl, (blk_cell h 16).trans rfl, (blk_cell h 17).trans rfl, (blk_cell h 18).trans rfl, (blk_cell h 19).trans rfl, (blk_cell h 20).trans rfl, (blk_cell h 21).trans rfl, (blk_cell h 22).trans rfl, (blk_cell h 23).trans rfl, (blk_cell h 24).trans rfl, (blk_cell h 25).trans rfl, hl2, hr2⟩
end Go.Proofs.Ytggaefklcpbfnaa.My
