/- What a law meets: aggregates that lie in its variables; rows of numbers that are read. No statement of the seed is proved here. -/
import Derived.Test.YtggaefklcpbfnaaAccU
namespace Go.Proofs.Ytggaefklcpbfnaa.My
open Go.RowKit Pa Go.Proofs.YtggaefklcpbfnaaW.PrintWords

theorem num_any (a : Int) (w : World) : Calls Try.prog 20 #[.int .i64 a] w fun e w' => e = .returned (.int .i64 a) ∧ w = w' := by
  go_enter Try.func20, Try.ntmps20
  go_wp2
  go_ret
  exact ⟨rfl, rfl⟩
theorem same_loop (l : List Int) (hl : l.length ≤ 4398046511104) : ∀ n i k, i + n = l.length → n < k → bournelaw0_SameInts.l0 k l l i = some true
  | 0, i, 0, _, hk => absurd hk (by omega)
  | 0, i, k + 1, h, _ => by
    unfold bournelaw0_SameInts.l0
    rw [if_neg (by omega)]
  | n + 1, i, 0, _, hk => absurd hk (by omega)
  | n + 1, i, k + 1, h, hk => by
    have ih := same_loop l hl n (i + 1) k (by omega) (by omega)
    unfold bournelaw0_SameInts.l0
    rw [if_pos (by omega), if_pos (by omega), if_pos (by omega), if_pos rfl, wrap_up (by omega), ih]
/-- A variable that holds an aggregate. -/
def AVar (w : World) (b : Nat) (a : S28) (A : Option Addr) (c : Nat) : Prop := w.heap[b]? = some (acO a (.slice A a.f6.length c)) ∧ a.f6.length ≤ c ∧ RdI w A a.f6
theorem AVar.below {w w1 : World} {b : Nat} {a : S28} {A : Option Addr} {c : Nat} (h : AVar w b a A c) (hb : Below w.heap.size w w1) : AVar w1 b a A c := ⟨blk_below h.1 hb, h.2.1, Kd.C_below h.2.2 hb⟩
theorem AVar.new {w : World} {a : S28} {A : Option Addr} {c : Nat} (hl : a.f6.length ≤ c) (hr : RdI w A a.f6) : AVar (w.alloc (acO a (.slice A a.f6.length c))) w.heap.size a A c :=
  ⟨heap_alloc_new w _, hl, Kd.C_below hr ((Below.refl _ _).alloc (Nat.le_refl _) _)⟩
theorem rdI_nil (w : World) : RdI w none [] := ⟨rfl, by decide, fun h => absurd h (by decide)⟩
theorem rdI_blk {w : World} {b : Nat} {l : List Int} {T : TypeId} {fr : Nat × Nat} (h : w.heap[b]? = some (.cells (l.map (Value.int .i64)).toArray T fr)) (hl : l.length ≤ 1000) : RdI w (some ⟨b, 0, none⟩) l := by
  refine ⟨rfl, by omega, fun _ => ⟨_, rfl, fun j p hp => ⟨[.int .i64 p], rfl, rfl, fun i u hu => ?_⟩⟩⟩
  rw [show j * (Kd.int .i64).sz + i = j + i by rw [show (Kd.int .i64).sz = 1 from rfl, Nat.mul_one], add_plain, blk_cell h]
  cases i with
  | zero =>
    simp at hu
    subst hu
    simp [List.getElem?_map, hp]
  | succ i => simp at hu
end Go.Proofs.Ytggaefklcpbfnaa.My
