/- The heap's functions as a law meets them: what a heap of its own holds, call by call. No statement of the seed is proved here. -/
import Derived.Test.YtcleljmbdiddeaaHeapE
namespace Go.Proofs.Ytcleljmbdiddeaa
open Go.RowKit HP PHeaps

/-- A heap's own blocks. -/
def own (g : Nat) (v : Value) (k : Nat) : Prop := k = g ∨ v.ownBlock = some k

/-- A heap that the law has made since w0. -/
structure HS (w0 w : World) (g : Nat) (v : Value) (most : Int) (xs : List It) : Prop where
  at_ : HeapAt (own g v) w g v most xs
  bel : Below w0.heap.size w0 w
  new : ∀ k, own g v k → w0.heap.size ≤ k
  heap : Heap xs

/-- What a call does beside. -/
structure Step (g : Nat) (v : Value) (w : World) (v' : Value) (w' : World) : Prop where
  chg : Chg (own g v) w w'
  apart : ∀ k, k < w.heap.size → ¬ own g v k → ¬ own g v' k

theorem HS.lt {w0 w : World} {g : Nat} {v : Value} {most : Int} {xs : List It} (h : HS w0 w g v most xs) : ∀ k, own g v k → k < w.heap.size := fun k hk => by
  rcases hk with rfl | hk
  · exact blk_lt h.at_.head
  · exact (h.at_.row.lt k hk).2
theorem HeapAt.tight {F : Nat → Prop} {w : World} {g : Nat} {v : Value} {most : Int} {xs : List It} (h : HeapAt F w g v most xs) : HeapAt (own g v) w g v most xs := ⟨h.head, h.row, .inl rfl, fun _ hk => .inr hk⟩
theorem HeapAt.own {F : Nat → Prop} {w : World} {g : Nat} {v : Value} {most : Int} {xs : List It} (h : HeapAt F w g v most xs) : ∀ k, own g v k → F k := fun k hk => by
  rcases hk with rfl | hk
  · exact h.ing
  · exact h.inv k hk
theorem HS.quiet {w0 w w1 : World} {g : Nat} {v : Value} {most : Int} {xs : List It} (h : HS w0 w g v most xs) (hb : Below w.heap.size w w1) : HS w0 w1 g v most xs :=
  ⟨h.at_.below hb, h.bel.trans (hb.mono h.bel.size), h.new, h.heap⟩
theorem Step.quiet {w w1 : World} {g : Nat} {v : Value} (hb : Below w.heap.size w w1) : Step g v w v w1 := ⟨Chg.of_below hb, fun _ _ h => h⟩
theorem Step.trans {w w1 w2 : World} {g : Nat} {v v1 v2 : Value} (h : Step g v w v1 w1) (k : Step g v1 w1 v2 w2) : Step g v w v2 w2 :=
  ⟨h.chg.trans k.chg (fun i hi hk => Classical.byContradiction fun hn => h.apart i hi hn hk), fun i hi hn => k.apart i (Nat.lt_of_lt_of_le hi h.chg.size) (h.apart i hi hn)⟩
theorem Step.obj {w w1 : World} {g b : Nat} {v v1 : Value} {o : Obj} (h : Step g v w v1 w1) (hb : w.heap[b]? = some o) (hn : ¬ own g v b) : w1.heap[b]? = some o ∧ ¬ own g v1 b := ⟨h.chg.obj hb hn, h.apart b (blk_lt hb) hn⟩

/-- A variable of the law's that holds an item. -/
structure Var (g : Nat) (v : Value) (w : World) (b : Nat) (x : It) : Prop where
  blk : w.heap[b]? = some (itObj x)
  apart : ¬ own g v b
theorem Var.new {w0 w : World} {g : Nat} {v : Value} {most : Int} {xs : List It} (h : HS w0 w g v most xs) (x : It) : Var g v (w.alloc (itObj x)) w.heap.size x :=
  ⟨heap_alloc_new w _, fun hk => by have := h.lt _ hk; omega⟩
theorem Var.step {w w1 : World} {g b : Nat} {v v1 : Value} {x : It} (h : Var g v w b x) (hs : Step g v w v1 w1) : Var g v1 w1 b x := ⟨(hs.obj h.blk h.apart).1, (hs.obj h.blk h.apart).2⟩
theorem Var.quiet {w w1 : World} {g b : Nat} {v : Value} {x : It} (h : Var g v w b x) (hb : Below w.heap.size w w1) : Var g v w1 b x := h.step (Step.quiet hb)

def bad (ys : List It) : Bool := !ys.all may
/-- Pushing: its word, what there is then. -/
def pushRes (most : Int) (xs ys : List It) : Int × List It :=
  if bad ys = true then (1500, xs) else if most < xs.length + ys.length then (1501, xs) else (0, pushAll xs ys)
/-- Taking: the item, the word, what there is then. -/
def popRes (xs : List It) : It × Int × List It := if xs = [] then (z0, 1502, []) else (at_ xs 0, 0, pop xs)

theorem push_hs {w0 w : World} {g : Nat} {v : Value} {most : Int} {xs : List It} (ys : List It) (A : Option Addr) (c : Nat) (h : HS w0 w g v most xs) (hA : Rd w A ys) (hAF : ∀ b o, A = some ⟨b, o, none⟩ → ¬ own g v b) (hm : most ≤ 8192) (hl : xs.length ≤ 8192) (hy : ys.length ≤ 4398046511104) :
    Calls Try.prog 23 #[.pointer (some ⟨g, 0, none⟩), .slice A ys.length c] w fun e w' => e = .returned (.int .i64 (pushRes most xs ys).1) ∧ ∃ v', HS w0 w' g v' most (pushRes most xs ys).2 ∧ Step g v w v' w' := by
  refine (push_any g v most xs ys A c w h.at_ h.lt h.heap hA hAF hm hl hy).mono fun e w' hp => ?_
  unfold PushPost at hp
  unfold pushRes bad
  cases hb : ys.all may with
  | false =>
    rw [if_pos hb] at hp
    obtain ⟨rfl, hb⟩ := hp
    exact ⟨rfl, v, h.quiet hb, Step.quiet hb⟩
  | true =>
    rw [if_neg (by rw [hb]; simp)] at hp
    rw [if_neg (by simp)]
    by_cases ho : most < xs.length + ys.length
    · rw [if_pos ho] at hp
      rw [if_pos ho]
      obtain ⟨rfl, hb⟩ := hp
      exact ⟨rfl, v, h.quiet hb, Step.quiet hb⟩
    · rw [if_neg ho] at hp
      rw [if_neg ho]
      obtain ⟨rfl, ⟨v', hv⟩, hc⟩ := hp
      refine ⟨rfl, v', ⟨hv.tight, Chg.base h.bel hc h.bel.size h.new, fun k hk => ?_, (pushAll_spec ys h.heap).1⟩, hc, fun k hk hn hk' => ?_⟩
      · rcases hv.own k hk with h1 | h1
        · exact h.new k h1
        · exact Nat.le_trans h.bel.size h1
      · rcases hv.own k hk' with h1 | h1
        · exact hn h1
        · omega

theorem pop_hs {w0 w : World} {g : Nat} {v : Value} {most : Int} {xs : List It} (h : HS w0 w g v most xs) (hl : xs.length ≤ 8192) :
    Calls Try.prog 20 #[.pointer (some ⟨g, 0, none⟩)] w fun e w' => e = .returned (.tuple #[.agg #[.int .i64 (popRes xs).1.s, .int .i64 (popRes xs).1.t, .int .i64 (popRes xs).1.q, .int .i64 (popRes xs).1.v], .int .i64 (popRes xs).2.1]) ∧ ∃ v', HS w0 w' g v' most (popRes xs).2.2 ∧ Step g v w v' w' := by
  unfold popRes
  by_cases hx : xs = []
  · subst hx
    rw [if_pos rfl]
    refine (pop_none g v most w h.at_).mono fun e w' hp => ?_
    obtain ⟨rfl, hb⟩ := hp
    exact ⟨rfl, v, h.quiet hb, Step.quiet hb⟩
  · rw [if_neg hx]
    have hp0 : 0 < xs.length := List.length_pos_iff.2 hx
    refine (pop_some g v most xs w h.at_ h.lt hp0 (by omega)).mono fun e w' hp => ?_
    obtain ⟨rfl, ⟨v', hv⟩, hc⟩ := hp
    refine ⟨rfl, v', ⟨hv.tight, Chg.base h.bel hc h.bel.size h.new, fun k hk => h.new k (hv.own k hk), (pop_spec h.heap hp0).1⟩, hc, fun k hk hn hk' => hn (hv.own k hk')⟩

theorem peek_hs {w0 w : World} {g : Nat} {v : Value} {most : Int} {xs : List It} (h : HS w0 w g v most xs) :
    Calls Try.prog 27 #[.pointer (some ⟨g, 0, none⟩)] w fun e w' => e = .returned (.tuple #[.agg #[.int .i64 (popRes xs).1.s, .int .i64 (popRes xs).1.t, .int .i64 (popRes xs).1.q, .int .i64 (popRes xs).1.v], .int .i64 (popRes xs).2.1]) ∧ Below w.heap.size w w' := by
  unfold popRes
  by_cases hx : xs = []
  · subst hx
    rw [if_pos rfl]
    exact peek_none g v most w h.at_
  · rw [if_neg hx]
    exact peek_some g v most xs w h.at_ (List.length_pos_iff.2 hx)

theorem len_hs {w0 w : World} {g : Nat} {v : Value} {most : Int} {xs : List It} (h : HS w0 w g v most xs) :
    Calls Try.prog 29 #[.pointer (some ⟨g, 0, none⟩)] w fun e w' => e = .returned (.int .i64 xs.length) ∧ w' = w := len_any g v most xs w h.at_

theorem new_hs {w0 w : World} (m : Int) (hb : Below w0.heap.size w0 w) : HS w0 (w.alloc (.cells #[.int .i64 m, .slice none 0 0] 54)) w.heap.size (.slice none 0 0) m [] :=
  ⟨(new_at m w).tight, hb.alloc hb.size _, fun k hk => by
    rcases hk with rfl | hk
    · exact hb.size
    · simp [Value.ownBlock] at hk, heap_nil⟩

/-- 'item': an item by its four numbers. -/
theorem item_any (a b c d : Int) (w : World) :
    Calls Try.prog 30 #[.int .i64 a, .int .i64 b, .int .i64 c, .int .i64 d] w fun e w' => e = .returned (.agg #[.int .i64 a, .int .i64 b, .int .i64 c, .int .i64 d]) ∧ Below w.heap.size w w' :=
  bournelaw15_item.calls a b c d a b c d w rfl
theorem num_any (a : Int) (w : World) : Calls Try.prog 18 #[.int .i64 a] w fun e w' => e = .returned (.int .i64 a) ∧ w = w' := by
  go_enter Try.func18, Try.ntmps18
  go_wp2
  go_ret
  exact ⟨rfl, rfl⟩
end Go.Proofs.Ytcleljmbdiddeaa
