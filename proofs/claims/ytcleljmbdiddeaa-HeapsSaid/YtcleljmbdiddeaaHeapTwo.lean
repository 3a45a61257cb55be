/- Two heaps side by side, the program's and the reference's: what each call leaves of the other. No statement of the seed is proved here. -/
import Derived.Test.YtcleljmbdiddeaaHeapSpoil
import Derived.Test.YtcleljmbdiddeaaHeapItems
namespace Go.Proofs.Ytcleljmbdiddeaa
open Go.RowKit HP PHeaps

/-- Both heaps are the law's own, apart, and hold the like. -/
structure Two (w0 w : World) (g : Nat) (v : Value) (r : Nat) (u : Value) (most : Int) (xs ys : List It) : Prop where
  hs : HS w0 w g v most xs
  rf : RefAt w r u most ys
  new : ∀ k, own r u k → w0.heap.size ≤ k
  apart : ∀ k, own r u k → ¬ own g v k

section
variable {w0 w w1 : World} {g r : Nat} {v u : Value} {most : Int} {xs ys : List It}
theorem Two.quiet (h : Two w0 w g v r u most xs ys) (hb : Below w.heap.size w w1) : Two w0 w1 g v r u most xs ys := ⟨h.hs.quiet hb, h.rf.below hb, h.new, h.apart⟩
theorem Two.heap {v1 : Value} {xs1 : List It} (h : Two w0 w g v r u most xs ys) (h1 : HS w0 w1 g v1 most xs1) (hs : Step g v w v1 w1) : Two w0 w1 g v1 r u most xs1 ys :=
  ⟨h1, h.rf.keep hs.chg (fun k hk => h.apart k hk), h.new, fun k hk => hs.apart k (h.rf.lt k hk) (h.apart k hk)⟩
theorem Two.ref {u1 : Value} {ys1 : List It} (h : Two w0 w g v r u most xs ys) (h1 : RefAt w1 r u1 most ys1) (hs : Step r u w u1 w1) (hn : ∀ k, own r u1 k → own r u k ∨ w.heap.size ≤ k) : Two w0 w1 g v r u1 most xs ys1 :=
  ⟨h.hs.keep hs.chg (fun k hk => ⟨h.apart k hk, h.new k hk⟩), h1, fun k hk => by
    rcases hn k hk with h2 | h2
    · exact h.new k h2
    · exact Nat.le_trans h.hs.bel.size h2, fun k hk ho => by
    rcases hn k hk with h2 | h2
    · exact h.apart k h2 ho
    · have := h.hs.lt k ho
      omega⟩
theorem Step.own_new {u1 : Value} (hs : Step r u w u1 w1) : ∀ k, own r u1 k → own r u k ∨ w.heap.size ≤ k := fun k hk => by
  by_cases ho : own r u k
  · exact .inl ho
  · by_cases hl : k < w.heap.size
    · exact absurd hk (hs.apart k hl ho)
    · exact .inr (by omega)
theorem Two.ref_ {u1 : Value} {ys1 : List It} (h : Two w0 w g v r u most xs ys) (h1 : RefAt w1 r u1 most ys1) (hs : Step r u w u1 w1) : Two w0 w1 g v r u1 most xs ys1 := h.ref h1 hs hs.own_new
theorem Two.chg {S : Nat → Prop} (h : Two w0 w g v r u most xs ys) (hc : Chg S w w1) (hS : ∀ k, S k → ¬ own g v k ∧ ¬ own r u k ∧ w0.heap.size ≤ k) : Two w0 w1 g v r u most xs ys :=
  ⟨h.hs.keep hc (fun k hk => ⟨(hS k hk).1, (hS k hk).2.2⟩), h.rf.keep hc (fun k hk hs => (hS k hs).2.1 hk), h.new, h.apart⟩
end

theorem ref_pop {g : Nat} {v : Value} {most : Int} {ys : List It} {w : World} (h : RefAt w g v most ys) (hn : ys.length ≤ 10000) :
    Calls Try.prog 21 #[.pointer (some ⟨g, 0, none⟩)] w fun e w' => ∃ x word, e = .returned (.tuple #[.agg #[.int .i64 x.s, .int .i64 x.t, .int .i64 x.q, .int .i64 x.v], .int .i64 word]) ∧ (x, word) = (if ys = [] then (z0, 1502) else (at_ ys 0, (0 : Int))) ∧ ∃ v', RefAt w' g v' most (ys.drop 1) ∧ Step g v w v' w' := by
  by_cases hy : ys = []
  · subst hy
    refine (ref_pop_none g v most w h).mono fun e w' hp => ?_
    obtain ⟨rfl, hb⟩ := hp
    exact ⟨z0, 1502, rfl, rfl, v, h.below hb, Step.quiet hb⟩
  · refine (ref_pop_some g v most ys w h (List.length_pos_iff.2 hy) hn).mono fun e w' hp => ?_
    obtain ⟨rfl, v', h1, h2⟩ := hp
    exact ⟨at_ ys 0, 0, rfl, by rw [if_neg hy], v', h1, h2⟩
theorem ref_peek {g : Nat} {v : Value} {most : Int} {ys : List It} {w : World} (h : RefAt w g v most ys) :
    Calls Try.prog 28 #[.pointer (some ⟨g, 0, none⟩)] w fun e w' => ∃ x word, e = .returned (.tuple #[.agg #[.int .i64 x.s, .int .i64 x.t, .int .i64 x.q, .int .i64 x.v], .int .i64 word]) ∧ (x, word) = (if ys = [] then (z0, 1502) else (at_ ys 0, (0 : Int))) ∧ Below w.heap.size w w' := by
  by_cases hy : ys = []
  · subst hy
    refine (ref_peek_none g v most w h).mono fun e w' hp => ?_
    obtain ⟨rfl, hb⟩ := hp
    exact ⟨z0, 1502, rfl, rfl, hb⟩
  · refine (ref_peek_some g v most ys w h (List.length_pos_iff.2 hy)).mono fun e w' hp => ?_
    obtain ⟨rfl, hb⟩ := hp
    exact ⟨at_ ys 0, 0, rfl, by rw [if_neg hy], hb⟩
end Go.Proofs.Ytcleljmbdiddeaa
