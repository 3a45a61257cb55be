/- Items, aggregates in memory; rows of whole numbers. No statement of the seed is proved here. -/
import Derived.Test.YtggaefklcpbfnaaAccA
import Derived.Test.YtggaefklcpbfnaaMem
namespace Go.Proofs.Ytggaefklcpbfnaa.My
open Go.RowKit Pa Go.Proofs.YtggaefklcpbfnaaW.PrintWords
attribute [local go_sem high] eqA26

/-- A row of whole numbers of one's own. -/
def Own (w : World) (base : Nat) (v : Value) (h : List Int) : Prop := w.ownsRow base 3 1 v h.length (h.map (Value.int .i64))
/-- A row of whole numbers that is read. -/
abbrev RdI (w : World) (A : Option Addr) (h : List Int) : Prop := Kd.C (Kd.int .i64) w A h.length h
theorem Own.reads {w : World} {base : Nat} {v : Value} {h : List Int} (ho : Own w base v h) : ∃ A c, v = .slice A h.length c ∧ h.length ≤ c ∧ RdI w A h :=
  Kd.R_reads (d := Kd.int .i64) (Kd.R_of_own (ok := fun _ => True) ho (fun _ _ => trivial))
theorem Own.nil (w : World) (base : Nat) : Own w base (.slice none 0 0) [] := World.ownsRow_nil _ _ _ _
theorem Own.keep {S : Nat → Prop} {w w1 : World} {base : Nat} {v : Value} {h : List Int} (ho : Own w base v h) (hc : Chg S w w1) (hn : ∀ k, v.ownBlock = some k → ¬ S k) : Own w1 base v h := row_keep ho hc hn
theorem Own.below {w w1 : World} {base : Nat} {v : Value} {h : List Int} (ho : Own w base v h) (hb : Below w.heap.size w w1) : Own w1 base v h := ho.keep (S := fun _ => False) (Chg.of_below hb) (fun _ _ h => h)

/-- An item, an aggregate in a block. -/
def itO (x : S26) : Obj := .cells #[.int .i64 x.f0, .int .i64 x.f1, .int .i64 x.f2, .int .i64 x.f3] 26
def acO (a : S28) (v : Value) : Obj := .cells #[.int .i64 a.f0, .int .i64 a.f1, .int .i64 a.f2, .int .i64 a.f3, .int .i64 a.f4.f0, .int .i64 a.f4.f1, .int .i64 a.f4.f2, .int .i64 a.f4.f3, .int .i64 a.f5.f0, .int .i64 a.f5.f1, .int .i64 a.f5.f2, .int .i64 a.f5.f3, v] 28
theorem itO_facts {w : World} {b : Nat} {x : S26} (h : w.heap[b]? = some (itO x)) : w.cell? ⟨b, 0, none⟩ = some (.int .i64 x.f0) ∧ w.cell? ⟨b, 1, none⟩ = some (.int .i64 x.f1) ∧ w.cell? ⟨b, 2, none⟩ = some (.int .i64 x.f2) ∧ w.cell? ⟨b, 3, none⟩ = some (.int .i64 x.f3) ∧ b < w.heap.size :=
  ⟨(blk_cell h 0).trans rfl, (blk_cell h 1).trans rfl, (blk_cell h 2).trans rfl, (blk_cell h 3).trans rfl, blk_lt h⟩
theorem acO_facts {w : World} {b : Nat} {a : S28} {v : Value} (h : w.heap[b]? = some (acO a v)) : w.cell? ⟨b, 0, none⟩ = some (.int .i64 a.f0) ∧ w.cell? ⟨b, 1, none⟩ = some (.int .i64 a.f1) ∧ w.cell? ⟨b, 2, none⟩ = some (.int .i64 a.f2) ∧ w.cell? ⟨b, 3, none⟩ = some (.int .i64 a.f3) ∧ w.cell? ⟨b, 4, none⟩ = some (.int .i64 a.f4.f0) ∧ w.cell? ⟨b, 5, none⟩ = some (.int .i64 a.f4.f1) ∧ w.cell? ⟨b, 6, none⟩ = some (.int .i64 a.f4.f2) ∧ w.cell? ⟨b, 7, none⟩ = some (.int .i64 a.f4.f3) ∧ w.cell? ⟨b, 8, none⟩ = some (.int .i64 a.f5.f0) ∧ w.cell? ⟨b, 9, none⟩ = some (.int .i64 a.f5.f1) ∧ w.cell? ⟨b, 10, none⟩ = some (.int .i64 a.f5.f2) ∧ w.cell? ⟨b, 11, none⟩ = some (.int .i64 a.f5.f3) ∧ w.cell? ⟨b, 12, none⟩ = some v ∧ b < w.heap.size :=
  ⟨(blk_cell h 0).trans rfl, (blk_cell h 1).trans rfl, (blk_cell h 2).trans rfl, (blk_cell h 3).trans rfl, (blk_cell h 4).trans rfl, (blk_cell h 5).trans rfl, (blk_cell h 6).trans rfl, (blk_cell h 7).trans rfl, (blk_cell h 8).trans rfl, (blk_cell h 9).trans rfl, (blk_cell h 10).trans rfl, (blk_cell h 11).trans rfl, (blk_cell h 12).trans rfl, blk_lt h⟩
theorem blk_below {w w1 : World} {b : Nat} {o : Obj} (h : w.heap[b]? = some o) (hb : Below w.heap.size w w1) : w1.heap[b]? = some o := (Chg.of_below (S := fun _ => False) hb).obj h (fun h => h)

/-- All of an aggregate is stored. -/
def putA (w : World) (b : Nat) (a : S28) (v : Value) : World := ((((((((((((w.setCell ⟨b, 0, none⟩ (.int .i64 a.f0)).setCell ⟨b, 1, none⟩ (.int .i64 a.f1)).setCell ⟨b, 2, none⟩ (.int .i64 a.f2)).setCell ⟨b, 3, none⟩ (.int .i64 a.f3)).setCell ⟨b, 4, none⟩ (.int .i64 a.f4.f0)).setCell ⟨b, 5, none⟩ (.int .i64 a.f4.f1)).setCell ⟨b, 6, none⟩ (.int .i64 a.f4.f2)).setCell ⟨b, 7, none⟩ (.int .i64 a.f4.f3)).setCell ⟨b, 8, none⟩ (.int .i64 a.f5.f0)).setCell ⟨b, 9, none⟩ (.int .i64 a.f5.f1)).setCell ⟨b, 10, none⟩ (.int .i64 a.f5.f2)).setCell ⟨b, 11, none⟩ (.int .i64 a.f5.f3)).setCell ⟨b, 12, none⟩ v
theorem putA_blk {w : World} {b : Nat} {a0 a : S28} {v0 v : Value} (h : w.heap[b]? = some (acO a0 v0)) : (putA w b a v).heap[b]? = some (acO a v) := by
  have := blk_set (blk_set (blk_set (blk_set (blk_set (blk_set (blk_set (blk_set (blk_set (blk_set (blk_set (blk_set (blk_set h 0 (.int .i64 a.f0)) 1 (.int .i64 a.f1)) 2 (.int .i64 a.f2)) 3 (.int .i64 a.f3)) 4 (.int .i64 a.f4.f0)) 5 (.int .i64 a.f4.f1)) 6 (.int .i64 a.f4.f2)) 7 (.int .i64 a.f4.f3)) 8 (.int .i64 a.f5.f0)) 9 (.int .i64 a.f5.f1)) 10 (.int .i64 a.f5.f2)) 11 (.int .i64 a.f5.f3)) 12 v
  simp only [List.setIfInBounds_toArray, List.set_cons_zero, List.set_cons_succ] at this
  exact this
theorem putA_chg (w : World) (b : Nat) (a : S28) (v : Value) : Chg (fun k => k = b) w (putA w b a v) :=
  (((((((((((((Chg.refl (fun k => k = b) w).setCell (p := ⟨b, 0, none⟩) (.inl rfl) _).setCell (p := ⟨b, 1, none⟩) (.inl rfl) _).setCell (p := ⟨b, 2, none⟩) (.inl rfl) _).setCell (p := ⟨b, 3, none⟩) (.inl rfl) _).setCell (p := ⟨b, 4, none⟩) (.inl rfl) _).setCell (p := ⟨b, 5, none⟩) (.inl rfl) _).setCell (p := ⟨b, 6, none⟩) (.inl rfl) _).setCell (p := ⟨b, 7, none⟩) (.inl rfl) _).setCell (p := ⟨b, 8, none⟩) (.inl rfl) _).setCell (p := ⟨b, 9, none⟩) (.inl rfl) _).setCell (p := ⟨b, 10, none⟩) (.inl rfl) _).setCell (p := ⟨b, 11, none⟩) (.inl rfl) _).setCell (p := ⟨b, 12, none⟩) (.inl rfl) _

theorem info_int : (Try.prog.info? 3).map (fun i => (i.zero, i.size, i.bytes)) = some (some (.int .i64 0), 1, 8) := by kernel_rfl
theorem made_ints (n : Nat) : madeCells (Value.int .i64 0).cells n = Array.replicate n (.int .i64 0) := by
  apply Array.ext
  · simp [madeCells]
  · intro i h1 h2
    simp [madeCells, Value.cells, Nat.mod_one]
theorem make_ints (n : Nat) (hn : n ≤ 1000) (w : World) : (Instr.makeSlice 22 (.int .i64 n) (.int .i64 n)).run Try.prog w = .ok (.slice (some ⟨w.heap.size, 0, none⟩) n n) (w.alloc (.cells (Array.replicate n (.int .i64 0)) 3)) := by
  cases hi : Try.prog.info? 3 with
  | none => have := info_int; rw [hi] at this; simp at this
  | some i =>
    have h := info_int
    rw [hi] at h
    simp only [Option.map_some, Option.some.injEq, Prod.mk.injEq] at h
    obtain ⟨hz, hs, hb⟩ := h
    have hr := run_make w 22 3 i (.int .i64 0) Try.underlying22 hi hz .i64 .i64 n n (by omega) (by omega) (by rw [hb]; omega) (by omega)
    rw [hs, Nat.mul_one, Int.toNat_natCast, made_ints] at hr
    exact hr
theorem made_own (n : Nat) (hn : n ≤ 1000) (w : World) (g : Nat) (h : w.heap[g]? = some (.cells (Array.replicate n (.int .i64 0)) 3 (0, 0))) (base : Nat) (hb : base ≤ g) : Own w base (.slice (some ⟨g, 0, none⟩) n n) (List.replicate n 0) := by
  refine ⟨by simp, .inr ⟨g, n, _, by simp, hb, h, by simp, by simp [maxLen]; omega, by simp, ?_⟩⟩
  simp

/-- The end of a function that hands out an aggregate and a word. -/
theorem results_acc {fn : Func} {p u : Tmp} (h : fn.results = #[.cell p 28, .tmp u]) (tmps : Array Value) (w : World) (g : Nat) (a : S28) (v : Value) (hp : tmps.getD p undef = .pointer (some ⟨g, 0, none⟩)) (hg : w.heap[g]? = some (acO a v)) :
    (results fn tmps).run Try.prog w = .ok (.tuple #[acV a v, tmps.getD u undef]) w :=
  results_ct h tmps w g 28 _ (0, 0) _ hp hg Try.underlying28 rfl (by kernel_rfl)

end Go.Proofs.Ytggaefklcpbfnaa.My
