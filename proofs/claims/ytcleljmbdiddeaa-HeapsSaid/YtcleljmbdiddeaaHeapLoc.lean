/- A law's own slice of items beside a heap: what it holds, how it grows, how it is written. No statement of the seed is proved here. -/
import Derived.Test.YtcleljmbdiddeaaHeapVar
namespace Go.Proofs.Ytcleljmbdiddeaa
open Go.RowKit HP PHeaps

/-- A slice of the law's own. -/
structure Loc (w0 w : World) (g : Nat) (vh v : Value) (ys : List It) : Prop where
  row : w.ownsRow 0 34 4 v ys.length (flat ys)
  apart : ∀ k, v.ownBlock = some k → ¬ own g vh k ∧ w0.heap.size ≤ k

section
variable {w0 w w1 : World} {g : Nat} {vh v : Value} {ys : List It}
theorem Loc.nil : Loc w0 w g vh (.slice none 0 0) [] := ⟨⟨rfl, .inl ⟨rfl, rfl⟩⟩, fun k hk => by simp [Value.ownBlock] at hk⟩
theorem Loc.keep {S : Nat → Prop} (h : Loc w0 w g vh v ys) (hc : Chg S w w1) (hn : ∀ k, v.ownBlock = some k → ¬ S k) : Loc w0 w1 g vh v ys := ⟨row_keep h.row hc hn, h.apart⟩
theorem Loc.quiet (h : Loc w0 w g vh v ys) (hb : Below w.heap.size w w1) : Loc w0 w1 g vh v ys := h.keep (S := fun _ => False) (Chg.of_below hb) (fun _ _ h => h)
theorem Loc.step {vh1 : Value} (h : Loc w0 w g vh v ys) (hs : Step g vh w vh1 w1) : Loc w0 w1 g vh1 v ys :=
  ⟨row_keep h.row hs.chg (fun k hk => (h.apart k hk).1), fun k hk => ⟨hs.apart k (h.row.lt k hk).2 (h.apart k hk).1, (h.apart k hk).2⟩⟩
theorem Loc.any (h : Loc w0 w g vh v ys) : ∃ A c, v = .slice A ys.length c := by
  rcases h.row.2 with ⟨e, h0⟩ | ⟨b, cap, cur, e, _⟩
  · exact ⟨none, 0, by rw [e, h0]⟩
  · exact ⟨_, _, e⟩
theorem Loc.form (h : Loc w0 w g vh v ys) (hp : 0 < ys.length) : ∃ b cap, v = .slice (some ⟨b, 0, none⟩) ys.length cap := by
  obtain ⟨b, cap, e, _, _⟩ := h.row.form hp
  exact ⟨b, cap, e⟩
theorem Loc.len {A : Option Addr} {n c : Nat} (h : Loc w0 w g vh (.slice A n c) ys) (e : ys.length = n) : Loc w0 w g vh (.slice A ys.length c) ys := by
  rw [e]
  exact h
theorem Loc.rd {A : Option Addr} {c : Nat} (h : Loc w0 w g vh (.slice A ys.length c) ys) : Rd w A ys := fun hp => by
  obtain ⟨b, cap, e⟩ := h.form hp
  injection e with e1 _ e2
  subst e1 e2
  refine ⟨b, 0, rfl, (h.row.lt b rfl).2, fun i hi => ?_⟩
  have := row_get h.row hi
  simpa using this
theorem Loc.far {A : Option Addr} {c : Nat} (h : Loc w0 w g vh (.slice A ys.length c) ys) : ∀ b o, A = some ⟨b, o, none⟩ → ¬ own g vh b := fun b o e => by
  rcases h.row.2 with ⟨e2, _⟩ | ⟨b2, cap, cur, e2, _⟩
  · injection e2 with e2
    rw [e] at e2
    cases e2
  · injection e2 with e2
    rw [e] at e2
    injection e2 with e2
    injection e2 with e3 e4
    subst e3 e4 e
    exact (h.apart b rfl).1

theorem HS.keep {most : Int} {xs : List It} {S : Nat → Prop} (h : HS w0 w g vh most xs) (hc : Chg S w w1) (hS : ∀ k, S k → ¬ own g vh k ∧ w0.heap.size ≤ k) : HS w0 w1 g vh most xs :=
  ⟨h.at_.keep hc (fun k hk hs => (hS k hs).1 hk), Chg.base h.bel hc h.bel.size (fun k hs => (hS k hs).2), h.new, h.heap⟩
theorem HS.grown {most : Int} {xs : List It} (h : HS w0 w g vh most xs) (L : Loc w0 w g vh v ys) (hg : w.grownBy w1 v.ownBlock) : HS w0 w1 g vh most xs :=
  h.keep (S := fun k => v.ownBlock = some k) ((Chg.refl _ w).grown hg (fun _ hk => .inl hk)) L.apart
theorem Loc.grown {most : Int} {xs zs : List It} {v1 : Value} (L : Loc w0 w g vh v ys) (h : HS w0 w g vh most xs) (hr : w1.ownsRow 0 34 4 v1 (ys.length + zs.length) (flat ys ++ flat zs)) (ho : v1.ownBlock = v.ownBlock ∨ v1.ownBlock = some w.heap.size) : Loc w0 w1 g vh v1 (ys ++ zs) :=
  ⟨by rw [List.length_append, flat_append]; exact hr, fun k hk => by
    rcases ho with ho | ho
    · exact L.apart k (ho ▸ hk)
    · rw [ho] at hk
      injection hk with hk
      subst hk
      exact ⟨fun ho => by have := h.lt _ ho; omega, h.bel.size⟩⟩
end

/-- An item with another number. -/
def setq (y : It) (q : Int) : It := ⟨y.s, y.t, q, y.v⟩
theorem flat_setq {xs : List It} (q : Int) : ∀ {i : Nat}, i < xs.length → flat (xs.set i (setq (at_ xs i) q)) = (flat xs).set (i * 4 + 2) (.int .i64 q) := by
  induction xs with
  | nil => intro i h; simp at h
  | cons y r ih =>
    intro i h
    have e : ∀ z : It, ∀ l, flat (z :: l) = cells4 z ++ flat l := fun z l => by simp [flat]
    cases i with
    | zero => simp [e, cells4, setq, at_]
    | succ i =>
      have hl : (cells4 y).length = 4 := rfl
      rw [List.set_cons_succ, e, e, show at_ (y :: r) (i + 1) = at_ r i from rfl, ih (by simpa using h)]
      rw [List.set_append_right _ _ (by rw [hl]; omega)]
      congr 2
      rw [hl]; omega
theorem Loc.setq {w0 w : World} {g b n cap : Nat} {vh : Value} {ys : List It} (L : Loc w0 w g vh (.slice (some ⟨b, 0, none⟩) n cap) ys) (hn : n = ys.length) {i : Nat} (hi : i < ys.length) (q : Int) :
    Loc w0 (w.setCell ⟨b, i * 4 + 2, none⟩ (.int .i64 q)) g vh (.slice (some ⟨b, 0, none⟩) n cap) (ys.set i (setq (at_ ys i) q)) := by
  subst hn
  refine ⟨?_, L.apart⟩
  rw [flat_setq q hi, List.length_set]
  exact (L.row.stored _ _).1
theorem HS.cell {w0 w : World} {g b n cap : Nat} {vh : Value} {ys xs : List It} {most : Int} (h : HS w0 w g vh most xs) (L : Loc w0 w g vh (.slice (some ⟨b, 0, none⟩) n cap) ys) (j : Nat) (u : Value) : HS w0 (w.setCell ⟨b, j, none⟩ u) g vh most xs :=
  h.keep (S := fun k => k = b) ((Chg.refl (fun k => k = b) w).setCell (p := ⟨b, j, none⟩) (.inl rfl) u) (fun k hk => by subst hk; exact L.apart k rfl)

/-- The walk stands at an append. -/
def AtAppend (P : Program) (ops : Array Oper) (Q : Exit → Act → World → Prop) (o : Oper) (rest : List Oper) (a : Act) (w : World) : Prop := wpList P ops Q (o :: rest) a w
theorem at_append {P : Program} {ops : Array Oper} {Q : Exit → Act → World → Prop} {o : Oper} {rest : List Oper} {a : Act} {w : World} (s x : Operand) (t : TypeId)
    (_ : o.op = .call { callee := .builtin .append, args := #[s, x], argTypes := #[t, t] }) (h : AtAppend P ops Q o rest a w) : wpList P ops Q (o :: rest) a w := h

/-- Items out of a block are appended to a slice of the law's own. -/
theorem Loc.append {ops : Array Oper} {Q : Exit → Act → World → Prop} {o : Oper} {rest : List Oper} {a : Act} {w0 w : World} {g : Nat} {vh v : Value} {ys xs : List It} {most : Int} (s x : Operand)
    (hgd : o.guard = none) (ho : o.op = .call { callee := .builtin .append, args := #[s, x], argTypes := #[23, 23] })
    (H : HS w0 w g vh most xs) (L : Loc w0 w g vh v ys) (hs : a.eval s = v) (b : Nat) (zs : List It) (c : Nat) (sp : List Value) (fr : Nat × Nat) (hx : a.eval x = .slice (some ⟨b, 0, none⟩) zs.length c)
    (hb : w.heap[b]? = some (.cells (flat zs ++ sp).toArray 34 fr)) (hl : (ys.length + zs.length) * 32 ≤ 140737488355328)
    (h : ∀ v1 w1, HS w0 w1 g vh most xs → Loc w0 w1 g vh v1 (ys ++ zs) → w.grownBy w1 v.ownBlock → wpList Try.prog ops Q rest (a.put o.dst v1) w1) : AtAppend Try.prog ops Q o rest a w := by
  unfold AtAppend
  refine wpList_plain hgd fun K hK => ?_
  refine wp_append s x 23 34 (.agg #[(.int .i64 0), (.int .i64 0), (.int .i64 0), (.int .i64 0)]) 4 32 ho Try.underlying23 info_item rfl (by decide) v ys.length zs.length (flat ys) (flat zs) b c hs hx L.row (flat_length zs) ?_ ?_ hl (by omega) ?_
  · intro j u hu
    rw [blk_cell hb, List.getElem?_toArray, List.getElem?_append_left (List.getElem?_eq_some_iff.1 hu).1]
    exact hu
  · intro u hu
    obtain ⟨y, _, hy⟩ := List.mem_flatMap.1 hu
    simp only [cells4, List.mem_cons, List.not_mem_nil, or_false] at hy
    rcases hy with rfl | rfl | rfl | rfl <;> rfl
  · intro v1 w1 hown hgr hat
    exact hK _ _ (h v1 w1 (H.grown L hgr) (L.grown H hown hat) hgr)
end Go.Proofs.Ytcleljmbdiddeaa
