/- A row of aggregates of a law's own: one is appended; it is read. No statement of the seed is proved here. -/
import Derived.Test.YtggaefklcpbfnaaAccK
namespace Go.Proofs.Ytggaefklcpbfnaa.My
open Go.RowKit Pa Go.Proofs.YtggaefklcpbfnaaW.PrintWords

def accC (x : S28) (v : Value) : List Value := [.int .i64 x.f0, .int .i64 x.f1, .int .i64 x.f2, .int .i64 x.f3, .int .i64 x.f4.f0, .int .i64 x.f4.f1, .int .i64 x.f4.f2, .int .i64 x.f4.f3, .int .i64 x.f5.f0, .int .i64 x.f5.f1, .int .i64 x.f5.f2, .int .i64 x.f5.f3, v]
/-- Its cells, its elements' rows (each of one's own). -/
structure RowA (w : World) (v : Value) (xs : List S28) (cs : List Value) : Prop where
  own : w.ownsRow 0 28 13 v xs.length cs
  el : ∀ i, i < xs.length → ∃ u, Own w 0 u (xs.getD i z28).f6 ∧ ∀ j, j < 13 → cs[i * 13 + j]? = (accC (xs.getD i z28) u)[j]?
theorem RowA.nil (w : World) : RowA w (.slice none 0 0) [] [] := ⟨World.ownsRow_nil _ _ _ _, fun i hi => absurd hi (by simp)⟩
theorem RowA.below {w w1 : World} {v : Value} {xs : List S28} {cs : List Value} (h : RowA w v xs cs) (hb : Below w.heap.size w w1) : RowA w1 v xs cs :=
  ⟨row_keep (S := fun _ => False) h.own (Chg.of_below hb) (fun _ _ h => h), fun i hi => by
    obtain ⟨u, h1, h2⟩ := h.el i hi
    exact ⟨u, h1.below hb, h2⟩⟩
theorem RowA.reads {w : World} {v : Value} {xs : List S28} {cs : List Value} (h : RowA w v xs cs) : ∃ A c, v = .slice A xs.length c ∧ RdA w A xs := by
  rcases h.own.2 with ⟨e, h0⟩ | ⟨b, cap, cur, e, hb, hcur, _⟩
  · refine ⟨none, 0, by rw [e, h0], fun hp => absurd hp (by omega)⟩
  · refine ⟨_, cap, e, fun _ => ⟨b, 0, rfl, blk_lt hcur, fun i hi => ?_⟩⟩
    obtain ⟨u, h1, h2⟩ := h.el i hi
    obtain ⟨A, c, hu, hl, hr⟩ := h1.reads
    subst hu
    have hc : ∀ j, j < 13 → ∀ x, (accC (xs.getD i z28) (.slice A (xs.getD i z28).f6.length c))[j]? = some x → w.cell? ⟨b, 0 + i * 13 + j, none⟩ = some x := fun j hj x hx => by
      have h3 := h.own.cells (g := b) (by rw [e]; rfl) (i * 13 + j) x ((h2 j hj).trans hx)
      rwa [add_plain, show i * 13 + j = 0 + i * 13 + j by omega] at h3
    exact ⟨A, c, hc 0 (by omega) _ rfl, hc 1 (by omega) _ rfl, hc 2 (by omega) _ rfl, hc 3 (by omega) _ rfl, hc 4 (by omega) _ rfl, hc 5 (by omega) _ rfl, hc 6 (by omega) _ rfl, hc 7 (by omega) _ rfl, hc 8 (by omega) _ rfl, hc 9 (by omega) _ rfl, hc 10 (by omega) _ rfl, hc 11 (by omega) _ rfl, hc 12 (by omega) _ rfl, hl, hr⟩
theorem info_acc : (Try.prog.info? 28).map (fun i => (i.zero, i.size, i.bytes)) = some (some (.agg #[.int .i64 0, .int .i64 0, .int .i64 0, .int .i64 0, .int .i64 0, .int .i64 0, .int .i64 0, .int .i64 0, .int .i64 0, .int .i64 0, .int .i64 0, .int .i64 0, .slice none 0 0]), 13, 120) := by kernel_rfl
/-- The walk stops ahead of an append. -/
def AtAppend (P : Program) (ops : Array Oper) (Q : Exit → Act → World → Prop) (o : Oper) (rest : List Oper) (a : Act) (w : World) : Prop := wpList P ops Q (o :: rest) a w
theorem at_append {P : Program} {ops : Array Oper} {Q : Exit → Act → World → Prop} {o : Oper} {rest : List Oper} {a : Act} {w : World} (s x : Operand) (t : TypeId)
    (_ : o.op = .call { callee := .builtin .append, args := #[s, x], argTypes := #[t, t] }) (h : AtAppend P ops Q o rest a w) : wpList P ops Q (o :: rest) a w := h
theorem accC_len (x : S28) (u : Value) : (accC x u).length = 13 := rfl
theorem Own.grown {w w1 : World} {u v : Value} {h : List Int} {n : Nat} {cs : List Value} (ho : Own w 0 u h) (hr : w.ownsRow 0 28 13 v n cs) (hg : w.grownBy w1 v.ownBlock) : Own w1 0 u h := by
  rcases own_type_ne ho hr (by decide) with hn | hn
  · exact ho.keep (S := fun k => some k = v.ownBlock) ((Chg.refl _ w).grown hg (fun k hk => .inl hk.symm)) (fun k hk => by rw [hn] at hk; cases hk)
  · exact ho.keep (S := fun k => some k = v.ownBlock) ((Chg.refl _ w).grown hg (fun k hk => .inl hk.symm)) (fun k hk e => hn (hk.trans e))
theorem RowA.snoc {w w1 : World} {v v1 : Value} {xs : List S28} {cs : List Value} (L : RowA w v xs cs) (y : S28) (u : Value) (hu : Own w 0 u y.f6) (hr : w1.ownsRow 0 28 13 v1 (xs.length + 1) (cs ++ accC y u)) (hg : w.grownBy w1 v.ownBlock) : RowA w1 v1 (xs ++ [y]) (cs ++ accC y u) := by
  have hcl : cs.length = xs.length * 13 := L.own.1
  refine ⟨by rw [List.length_append]; exact hr, fun i hi => ?_⟩
  rw [List.length_append, List.length_singleton] at hi
  by_cases hlt : i < xs.length
  · obtain ⟨u1, h1, h2⟩ := L.el i hlt
    have e : (xs ++ [y]).getD i z28 = xs.getD i z28 := by
      rw [List.getD_eq_getElem?_getD, List.getD_eq_getElem?_getD, List.getElem?_append_left hlt]
    rw [e]
    exact ⟨u1, h1.grown L.own hg, fun j hj => by rw [List.getElem?_append_left (by omega)]; exact h2 j hj⟩
  · obtain rfl : i = xs.length := by omega
    have e : (xs ++ [y]).getD xs.length z28 = y := by
      rw [List.getD_eq_getElem?_getD, List.getElem?_append_right (Nat.le_refl _), Nat.sub_self]
      rfl
    rw [e]
    exact ⟨u, hu.grown L.own hg, fun j hj => by rw [List.getElem?_append_right (by omega), show xs.length * 13 + j - cs.length = j by omega]⟩
theorem RowA.append {ops : Array Oper} {Q : Exit → Act → World → Prop} {o : Oper} {rest : List Oper} {a : Act} {w : World} {v : Value} {xs : List S28} {cs : List Value} (s x : Operand)
    (hgd : o.guard = none) (ho : o.op = .call { callee := .builtin .append, args := #[s, x], argTypes := #[51, 51] })
    (L : RowA w v xs cs) (hs : a.eval s = v) (b : Nat) (y : S28) (u : Value) (c : Nat) (hx : a.eval x = .slice (some ⟨b, 0, none⟩) 1 c)
    (hb : w.heap[b]? = some (acO y u)) (hu : Own w 0 u y.f6) (hu1 : u.oneCell' = true) (hl : (xs.length + 1) * 120 ≤ 140737488355328)
    (h : ∀ v1 w1, RowA w1 v1 (xs ++ [y]) (cs ++ accC y u) → w.grownBy w1 v.ownBlock → (v1.ownBlock = v.ownBlock ∨ v1.ownBlock = some w.heap.size) → wpList Try.prog ops Q rest (a.put o.dst v1) w1) : AtAppend Try.prog ops Q o rest a w := by
  unfold AtAppend
  refine wpList_plain hgd fun K hK => ?_
  obtain ⟨i0, hi, hzz⟩ := Option.map_eq_some_iff.1 info_acc
  simp only [Prod.mk.injEq] at hzz
  obtain ⟨hz0, hz1, hz2⟩ := hzz
  have ha : ∀ j, (⟨b, 0, none⟩ : Addr).add j = ⟨b, j, none⟩ := fun j => add_plain b j
  obtain ⟨v1, w1, hr, h2, h3, _, h5⟩ := run_append_own_at (P := Try.prog) w 0 51 o.type 28 i0 _ 13 120 Try.underlying51 hi hz0 hz1 hz2 rfl (by decide) v xs.length cs L.own ⟨b, 0, none⟩ 1 c (accC y u) (accC_len y u) (fun j x hx => by
    rw [ha, blk_cell hb]
    exact (List.getElem?_toArray ..).trans hx) (fun x hx => by
    simp only [accC, List.mem_cons, List.not_mem_nil, or_false] at hx
    rcases hx with rfl | rfl | rfl | rfl | rfl | rfl | rfl | rfl | rfl | rfl | rfl | rfl | rfl <;> first | rfl | exact hu1) (by simp only [maxLen]; omega) hl (Nat.zero_le _)
  unfold Oper.wp execOp
  simp only [ho, resolve, invoke, builtin, Sem.run_bind, Sem.run_pure, Result.andThen_ok, List.map_toArray, List.map_cons, List.map_nil, hs, hx, hr]
  exact hK _ _ (h v1 w1 (L.snoc y u hu h2 h3) h3 h5)
end Go.Proofs.Ytggaefklcpbfnaa.My
