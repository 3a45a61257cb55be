/- Parts of a slice of items are read and appended to a slice of the law's own; items are compared. No statement of the seed is proved here. -/
import Derived.Test.YtcleljmbdiddeaaHeapLoc
import Derived.Test.YtcleljmbdiddeaaPHeapsx1
namespace Go.Proofs.Ytcleljmbdiddeaa
open Go.RowKit HP PHeaps

theorem Rd.take {w : World} {b o : Nat} {ys : List It} (h : Rd w (some ⟨b, o, none⟩) ys) (n : Nat) : Rd w (some ⟨b, o, none⟩) (ys.take n) := fun hp => by
  rw [List.length_take] at hp
  obtain ⟨b1, o1, e, hb, hc⟩ := h (by omega)
  refine ⟨b1, o1, e, hb, fun i hi => ?_⟩
  rw [List.length_take] at hi
  rw [take_at (by omega)]
  exact hc i (by omega)
theorem drop_at {xs : List It} (k i : Nat) : at_ (xs.drop k) i = at_ xs (k + i) := by
  simp [at_, List.getD_eq_getElem?_getD, List.getElem?_drop]
theorem Rd.drop {w : World} {b o : Nat} {ys : List It} (h : Rd w (some ⟨b, o, none⟩) ys) (k : Nat) : Rd w (some ⟨b, o + k * 4, none⟩) (ys.drop k) := fun hp => by
  rw [List.length_drop] at hp
  obtain ⟨b1, o1, e, hb, hc⟩ := h (by omega)
  injection e with e
  injection e with e1 e2
  subst e1 e2
  refine ⟨b, o + k * 4, rfl, hb, fun i hi => ?_⟩
  rw [List.length_drop] at hi
  rw [drop_at, show o + k * 4 + i * 4 = o + (k + i) * 4 by omega]
  exact hc (k + i) (by omega)
theorem Rd.flat {w : World} {ad : Addr} {ys : List It} (h : Rd w (some ad) ys) : ∀ j u, (flat ys)[j]? = some u → w.cell? (ad.add j) = some u := fun j u hu => by
  have hj := (List.getElem?_eq_some_iff.1 hu).1
  rw [flat_length] at hj
  obtain ⟨b, o, e, _, hc⟩ := h (by omega)
  injection e with e
  subst e
  rw [add_at rfl]
  obtain ⟨c0, c1, c2, c3⟩ := hc (j / 4) (by omega)
  have hf := flat_get (xs := ys) (i := j / 4) (by omega) (j % 4) (by omega)
  rw [show j / 4 * 4 + j % 4 = j by omega, hu] at hf
  have hm : j % 4 = 0 ∨ j % 4 = 1 ∨ j % 4 = 2 ∨ j % 4 = 3 := by omega
  have hd : j = j / 4 * 4 + j % 4 := by omega
  rcases hm with hm | hm | hm | hm
  · rw [hm] at hf hd
    rw [hf, show o + j = o + j / 4 * 4 by omega]
    exact c0
  · rw [hm] at hf hd
    rw [hf, show o + j = o + j / 4 * 4 + 1 by omega]
    exact c1
  · rw [hm] at hf hd
    rw [hf, show o + j = o + j / 4 * 4 + 2 by omega]
    exact c2
  · rw [hm] at hf hd
    rw [hf, show o + j = o + j / 4 * 4 + 3 by omega]
    exact c3

/-- Items that are read are appended to a slice of the law's own. -/
theorem Loc.cat {ops : Array Oper} {Q : Exit → Act → World → Prop} {o : Oper} {rest : List Oper} {a : Act} {w0 w : World} {g : Nat} {vh v : Value} {ys xs : List It} {most : Int} (s x : Operand)
    (hgd : o.guard = none) (ho : o.op = .call { callee := .builtin .append, args := #[s, x], argTypes := #[23, 23] })
    (H : HS w0 w g vh most xs) (L : Loc w0 w g vh v ys) (hs : a.eval s = v) (A : Option Addr) (zs : List It) (m c : Nat) (hm : zs.length = m) (hx : a.eval x = .slice A m c)
    (hA : Rd w A zs) (hc : A = none → c = 0) (hl : (ys.length + m) * 32 ≤ 140737488355328)
    (h : ∀ v1 w1, HS w0 w1 g vh most xs → Loc w0 w1 g vh v1 (ys ++ zs) → w.grownBy w1 v.ownBlock → wpList Try.prog ops Q rest (a.put o.dst v1) w1) : AtAppend Try.prog ops Q o rest a w := by
  subst hm
  unfold AtAppend
  refine wpList_plain hgd fun K hK => ?_
  obtain ⟨i0, hi, hz0, hz1, hz2⟩ := info_parts info_item
  cases A with
  | none =>
    have hz : zs = [] := by
      cases zs with
      | nil => rfl
      | cons z r => obtain ⟨b, o, e, -⟩ := hA (by simp); cases e
    subst hz
    have hr := run_append_owned_none (P := Try.prog) w 0 23 o.type 34 i0 4 Try.underlying23 hi v ys.length (flat ys) L.row
    rw [hc rfl] at hx
    unfold Oper.wp execOp
    simp only [ho, resolve, invoke, builtin, Sem.run_bind, Sem.run_pure, Result.andThen_ok, List.map_toArray, List.map_cons, List.map_nil, hs, hx, List.length_nil, hr]
    exact hK _ _ (h v w H (by rw [List.append_nil]; exact L) (World.grownBy.refl _ _))
  | some ad =>
    obtain ⟨v1, w1, hr, h2, h3, _, h5⟩ := run_append_own_at (P := Try.prog) w 0 23 o.type 34 i0 (.agg #[(.int .i64 0), (.int .i64 0), (.int .i64 0), (.int .i64 0)]) 4 32 Try.underlying23 hi hz0 hz1 hz2 rfl (by decide) v ys.length (flat ys) L.row ad zs.length c (flat zs) (flat_length zs) hA.flat (fun u hu => by
      obtain ⟨y, _, hy⟩ := List.mem_flatMap.1 hu
      simp only [cells4, List.mem_cons, List.not_mem_nil, or_false] at hy
      rcases hy with rfl | rfl | rfl | rfl <;> rfl) (by simp only [maxLen]; omega) hl (Nat.zero_le _)
    unfold Oper.wp execOp
    simp only [ho, resolve, invoke, builtin, Sem.run_bind, Sem.run_pure, Result.andThen_ok, List.map_toArray, List.map_cons, List.map_nil, hs, hx, hr]
    exact hK _ _ (h v1 w1 (H.grown L h3) (L.grown H h2 h5) h3)

/-- An empty slice that lies somewhere. -/
theorem Loc.fresh {w0 w : World} {g : Nat} {vh : Value} {xs : List It} {most : Int} (H : HS w0 w g vh most xs) : Loc w0 (w.alloc (.cells #[] 34)) g vh (.slice (some ⟨w.heap.size, 0, none⟩) 0 0) [] :=
  ⟨⟨rfl, .inr ⟨w.heap.size, 0, #[], rfl, Nat.zero_le _, heap_alloc_new w _, Nat.le_refl _, Nat.zero_le _, rfl, rfl⟩⟩, fun k hk => by
    have e : w.heap.size = k := by simpa [Value.ownBlock] using hk
    subst e
    exact ⟨fun ho => by have := H.lt _ ho; omega, H.bel.size⟩⟩

/-- The item comparison is what it says. -/
theorem it_ne {x y : It} (h : x ≠ y) : (x.s == y.s && (x.t == y.t && (x.q == y.q && (x.v == y.v)))) = false := by
  rw [Bool.eq_false_iff]
  intro e
  simp only [Bool.and_eq_true, beq_iff_eq] at e
  obtain ⟨e1, e2, e3, e4⟩ := e
  apply h
  cases x
  cases y
  simp_all

/-- One of a list is taken out. -/
theorem cut_perm {ys : List It} {i : Nat} (h : i < ys.length) : (at_ ys i :: (ys.take i ++ ys.drop (i + 1))).Perm ys := by
  have e : ys = ys.take i ++ at_ ys i :: ys.drop (i + 1) := by
    rw [at_eq h, List.getElem_cons_drop, List.take_append_drop]
  exact (List.perm_middle.symm).trans (by rw [← e])
end Go.Proofs.Ytcleljmbdiddeaa
