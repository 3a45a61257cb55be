/- A heap and a sorted row of the like items answer alike. No program here. No statement of the seed is proved here. -/
import Derived.Test.YtcleljmbdiddeaaHeapTwo
import Derived.Test.YtcleljmbdiddeaaHeapCut
namespace Go.Proofs.Ytcleljmbdiddeaa
open Go.RowKit HP PHeaps

/-- What the reference tells. -/
def rtell (ys : List It) : It × Int := if ys = [] then (z0, 1502) else (at_ ys 0, (0 : Int))

theorem inv_told {xs ys : List It} (h : Heap xs) (hs : Sorted ys) (hp : xs.Perm ys) : (popRes xs).1 = (rtell ys).1 ∧ (popRes xs).2.1 = (rtell ys).2 := by
  unfold popRes rtell
  cases ys with
  | nil =>
    have : xs = [] := hp.eq_nil
    subst this
    exact ⟨rfl, rfl⟩
  | cons y r =>
    have hx : xs ≠ [] := fun e => by subst e; exact absurd hp.symm.eq_nil (by simp)
    rw [if_neg hx, if_neg (by simp)]
    exact ⟨heads h hs hp, rfl⟩
theorem inv_pop {xs ys : List It} (h : Heap xs) (hs : Sorted ys) (hp : xs.Perm ys) : ((popRes xs).2.2).Perm (ys.drop 1) ∧ Sorted (ys.drop 1) := by
  unfold popRes
  cases ys with
  | nil =>
    have : xs = [] := hp.eq_nil
    subst this
    exact ⟨List.Perm.refl _, List.Pairwise.nil⟩
  | cons y r =>
    have hx : xs ≠ [] := fun e => by subst e; exact absurd hp.symm.eq_nil (by simp)
    rw [if_neg hx]
    exact ⟨pops h hs hp, (List.pairwise_cons.1 hs).2⟩
theorem rpushAll_spec {ys : List It} (zs : List It) (hs : Sorted ys) : Sorted (rpushAll ys zs) ∧ (rpushAll ys zs).Perm (ys ++ zs) := by
  induction zs generalizing ys with
  | nil => exact ⟨hs, by rw [List.append_nil]; exact List.Perm.refl _⟩
  | cons z r ih =>
    obtain ⟨h1, h2⟩ := ih (insert_sorted hs z)
    refine ⟨h1, ?_⟩
    have h3 : (rpushAll ys (z :: r)).Perm (HP.insert ys z ++ r) := h2
    exact h3.trans (((insert_perm ys z).append_right r).trans List.perm_middle.symm)
theorem inv_push {most : Int} {xs ys : List It} (zs : List It) (h : Heap xs) (hs : Sorted ys) (hp : xs.Perm ys) : (pushRes most xs zs).1 = (rpushRes most ys zs).1 ∧ ((pushRes most xs zs).2).Perm ((rpushRes most ys zs).2) ∧ Sorted (rpushRes most ys zs).2 := by
  unfold pushRes rpushRes
  have hl := hp.length_eq
  by_cases hb : bad zs = true
  · rw [if_pos hb, if_pos hb]
    exact ⟨rfl, hp, hs⟩
  · rw [if_neg hb, if_neg hb, hl]
    by_cases ho : most < (ys.length : Int) + zs.length
    · rw [if_pos ho, if_pos ho]
      exact ⟨rfl, hp, hs⟩
    · rw [if_neg ho, if_neg ho]
      exact ⟨rfl, ((pushAll_spec zs h).2.trans (hp.append_right zs)).trans (rpushAll_spec zs hs).2.symm, (rpushAll_spec zs hs).1⟩
/-- Where a slice cut from 'at' on lies. -/
def cutA (A : Option Addr) (p c : Nat) : Option Addr := if c = p then A else A.map (·.add (p * 4))
theorem cutA_none {A : Option Addr} {p c : Nat} (h : cutA A p c = none) : A = none := by
  unfold cutA at h
  split at h
  · exact h
  · cases A with
    | none => rfl
    | some a => cases h
theorem Rd.cut {w : World} {A : Option Addr} {xs : List It} {c : Nat} (h : Rd w A xs) (hc : xs.length ≤ c) (p k : Nat) : Rd w (cutA A p c) ((xs.drop p).take k) := fun hp => by
  rw [List.length_take, List.length_drop] at hp
  obtain ⟨b, o, rfl, hb, hcells⟩ := h (by omega)
  unfold cutA
  rw [if_neg (by omega)]
  refine ⟨b, o + p * 4, by simp [Addr.add], hb, fun i hi => ?_⟩
  rw [List.length_take, List.length_drop] at hi
  rw [take_at (by omega), drop_at]
  have := hcells (p + i) (by omega)
  rw [show o + (p + i) * 4 = o + p * 4 + i * 4 by omega] at this
  exact this
theorem cutA_old {w : World} {A : Option Addr} {xs : List It} {c p k b o : Nat} (h : Rd w A xs) (hp : 0 < ((xs.drop p).take k).length) (e : cutA A p c = some ⟨b, o, none⟩) : b < w.heap.size := by
  rw [List.length_take, List.length_drop] at hp
  obtain ⟨b1, o1, rfl, hb, _⟩ := h (by omega)
  unfold cutA at e
  split at e
  · injection e with e
    injection e with e1 e2
    omega
  · simp only [Option.map_some, Option.some.injEq] at e
    have e2 : (⟨b1, o1, none⟩ : Addr).add (p * 4) = ⟨b1, o1 + p * 4, none⟩ := by unfold Addr.add; split <;> simp_all
    rw [e2] at e
    rw [show b = b1 from (congrArg Addr.block e).symm]
    exact hb
end Go.Proofs.Ytcleljmbdiddeaa
