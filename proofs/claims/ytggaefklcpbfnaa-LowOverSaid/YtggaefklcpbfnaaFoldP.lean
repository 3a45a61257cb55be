/- Items' fold, as the document tells it, in plain Lean: what it is of items in their row. No statement of the seed is proved here. -/
import Derived.Test.YtggaefklcpbfnaaAccN
import Derived.Test.YtggaefklcpbfnaaPaFold
namespace Go.Proofs.Ytggaefklcpbfnaa.My
open Go.RowKit Pa Go.Proofs.YtggaefklcpbfnaaW.PrintWords

def z0 (bs : List Int) : S28 := ⟨0, 0, 0, 0, z26, z26, List.replicate (bs.length + 1) 0⟩
def fstep (bs : List Int) (a : S28) (x : S26) : S28 := if a.f0 = 0 then one x bs else twoA a (one x bs)
def foldA (bs : List Int) (xs : List S26) : S28 := xs.foldl (fstep bs) (z0 bs)
theorem foldA_snoc (bs : List Int) (xs : List S26) (x : S26) : foldA bs (xs ++ [x]) = fstep bs (foldA bs xs) x := by
  unfold foldA
  rw [List.foldl_append]
  rfl
/-- So many in a bucket. -/
def cntB (bs : List Int) (xs : List S26) (j : Nat) : Int := (xs.map (fun x => if bucket bs x.f3 = j then (1 : Int) else 0)).sum
/-- What a fold is of items in their row. -/
structure Sp (bs : List Int) (xs : List S26) (a : S28) : Prop where
  may : May1 bs a
  c : a.f0 = xs.length
  s : a.f1 = (xs.map (·.f3)).sum
  f : xs.head? = some a.f4
  l : xs.getLast? = some a.f5
  n1 : ∀ x ∈ xs, a.f2 ≤ x.f3
  n2 : ∃ x ∈ xs, x.f3 = a.f2
  m1 : ∀ x ∈ xs, x.f3 ≤ a.f3
  m2 : ∃ x ∈ xs, x.f3 = a.f3
  h : ∀ j, j ≤ bs.length → a.f6.getD j 0 = cntB bs xs j
theorem one_get {x : S26} {bs : List Int} {j : Nat} (hj : j ≤ bs.length) : (one x bs).f6.getD j 0 = if bucket bs x.f3 = j then 1 else 0 := by
  have hb := bucket_le bs x.f3
  show ((List.replicate (bs.length + 1) (0 : Int)).set (bucket bs x.f3) 1).getD j 0 = _
  rw [List.getD_eq_getElem?_getD, List.getElem?_set]
  by_cases h : bucket bs x.f3 = j
  · rw [if_pos h, if_pos h, if_pos (by simp; omega)]
    rfl
  · rw [if_neg h, if_neg h, List.getElem?_replicate, if_pos (by omega)]
    rfl
theorem sp_one {x : S26} {bs : List Int} (hx : imay x = true) (hb : bmay bs = true) : Sp bs [x] (one x bs) := by
  refine ⟨may1_one hx hb, rfl, ?_, rfl, rfl, ?_, ⟨x, by simp, rfl⟩, ?_, ⟨x, by simp, rfl⟩, fun j hj => ?_⟩
  · show x.f3 = ([x].map (·.f3)).sum
    simp
  · intro y hy
    rw [List.mem_singleton] at hy
    subst hy
    exact Int.le_refl _
  · intro y hy
    rw [List.mem_singleton] at hy
    subst hy
    exact Int.le_refl _
  · rw [one_get hj]
    simp [cntB]
theorem hadd_getD {h n : List Int} (hl : n.length = h.length) {i : Nat} (hi : i < h.length) : (hadd h n).getD i 0 = h.getD i 0 + n.getD i 0 := by
  unfold hadd
  simp [List.getD_eq_getElem?_getD, List.getElem?_zipWith, List.getElem?_eq_getElem hi, List.getElem?_eq_getElem (show i < n.length by omega)]
theorem ord_not {a b : S26} (h : ord a b ≤ 0) : ¬ ord b a < 0 := by
  intro h2
  unfold ord at *
  (repeat' split at h) <;> (repeat' split at h2) <;> omega
theorem sp_snoc {xs : List S26} {x : S26} {bs : List Int} {a : S28} (hs : Sp bs xs a) (hx : imay x = true) (hser : a.f4.f0 = x.f0) (ho : ∀ y ∈ xs, ord y x ≤ 0) (hn : xs.length < 8192) : Sp bs (xs ++ [x]) (twoA a (one x bs)) := by
  obtain ⟨e0, e1, e2, e3, e4, e5, e6⟩ := tw_parts a (one x bs)
  have hm1 := may1_one (bs := bs) hx hs.may.bm
  have ho1 : (one x bs).f0 = 1 := rfl
  have ho2 : (one x bs).f2 = x.f3 := rfl
  have ho3 : (one x bs).f3 = x.f3 := rfl
  have ho4 : (one x bs).f4 = x := rfl
  have ho5 : (one x bs).f5 = x := rfl
  have ho6 : (one x bs).f1 = x.f3 := rfl
  have hc := hs.c
  have h4m : a.f4 ∈ xs := List.mem_of_mem_head? (by rw [hs.f]; rfl)
  have h5m : a.f5 ∈ xs := List.mem_of_getLast? hs.l
  rw [ho4, if_neg (ord_not (ho _ h4m))] at e4
  rw [ho5, if_neg (ord_not (ho _ h5m))] at e5
  rw [ho2] at e2
  rw [ho3] at e3
  refine ⟨may1_two hs.may hm1 hser (by omega), by rw [e0, hc, ho1, List.length_append, List.length_singleton]; omega, by rw [e1, hs.s, ho6, List.map_append, List.sum_append]; simp, ?_, by rw [List.getLast?_append, e5]; rfl, ?_, ?_, ?_, ?_, fun j hj => ?_⟩
  · rw [e4]
    have := hs.f
    cases xs with
    | nil => cases this
    | cons y r => exact this
  · intro y hy
    rw [e2]
    rcases List.mem_append.1 hy with h | h
    · have := hs.n1 y h
      split <;> omega
    · rw [List.mem_singleton] at h
      subst h
      split <;> omega
  · rw [e2]
    split
    · exact ⟨x, by simp, rfl⟩
    · obtain ⟨y, hy, he⟩ := hs.n2
      exact ⟨y, by simp [hy], he⟩
  · intro y hy
    rw [e3]
    rcases List.mem_append.1 hy with h | h
    · have := hs.m1 y h
      split <;> omega
    · rw [List.mem_singleton] at h
      subst h
      split <;> omega
  · rw [e3]
    split
    · exact ⟨x, by simp, rfl⟩
    · obtain ⟨y, hy, he⟩ := hs.m2
      exact ⟨y, by simp [hy], he⟩
  · have hl := hs.may.len
    have hl1 := hm1.len
    rw [e6, hadd_getD (by omega) (by omega), hs.h j hj, one_get hj]
    unfold cntB
    rw [List.map_append, List.sum_append]
    simp
/-- Items of one series, in their row. -/
structure Row (s : Int) (xs : List S26) : Prop where
  im : ∀ x ∈ xs, imay x = true
  ser : ∀ x ∈ xs, x.f0 = s
  asc : xs.Pairwise (fun y x => ord y x ≤ 0)
  n : xs.length ≤ 8192
theorem Row.take {s : Int} {xs : List S26} (h : Row s xs) (k : Nat) : Row s (xs.take k) :=
  ⟨fun x hx => h.im x (List.mem_of_mem_take hx), fun x hx => h.ser x (List.mem_of_mem_take hx), h.asc.sublist (List.take_sublist k xs), by have := h.n; rw [List.length_take]; omega⟩
theorem sp_fold {bs : List Int} (hb : bmay bs = true) {s : Int} : ∀ {n : Nat} {xs : List S26}, xs.length = n → Row s xs → xs ≠ [] → Sp bs xs (foldA bs xs)
  | 0, xs, hn, _, h0 => absurd (List.eq_nil_of_length_eq_zero hn) h0
  | n + 1, xs, hn, hr, h0 => by
    obtain ⟨ys, x, rfl⟩ : ∃ ys x, xs = ys ++ [x] := ⟨xs.dropLast, xs.getLast h0, (List.dropLast_concat_getLast h0).symm⟩
    have hy : ys.length = n := by simpa using hn
    have hx : imay x = true := hr.im x (by simp)
    have h2 : Row s ys := by
      have := hr.take n
      rwa [← hy, List.take_left'] at this
      rfl
    rw [foldA_snoc]
    unfold fstep
    by_cases h1 : ys = []
    · subst h1
      rw [show foldA bs [] = z0 bs from rfl, if_pos (show (z0 bs).f0 = 0 from rfl)]
      exact sp_one hx hb
    · have ih := sp_fold hb hy h2 h1
      have hp : 0 < ys.length := List.length_pos_iff.2 h1
      rw [if_neg (by rw [ih.c]; omega)]
      refine sp_snoc ih hx ?_ (fun y hyy => ?_) (by have := hr.n; simp at this; omega)
      · have h4 : (foldA bs ys).f4 ∈ ys := List.mem_of_mem_head? (by rw [ih.f]; rfl)
        rw [h2.ser _ h4, hr.ser x (by simp)]
      · have := hr.asc
        rw [List.pairwise_append] at this
        exact this.2.2 y hyy x (by simp)
theorem fold_nil (bs : List Int) : foldA bs [] = z0 bs := rfl
def flat28 (a : S28) : Int × Int × Int × Int × Int × Int × Int × Int × Int × Int × Int × Int × List Int := (a.f0, a.f1, a.f2, a.f3, a.f4.f0, a.f4.f1, a.f4.f2, a.f4.f3, a.f5.f0, a.f5.f1, a.f5.f2, a.f5.f3, a.f6)
theorem fold_loop {bs : List Int} (hb : bmay bs = true) {s : Int} {xs : List S26} (hr : Row s xs) : ∀ (d i k : Nat), i + d = xs.length → d < k → bourneref1_Fold.l0 k xs bs i (foldA bs (xs.take i)).f0 (foldA bs (xs.take i)).f1 (foldA bs (xs.take i)).f2 (foldA bs (xs.take i)).f3 (foldA bs (xs.take i)).f4.f0 (foldA bs (xs.take i)).f4.f1 (foldA bs (xs.take i)).f4.f2 (foldA bs (xs.take i)).f4.f3 (foldA bs (xs.take i)).f5.f0 (foldA bs (xs.take i)).f5.f1 (foldA bs (xs.take i)).f5.f2 (foldA bs (xs.take i)).f5.f3 (foldA bs (xs.take i)).f6 = some (flat28 (foldA bs xs))
  | 0, i, 0, _, hk => absurd hk (by omega)
  | 0, i, k + 1, h, _ => by
    rw [bourneref1_Fold.l0, if_neg (by omega), List.take_of_length_le (by omega)]
    rfl
  | d + 1, i, 0, _, hk => absurd hk (by omega)
  | d + 1, i, k + 1, h, hk => by
    have ih := fold_loop hb hr d (i + 1) k (by omega) (by omega)
    have hi : i < xs.length := by omega
    have hn := hr.n
    rw [bourneref1_Fold.l0, if_pos (by omega), if_pos (by omega)]
    have hrd : rd_T26 xs (i : Int) = xs[i] := by
      unfold rd_T26
      rw [List.getD_eq_getElem?_getD, Int.toNat_natCast, List.getElem?_eq_getElem hi]
      rfl
    have him : imay xs[i] = true := hr.im _ (List.getElem_mem hi)
    have hone : bourneref1_One.f xs[i].f0 xs[i].f1 xs[i].f2 xs[i].f3 bs = some ((one xs[i] bs).f0, (one xs[i] bs).f1, (one xs[i] bs).f2, (one xs[i] bs).f3, (one xs[i] bs).f4.f0, (one xs[i] bs).f4.f1, (one xs[i] bs).f4.f2, (one xs[i] bs).f4.f3, (one xs[i] bs).f5.f0, (one xs[i] bs).f5.f1, (one xs[i] bs).f5.f2, (one xs[i] bs).f5.f3, (one xs[i] bs).f6, 0) := by
      unfold bourneref1_One.f
      rw [show oneRes ⟨xs[i].f0, xs[i].f1, xs[i].f2, xs[i].f3⟩ bs = (one xs[i] bs, 0) by unfold oneRes; rw [show imay ⟨xs[i].f0, xs[i].f1, xs[i].f2, xs[i].f3⟩ = true from him, hb]; rfl]
    rw [hrd, hone]
    simp only [Option.bind_some]
    rw [wrap_up (i := i) (by omega)]
    have hsn : foldA bs (xs.take (i + 1)) = fstep bs (foldA bs (xs.take i)) xs[i] := by
      rw [List.take_succ_eq_append_getElem hi, foldA_snoc]
    rw [hsn] at ih
    unfold fstep at ih
    by_cases h0 : i = 0
    · subst h0
      rw [List.take_zero, fold_nil]
      rw [List.take_zero, fold_nil] at ih
      rw [if_pos (show (z0 bs).f0 = 0 from rfl)] at ih ⊢
      exact ih
    · have hne : xs.take i ≠ [] := by
        intro e
        have := congrArg List.length e
        rw [List.length_take, List.length_nil] at this
        omega
      have hsp := sp_fold hb rfl (hr.take i) hne
      have hc := hsp.c
      rw [List.length_take] at hc
      have h1 : ¬ (foldA bs (xs.take i)).f0 = 0 := by omega
      rw [if_neg h1] at ih ⊢
      have hok := hsp.may.ok (may1_one him hb)
      have htwo : bourneref1_two.f (foldA bs (xs.take i)).f0 (foldA bs (xs.take i)).f1 (foldA bs (xs.take i)).f2 (foldA bs (xs.take i)).f3 (foldA bs (xs.take i)).f4.f0 (foldA bs (xs.take i)).f4.f1 (foldA bs (xs.take i)).f4.f2 (foldA bs (xs.take i)).f4.f3 (foldA bs (xs.take i)).f5.f0 (foldA bs (xs.take i)).f5.f1 (foldA bs (xs.take i)).f5.f2 (foldA bs (xs.take i)).f5.f3 (foldA bs (xs.take i)).f6 (one xs[i] bs).f0 (one xs[i] bs).f1 (one xs[i] bs).f2 (one xs[i] bs).f3 (one xs[i] bs).f4.f0 (one xs[i] bs).f4.f1 (one xs[i] bs).f4.f2 (one xs[i] bs).f4.f3 (one xs[i] bs).f5.f0 (one xs[i] bs).f5.f1 (one xs[i] bs).f5.f2 (one xs[i] bs).f5.f3 (one xs[i] bs).f6 = some (flat28 (twoA (foldA bs (xs.take i)) (one xs[i] bs))) := by
        unfold bourneref1_two.f
        exact if_pos hok
      rw [htwo]
      exact ih
/-- The fold of the law, told. -/
theorem fold_told {bs : List Int} (hb : bmay bs = true) {s : Int} {xs : List S26} (hr : Row s xs) {k : Nat} (hk : xs.length < k) : bournelaw2_fold.f k xs bs = some (flat28 (foldA bs xs)) := by
  have hl := bmay_len hb
  have h := fold_loop hb hr xs.length 0 k (by omega) hk
  rw [List.take_zero, fold_nil] at h
  have e : wrap64 ((bs.length : Int) + 1) = ((bs.length + 1 : Nat) : Int) := by unfold wrap64; omega
  have hf : bourneref1_Fold.f k xs bs = some (flat28 (foldA bs xs)) := by
    unfold bourneref1_Fold.f
    rw [e, if_pos (by omega), if_pos (by omega), Int.toNat_natCast]
    exact h
  unfold bournelaw2_fold.f
  rw [hf]
  rfl
theorem Sp.bound {bs : List Int} {xs : List S26} {a : S28} (h : Sp bs xs a) : Fit bs a := amay_fit h.may.amay
end Go.Proofs.Ytggaefklcpbfnaa.My
