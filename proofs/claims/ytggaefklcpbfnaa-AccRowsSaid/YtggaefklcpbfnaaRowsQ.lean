/- Of items of unlike stamps neither their row counts nor how they are put together: the two ways meet. No statement of the seed is proved here. -/
import Derived.Test.YtggaefklcpbfnaaRowsP
import Derived.Test.YtggaefklcpbfnaaBuckP
namespace Go.Proofs.Ytggaefklcpbfnaa.My
open Go.RowKit Pa Go.Proofs.YtggaefklcpbfnaaW.PrintWords
set_option linter.unusedSimpArgs false

theorem sum_perm {xs ys : List Int} (h : xs.Perm ys) : xs.sum = ys.sum := by
  induction h with
  | nil => rfl
  | cons x _ ih => simp only [List.sum_cons, ih]
  | swap x y l =>
    simp only [List.sum_cons]
    omega
  | trans _ _ h1 h2 => exact h1.trans h2
theorem cntJ_perm {bs : List Int} {xs ys : List S26} (h : xs.Perm ys) (j : Nat) : cntJ bs xs j = cntJ bs ys j := by
  unfold cntJ
  exact sum_perm (h.map _)
theorem rs_perm {bs : List Int} {s : Int} {xs ys : List S26} {a : S28} (h : Rs bs s xs a) (hp : xs.Perm ys) : Rs bs s ys a := by
  refine ⟨h.may, h.ser, by rw [h.c, hp.length_eq], by rw [h.s1]; exact sum_perm (hp.map _), fun x hx => h.n1 x (hp.mem_iff.2 hx), ?_, fun x hx => h.m1 x (hp.mem_iff.2 hx), ?_, hp.mem_iff.1 h.f, fun x hx => h.fl x (hp.mem_iff.2 hx), hp.mem_iff.1 h.l, fun x hx => h.ll x (hp.mem_iff.2 hx), fun j hj => by rw [h.h j hj, cntJ_perm hp]⟩
  · obtain ⟨x, hx, e⟩ := h.n2
    exact ⟨x, hp.mem_iff.1 hx, e⟩
  · obtain ⟨x, hx, e⟩ := h.m2
    exact ⟨x, hp.mem_iff.1 hx, e⟩
/-- No two of like stamps but the same. -/
def Dis (xs : List S26) : Prop := ∀ a ∈ xs, ∀ b ∈ xs, ord a b = 0 → a = b
theorem ord_both {a b : S26} (h1 : ord a b ≤ 0) (h2 : ord b a ≤ 0) : ord a b = 0 := by
  unfold ord at *
  (repeat' split at h1) <;> (repeat' split at h2) <;> (try omega) <;> (repeat' split) <;> omega
theorem rs_same {bs : List Int} {s : Int} {xs : List S26} {a b : S28} (ha : Rs bs s xs a) (hb : Rs bs s xs b) (hd : Dis xs) : a = b := by
  have e0 : a.f0 = b.f0 := by rw [ha.c, hb.c]
  have e1 : a.f1 = b.f1 := by rw [ha.s1, hb.s1]
  have e2 : a.f2 = b.f2 := by
    obtain ⟨x, hx, e⟩ := ha.n2
    obtain ⟨y, hy, f⟩ := hb.n2
    have := hb.n1 x hx
    have := ha.n1 y hy
    omega
  have e3 : a.f3 = b.f3 := by
    obtain ⟨x, hx, e⟩ := ha.m2
    obtain ⟨y, hy, f⟩ := hb.m2
    have := hb.m1 x hx
    have := ha.m1 y hy
    omega
  have e4 : a.f4 = b.f4 := hd _ ha.f _ hb.f (ord_both (ha.fl _ hb.f) (hb.fl _ ha.f))
  have e5 : a.f5 = b.f5 := hd _ ha.l _ hb.l (ord_both (hb.ll _ ha.l) (ha.ll _ hb.l))
  have e6 : a.f6 = b.f6 := by
    have la := ha.may.len
    have lb := hb.may.len
    refine List.ext_getElem (by omega) fun i h1 h2 => ?_
    have h := (ha.h i (by omega)).trans (hb.h i (by omega)).symm
    simpa [List.getD_eq_getElem?_getD, h1, h2] using h
  obtain ⟨a0, a1, a2, a3, a4, a5, a6⟩ := a
  obtain ⟨b0, b1, b2, b3, b4, b5, b6⟩ := b
  simp only at e0 e1 e2 e3 e4 e5 e6
  subst e0 e1 e2 e3 e4 e5 e6
  rfl
/-- What is known of some items, or of none. -/
def Rz (bs : List Int) (s : Int) (xs : List S26) (a : S28) : Prop := (xs = [] ∧ a = join0 bs) ∨ Rs bs s xs a
theorem rz_step {bs : List Int} {s : Int} {xs ys : List S26} {a b : S28} (ha : Rz bs s xs a) (hb : Rz bs s ys b) (hser : ∀ x ∈ xs ++ ys, x.f0 = s) (hn : xs.length + ys.length ≤ 8192) : Rz bs s (xs ++ ys) (stepA a b) := by
  rcases hb with ⟨rfl, rfl⟩ | hb
  · rw [step_zero, List.append_nil]
    exact ha
  · rcases ha with ⟨rfl, rfl⟩ | ha
    · rw [zero_step hb.may]
      exact .inr hb
    · refine .inr ?_
      unfold stepA
      rw [if_pos (by have := hb.may.c; omega)]
      exact rs_add ha hb hser hn
theorem rz_join {bs : List Int} (hb : bmay bs = true) {s : Int} : ∀ (n : Nat) (L : List S26), L.length = n → (∀ x ∈ L, imay x = true ∧ x.f0 = s) → L.length ≤ 8192 → Rz bs s L (joinA bs (L.map (fun x => one x bs)))
  | 0, L, hn, _, _ => by
    have e := List.eq_nil_of_length_eq_zero hn
    subst e
    exact .inl ⟨rfl, rfl⟩
  | n + 1, L, hn, hL, h8 => by
    have h0 : L ≠ [] := fun e => by subst e; cases hn
    obtain ⟨ys, x, rfl⟩ : ∃ ys x, L = ys ++ [x] := ⟨L.dropLast, L.getLast h0, (List.dropLast_concat_getLast h0).symm⟩
    have hy : ys.length = n := by simpa using hn
    have ih := rz_join hb n ys hy (fun y hy => hL y (List.mem_append_left _ hy)) (by omega)
    rw [List.map_append]
    show Rz bs s (ys ++ [x]) (joinA bs (ys.map (fun x => one x bs) ++ [one x bs]))
    rw [joinA_append]
    have hx := hL x (by simp)
    refine rz_step ih (.inr ?_) (fun y hy => (hL y hy).2) (by simpa using h8)
    have := rs_one (bs := bs) hx.1 hb
    rwa [hx.2] at this
theorem allm_rz {bs : List Int} (hb : bmay bs = true) {s : Int} : ∀ {xs : List S28} {f : Int}, (∀ x ∈ xs, x = join0 bs ∨ (May1 bs x ∧ x.f4.f0 = s)) → (f = -1 ∨ f = s) → allm bs f xs = true
  | [], _, _, _ => hb
  | x :: r, f, h, hf => by
    have hr := fun y (hy : y ∈ r) => h y (List.mem_cons_of_mem _ hy)
    rcases h x (List.mem_cons_self ..) with rfl | hx
    · rw [allm_zero hb]
      exact allm_rz hb hr hf
    · unfold allm
      rw [if_pos hx.1.amay, if_pos (show 0 < x.f0 from by have := hx.1.c; omega)]
      rw [if_neg (by rcases hf with rfl | rfl
                     · simp
                     · rw [hx.2]; simp)]
      exact allm_rz hb hr (.inr hx.2)
theorem cnt_map (bs : List Int) (L : List S26) : cnt (L.map (fun x => one x bs)) = L.length := by
  unfold cnt
  induction L with
  | nil => rfl
  | cons x r ih =>
    simp only [List.map_cons, List.sum_cons, List.length_cons]
    rw [ih]
    show (1 : Int) + _ = _
    omega
/-- Some items are put together. -/
theorem join_items {bs : List Int} (hb : bmay bs = true) {s : Int} {L : List S26} (hL : ∀ x ∈ L, imay x = true ∧ x.f0 = s) (h8 : L.length ≤ 8192) : ∃ a, joinRes bs (L.map (fun x => one x bs)) = (a, 0) ∧ Rz bs s L a := by
  refine ⟨joinA bs (L.map (fun x => one x bs)), ?_, rz_join hb _ L rfl hL h8⟩
  unfold joinRes
  rw [if_pos (allm_rz hb (s := s) (fun y hy => ?_) (.inl rfl)), if_neg (by rw [cnt_map]; omega)]
  obtain ⟨x, hx, rfl⟩ := List.mem_map.1 hy
  exact .inr ⟨may1_one (hL x hx).1 hb, (hL x hx).2⟩
/-- Two of them are put together. -/
theorem join_pair {bs : List Int} (hb : bmay bs = true) {s : Int} {L M : List S26} {a b : S28} (ha : Rz bs s L a) (hm : Rz bs s M b) (hL : ∀ x ∈ L ++ M, x.f0 = s) (h8 : L.length + M.length ≤ 8192) : ∃ x, joinRes bs [a, b] = (x, 0) ∧ Rz bs s (L ++ M) x := by
  have h0 : ∀ {K : List S26} {y : S28}, Rz bs s K y → y.f0 = K.length ∧ (y = join0 bs ∨ (May1 bs y ∧ y.f4.f0 = s)) := fun h => by
    rcases h with ⟨rfl, rfl⟩ | h
    · exact ⟨rfl, .inl rfl⟩
    · exact ⟨h.c, .inr ⟨h.may, h.ser⟩⟩
  have e : joinA bs [a, b] = stepA (stepA (join0 bs) a) b := rfl
  refine ⟨joinA bs [a, b], ?_, ?_⟩
  · unfold joinRes
    rw [if_pos (allm_rz hb (s := s) (fun y hy => ?_) (.inl rfl)), if_neg (by simp only [cnt, List.map_cons, List.map_nil, List.sum_cons, List.sum_nil, (h0 ha).1, (h0 hm).1]; omega)]
    simp only [List.mem_cons, List.not_mem_nil, or_false] at hy
    rcases hy with rfl | rfl
    · exact (h0 ha).2
    · exact (h0 hm).2
  · rw [e]
    have h1 : Rz bs s ([] ++ L) (stepA (join0 bs) a) := rz_step (.inl ⟨rfl, rfl⟩) ha (fun x hx => hL x (List.mem_append_left _ (by simpa using hx))) (by simp; omega)
    rw [List.nil_append] at h1
    exact rz_step h1 hm hL h8
theorem rz_same {bs : List Int} {s : Int} {L M : List S26} {a b : S28} (ha : Rz bs s L a) (hb : Rz bs s M b) (hp : L.Perm M) (hd : Dis L) : a = b := by
  rcases ha with ⟨rfl, rfl⟩ | ha
  · have e : M = [] := hp.symm.eq_nil
    subst e
    rcases hb with ⟨_, rfl⟩ | hb
    · rfl
    · cases hb.f
  · rcases hb with ⟨rfl, rfl⟩ | hb
    · have e : L = [] := hp.eq_nil
      subst e
      cases ha.f
    · exact rs_same ha (rs_perm hb hp.symm) hd
theorem rz_count {bs : List Int} {s : Int} {L : List S26} {a : S28} (h : Rz bs s L a) : a.f0 = L.length := by
  rcases h with ⟨rfl, rfl⟩ | h
  · rfl
  · exact h.c
end Go.Proofs.Ytggaefklcpbfnaa.My
