/- Lemmas, contracts of functions and plain laws, part 3: what the row's proof uses. No statement of the seed is proved here. -/
import Derived.Test.YtfgabafbcephaaaZQueues2
import Derived.Test.YtfgabafbcephaaaYPaItem17
import Derived.Test.YtfgabafbcephaaaZQueues1
import Derived.Test.YtfgabafbcephaaaYPaInts
import Derived.SizedLaws
import Derived.Lib.SmallJoins
import Derived.Deep.Slices
namespace Go.Proofs.Ytfgabafbcephaaa.My
open Go.RowKit Pa Go.Proofs.YtfgabafbcephaaaW.PrintWords
set_option linter.unusedSimpArgs false

theorem hadd_assoc : ∀ (a b c : List Int), hadd (hadd a b) c = hadd a (hadd b c)
  | [], _, _ => rfl
  | x :: a, [], c => by simp [hadd]
  | x :: a, y :: b, [] => by simp [hadd]
  | x :: a, y :: b, z :: c => by
    have ih := hadd_assoc a b c
    unfold hadd at *
    simp only [List.zipWith_cons_cons, ih, Int.add_assoc]
theorem ord_lt_trans {a b c : S34} (h1 : ord c b < 0) (h2 : ord b a < 0) : ord c a < 0 := by
  unfold ord at *
  (repeat' split at h1) <;> (repeat' split at h2) <;> (repeat' split) <;> omega
theorem ord_ge_trans {a b c : S34} (h1 : 0 ≤ ord c b) (h2 : 0 ≤ ord b a) : 0 ≤ ord c a := by
  unfold ord at *
  (repeat' split at h1) <;> (repeat' split at h2) <;> (repeat' split) <;> omega
theorem add_assoc3 {a b c : S36} (ha : a.f0 ≠ 0) (hb : b.f0 ≠ 0) (hab : a.f0 + b.f0 ≠ 0) : addA (addA a b) c = addA a (addA b c) := by
  obtain ⟨p0, p1, p2, p3, p4, p5, p6⟩ := add_parts a b ha
  obtain ⟨q0, q1, q2, q3, q4, q5, q6⟩ := add_parts b c hb
  obtain ⟨r0, r1, r2, r3, r4, r5, r6⟩ := add_parts (addA a b) c (by rw [p0]; exact hab)
  obtain ⟨s0, s1, s2, s3, s4, s5, s6⟩ := add_parts a (addA b c) ha
  refine s28_ext (by rw [r0, s0, p0, q0]; omega) (by rw [r1, s1, p1, q1]; omega) ?_ ?_ ?_ ?_ (by rw [r6, s6, p6, q6, hadd_assoc])
  · rw [r2, s2, p2, q2]
    (repeat' split) <;> omega
  · rw [r3, s3, p3, q3]
    (repeat' split) <;> omega
  · rw [r4, s4, p4, q4]
    by_cases h1 : ord b.f4 a.f4 < 0
    · rw [if_pos h1]
      by_cases h2 : ord c.f4 b.f4 < 0
      · rw [if_pos h2, if_pos (ord_lt_trans h2 h1)]
      · rw [if_neg h2, if_pos h1]
    · rw [if_neg h1]
      by_cases h2 : ord c.f4 b.f4 < 0
      · rw [if_pos h2]
      · rw [if_neg h2, if_neg h1, if_neg]
        have e1 : 0 ≤ ord c.f4 b.f4 := by omega
        have e2 : 0 ≤ ord b.f4 a.f4 := by omega
        have := ord_ge_trans e1 e2
        omega
  · rw [r5, s5, p5, q5]
    by_cases h1 : 0 ≤ ord b.f5 a.f5
    · rw [if_pos h1]
      by_cases h2 : 0 ≤ ord c.f5 b.f5
      · rw [if_pos h2, if_pos (ord_ge_trans h2 h1)]
      · rw [if_neg h2, if_pos h1]
    · rw [if_neg h1]
      by_cases h2 : 0 ≤ ord c.f5 b.f5
      · rw [if_pos h2]
      · rw [if_neg h2, if_neg h1, if_neg]
        have := ord_lt_trans (a := a.f5) (b := b.f5) (c := c.f5) (by omega) (by omega)
        omega
theorem step_pos {o a : S36} (h : 0 < a.f0) : stepA o a = addA o a := if_pos h
theorem amay_zs {bs : List Int} {x : S36} {s : Int} (hx : amay x bs = true) (hs : x.f0 ≠ 0 → x.f4.f0 = s) : Zs bs s x := by
  by_cases hz : x.f0 = 0
  · left
    have hf := amay_fit hx
    have hx2 := hx
    unfold amay at hx2
    rw [if_pos hz] at hx2
    simp only [Bool.and_eq_true, decide_eq_true_eq] at hx2
    obtain ⟨_, _, hh, _, _, hb⟩ := hx2
    unfold bareB at hb
    simp only [Bool.and_eq_true, beq_iff_eq] at hb
    obtain ⟨b1, b2, b3, b4, b5⟩ := hb
    have hl := hf.len
    refine s28_ext hz b1 b2 b3 (isz_yes b4) (isz_yes b5) (List.ext_getElem (by rw [hl]; simp [join0]) (fun i h1 h2 => ?_))
    have := hf.h i h1
    rw [List.getD_eq_getElem?_getD, List.getElem?_eq_getElem h1, Option.getD_some, hz] at this
    have e : (join0 bs).f6[i] = 0 := List.getElem_replicate ..
    rw [e]
    omega
  · exact .inr ⟨May1.of hx hz, hs hz⟩
theorem zs_bm {bs : List Int} (hb : bmay bs = true) {s : Int} {x : S36} (h : Zs bs s x) : amay x bs = true ∧ (x.f0 ≠ 0 → x.f4.f0 = s) := by
  rcases h with rfl | ⟨m, e⟩
  · exact ⟨amay_zero hb, fun h => absurd rfl h⟩
  · exact ⟨m.amay, fun _ => e⟩
theorem zs_c {bs : List Int} {s : Int} {x : S36} (h : Zs bs s x) : 0 ≤ x.f0 ∧ x.f0 ≤ 8192 := by
  rcases h with rfl | ⟨m, e⟩
  · exact ⟨Int.le_refl _, by show (0 : Int) ≤ 8192; omega⟩
  · have := m.c
    omega
theorem zs_f0 {bs : List Int} {s : Int} {x y : S36} (hy : Zs bs s y) : (stepA x y).f0 = x.f0 + y.f0 := by
  rcases hy with rfl | ⟨m, _⟩
  · rw [step_zero]
    show _ = x.f0 + 0
    omega
  · rw [step_pos (by have := m.c; omega)]
    exact (addA_f0 x y).1
theorem zs_step {bs : List Int} {s : Int} {x y : S36} (hb : bmay bs = true) (hx : Zs bs s x) (hy : Zs bs s y) (hc : x.f0 + y.f0 ≤ 8192) : Zs bs s (stepA x y) := by
  obtain ⟨h1, h2⟩ := zs_bm hb hy
  exact (rstep_eq h1 hx h2).2 hc
theorem step_assoc {bs : List Int} {s : Int} {x y z : S36} (hx : Zs bs s x) (hy : Zs bs s y) (hz : Zs bs s z) : stepA (stepA x y) z = stepA x (stepA y z) := by
  rcases hz with rfl | ⟨mz, _⟩
  · rw [step_zero, step_zero]
  rcases hy with rfl | ⟨my, _⟩
  · rw [step_zero, zero_step mz]
  have cy := my.c
  have cz := mz.c
  rcases hx with rfl | ⟨mx, _⟩
  · have e : stepA (join0 bs) (stepA y z) = stepA y z := by
      rw [step_pos (o := y) (by omega)]
      have h0 : (addA y z).f0 = y.f0 + z.f0 := (addA_f0 y z).1
      have h6 : (addA y z).f6 = hadd y.f6 z.f6 := (addA_f0 y z).2.2
      rw [step_pos (by omega)]
      have p := add_parts y z (by omega)
      generalize addA y z = u at *
      have hl : u.f6.length = bs.length + 1 := by rw [h6, hadd_len (by rw [mz.len, my.len]), my.len]
      have hh := hadd_zeros u.f6
      rw [hl] at hh
      obtain ⟨a0, a1, a2, a3, a4, a5, a6⟩ := u
      unfold addA fst_ add3 add4 add5 add6 join0
      simp only [ord_self] at *
      simp [hh]
    rw [zero_step my, e]
  · have cx := mx.c
    have h1 : stepA x y = addA x y := step_pos (by omega)
    have h2 : stepA y z = addA y z := step_pos (by omega)
    have h3 : (addA y z).f0 = y.f0 + z.f0 := (addA_f0 y z).1
    rw [h1, h2, step_pos (by omega), step_pos (by omega)]
    exact add_assoc3 (by omega) (by omega) (by omega)
theorem fold_zs {bs : List Int} (hb : bmay bs = true) {s : Int} : ∀ {L : List S36} {o : S36}, Zs bs s o → (∀ x ∈ L, Zs bs s x) → o.f0 + cnt L ≤ 8192 → Zs bs s (L.foldl stepA o) ∧ (L.foldl stepA o).f0 = o.f0 + cnt L ∧ L.foldl stepA o = stepA o (joinA bs L)
  | [], o, ho, _, _ => ⟨ho, by simp [cnt], (step_zero o bs).symm⟩
  | x :: r, o, ho, hL, hc => by
    have hx := hL x (List.mem_cons_self ..)
    have hr := fun y (hy : y ∈ r) => hL y (List.mem_cons_of_mem _ hy)
    have hcx : cnt (x :: r) = x.f0 + cnt r := by simp [cnt]
    have c1 := zs_c hx
    have c2 := zs_c ho
    have c3 : 0 ≤ cnt r := by
      clear hcx hc
      induction r with
      | nil => simp [cnt]
      | cons y t ih =>
        have := zs_c (hr y (List.mem_cons_self ..))
        have := ih (fun z hz => hL z (by rcases List.mem_cons.1 hz with rfl | hz <;> simp [*])) (fun z hz => hr z (List.mem_cons_of_mem _ hz))
        have : cnt (y :: t) = y.f0 + cnt t := by simp [cnt]
        omega
    rw [hcx] at hc
    have h0 := zs_f0 (x := o) hx
    have hz0 : Zs bs s (join0 bs) := .inl rfl
    have e0 : (join0 bs).f0 = 0 := rfl
    have h1 := fold_zs hb (L := r) (zs_step hb ho hx (by omega)) hr (by omega)
    have h2 := fold_zs hb (L := r) (zs_step hb hz0 hx (by omega)) hr (by rw [zs_f0 hx, e0]; omega)
    have h3 := fold_zs hb (L := r) hz0 hr (by rw [e0]; omega)
    have hj : joinA bs (x :: r) = stepA (stepA (join0 bs) x) (joinA bs r) := h2.2.2
    refine ⟨h1.1, by rw [hcx]; have := h1.2.1; simp only [List.foldl_cons] at *; omega, ?_⟩
    have hjr : Zs bs s (joinA bs r) := h3.1
    rw [hj, List.foldl_cons, h1.2.2, step_assoc ho hx hjr, step_assoc hz0 hx hjr]
    have h4 : Zs bs s (stepA x (joinA bs r)) := zs_step hb hx hjr (by
      have := h3.2.1
      have e : (joinA bs r).f0 = (r.foldl stepA (join0 bs)).f0 := rfl
      omega)
    rcases h4 with e | ⟨m, _⟩
    · rw [e, step_zero, step_zero, step_zero]
    · rw [zero_step m]
theorem join_app {bs : List Int} (hb : bmay bs = true) {s : Int} {L M : List S36} (hL : ∀ x ∈ L, Zs bs s x) (hM : ∀ x ∈ M, Zs bs s x) (hc : cnt L + cnt M ≤ 8192) (h0 : 0 ≤ cnt M) : joinA bs (L ++ M) = stepA (joinA bs L) (joinA bs M) := by
  have e0 : (join0 bs).f0 = 0 := rfl
  have h1 := fold_zs hb (L := L) (.inl rfl) hL (by rw [e0]; omega)
  have h2 := fold_zs hb (L := M) h1.1 hM (by rw [h1.2.1, e0]; omega)
  show (L ++ M).foldl stepA (join0 bs) = _
  rw [List.foldl_append, h2.2.2]
  rfl
theorem cnt_app (L M : List S36) : cnt (L ++ M) = cnt L + cnt M := by simp [cnt]
theorem cnt_nn {bs : List Int} {s : Int} {L : List S36} (hL : ∀ x ∈ L, Zs bs s x) : 0 ≤ cnt L := by
  induction L with
  | nil => simp [cnt]
  | cons y t ih =>
    have := zs_c (hL y (List.mem_cons_self ..))
    have := ih (fun z hz => hL z (List.mem_cons_of_mem _ hz))
    have : cnt (y :: t) = y.f0 + cnt t := by simp [cnt]
    omega
structure Gd (bs : List Int) (s : Int) (L : List S36) : Prop where
  b : bmay bs = true
  z : ∀ x ∈ L, Zs bs s x
  c : cnt L ≤ 8192
section
variable {bs : List Int} {s : Int} {L M : List S36}
theorem Gd.nil (hb : bmay bs = true) : Gd bs s [] := ⟨hb, by simp, by simp [cnt]⟩
theorem Gd.join (h : Gd bs s L) : joinRes bs L = (joinA bs L, 0) := by
  unfold joinRes
  rw [if_pos (allm_rz h.b h.z (.inl rfl)), if_neg (by have := h.c; omega)]
theorem Gd.of (h : (joinRes bs L).2 = 0) : ∃ s, Gd bs s L := by
  unfold joinRes at h
  by_cases ha : allm bs (-1) L = true
  · rw [if_pos ha] at h
    by_cases hc : 8192 < cnt L
    · rw [if_pos hc] at h
      cases h
    · obtain ⟨s, hs⟩ := allm_ser ha
      exact ⟨s, allm_bm ha, fun x hx => amay_zs (allm_all ha x hx) (hs x hx), by omega⟩
  · rw [if_neg ha] at h
    cases h
theorem Gd.zj (h : Gd bs s L) : Zs bs s (joinA bs L) ∧ (joinA bs L).f0 = cnt L := by
  have e0 : (join0 bs).f0 = 0 := rfl
  have h1 := fold_zs h.b (L := L) (.inl rfl) h.z (by have := h.c; rw [e0]; omega)
  exact ⟨h1.1, by show (L.foldl stepA (join0 bs)).f0 = _; rw [h1.2.1, e0]; omega⟩
theorem Gd.left (h : Gd bs s (L ++ M)) : Gd bs s L := by
  have hM : ∀ x ∈ M, Zs bs s x := fun x hx => h.z x (List.mem_append_right _ hx)
  have := cnt_nn hM
  have hc := h.c
  rw [cnt_app] at hc
  exact ⟨h.b, fun x hx => h.z x (List.mem_append_left _ hx), by omega⟩
theorem Gd.right (h : Gd bs s (L ++ M)) : Gd bs s M := by
  have hL : ∀ x ∈ L, Zs bs s x := fun x hx => h.z x (List.mem_append_left _ hx)
  have := cnt_nn hL
  have hc := h.c
  rw [cnt_app] at hc
  exact ⟨h.b, fun x hx => h.z x (List.mem_append_right _ hx), by omega⟩
theorem Gd.app (h : Gd bs s (L ++ M)) : joinA bs (L ++ M) = stepA (joinA bs L) (joinA bs M) := by
  have hc := h.c
  rw [cnt_app] at hc
  exact join_app h.b h.left.z h.right.z hc (cnt_nn h.right.z)
theorem Gd.two (h : Gd bs s (L ++ M)) : joinRes bs [joinA bs L, joinA bs M] = (joinA bs (L ++ M), 0) := by
  have h1 := h.left.zj
  have h2 := h.right.zj
  have hc := h.c
  rw [cnt_app] at hc
  have g : Gd bs s [joinA bs L, joinA bs M] := ⟨h.b, by
    intro x hx
    simp only [List.mem_cons, List.not_mem_nil, or_false] at hx
    rcases hx with rfl | rfl
    · exact h1.1
    · exact h2.1, by simp only [cnt, List.map_cons, List.map_nil, List.sum_cons, List.sum_nil, h1.2, h2.2]; unfold cnt at hc; omega⟩
  rw [g.join, h.app]
  have e : joinA bs [joinA bs L, joinA bs M] = stepA (stepA (join0 bs) (joinA bs L)) (joinA bs M) := rfl
  rw [e]
  rcases h1.1 with e1 | ⟨m, _⟩
  · rw [e1, step_zero]
  · rw [zero_step m]
theorem zero_zs {x : S36} (h : Zs bs s x) : stepA (join0 bs) x = x := by
  rcases h with rfl | ⟨m, _⟩
  · exact step_zero _ _
  · exact zero_step m
theorem Gd.one (hb : bmay bs = true) {a : S36} (h : Zs bs s a) : Gd bs s [a] := ⟨hb, by simpa using h, by have := zs_c h; simp [cnt]; omega⟩
theorem joinA_one (a : S36) : joinA bs [a] = stepA (join0 bs) a := rfl
theorem Gd.more (h : Gd bs s (L ++ M)) (a : S36) : (joinRes bs [joinA bs L, joinA bs M, a]).2 = (joinRes bs [joinA bs (L ++ M), a]).2 := by
  have h1 := h.left.zj
  have h2 := h.right.zj
  have h3 := h.zj
  have happ := h.app
  have hb := h.b
  have hm : allm bs (-1) [joinA bs L, joinA bs M, a] = allm bs (-1) [joinA bs (L ++ M), a] := by
    rw [happ] at h3 ⊢
    rcases h1.1 with e1 | ⟨m1, s1⟩
    · rw [e1, zero_zs h2.1, allm_zero hb]
    · rcases h2.1 with e2 | ⟨m2, s2⟩
      · rw [e2, step_zero, allm_one m1, allm_one m1, allm_zero hb]
      · rcases h3.1 with e3 | ⟨m3, s3⟩
        · have e4 := h3.2
          have e5 := zs_f0 (x := joinA bs L) h2.1
          rw [e3] at e5
          have := m1.c
          have := m2.c
          have e6 : (join0 bs).f0 = 0 := rfl
          omega
        · rw [allm_one m1, allm_one m3, s1, s3, allm, if_pos m2.amay, if_pos (by have := m2.c; omega), if_neg (by rw [s2]; simp), s2]
  have hc : cnt [joinA bs L, joinA bs M, a] = cnt [joinA bs (L ++ M), a] := by
    simp only [cnt, List.map_cons, List.map_nil, List.sum_cons, List.sum_nil, h1.2, h2.2, h3.2, List.map_append, List.sum_append]
    omega
  unfold joinRes
  rw [hm, hc]
  split
  · split <;> rfl
  · rfl
theorem Gd.snoc (h : Gd bs s L) {a : S36} (h0 : (joinRes bs [joinA bs L, a]).2 = 0) : ∃ t, Gd bs t (L ++ [a]) := by
  obtain ⟨t, g⟩ := Gd.of h0
  have hj := h.zj
  have ga := g.z a (by simp)
  have gj := g.z (joinA bs L) (by simp)
  have hcc := g.c
  simp only [cnt, List.map_cons, List.map_nil, List.sum_cons, List.sum_nil] at hcc
  refine ⟨t, h.b, fun x hx => ?_, by rw [cnt_app, ← hj.2]; simp [cnt]; omega⟩
  rcases List.mem_append.1 hx with hx | hx
  · refine amay_zs (zs_bm h.b (h.z x hx)).1 (fun hz => ?_)
    have hzj : (joinA bs L).f0 ≠ 0 := by
      rw [hj.2]
      obtain ⟨l1, l2, rfl⟩ := List.append_of_mem hx
      have e1 := cnt_nn (fun y hy => h.z y (List.mem_append_left _ hy))
      have e2 := cnt_nn (fun y hy => h.z y (List.mem_append_right _ (List.mem_cons_of_mem _ hy)))
      have e3 := zs_c (h.z x hx)
      have e4 : cnt (x :: l2) = x.f0 + cnt l2 := by simp [cnt]
      rw [cnt_app]
      omega
    have e1 := (zs_bm h.b hj.1).2 hzj
    have e2 := (zs_bm h.b gj).2 hzj
    have e3 := (zs_bm h.b (h.z x hx)).2 hz
    omega
  · rw [List.mem_singleton.1 hx]
    exact ga
end
inductive FrOk (bs : List Int) : List (S36 × S36) → Prop where
  | nil : FrOk bs []
  | snoc {fs : List (S36 × S36)} {a j : S36} : FrOk bs fs → j = joinA bs (a :: (fs.map Prod.fst).reverse) → FrOk bs (fs ++ [(a, j)])
structure QI (bs : List Int) (fs : List (S36 × S36)) (bk : List S36) (al : S36) (L : List S36) : Prop where
  fr : FrOk bs fs
  al : al = joinA bs bk
  row : L = (fs.map Prod.fst).reverse ++ bk
  gd : ∃ s, Gd bs s L
theorem FrOk.back {bs : List Int} {fs : List (S36 × S36)} {e : S36 × S36} (h : FrOk bs (fs ++ [e])) : FrOk bs fs ∧ e.2 = joinA bs (e.1 :: (fs.map Prod.fst).reverse) := by
  generalize hg : fs ++ [e] = gs at h
  cases h with
  | nil => simp at hg
  | snoc h1 h2 =>
    obtain ⟨rfl, h3⟩ := List.append_inj' hg rfl
    injection h3 with h3 _
    subst h3
    exact ⟨h1, h2⟩
theorem FrOk.head {bs : List Int} {fs : List (S36 × S36)} (hb : bmay bs = true) (h : FrOk bs fs) : headS bs fs = joinA bs (fs.map Prod.fst).reverse := by
  cases h with
  | nil => show (joinRes bs []).1 = _; rw [(Gd.nil (s := 0) hb).join]; rfl
  | snoc h1 h2 =>
    unfold headS
    simp [h2]
section
variable {bs : List Int} {fs : List (S36 × S36)} {bk L : List S36} {al : S36}
theorem QI.new (h : (joinRes bs []).2 = 0) : QI bs [] [] (joinRes bs []).1 [] := by
  obtain ⟨s, g⟩ := Gd.of h
  refine ⟨.nil, ?_, rfl, s, g⟩
  rw [g.join]
theorem QI.head (h : QI bs fs bk al L) : headS bs fs = joinA bs (fs.map Prod.fst).reverse := by
  obtain ⟨s, g⟩ := h.gd
  exact h.fr.head g.b
theorem QI.total (h : QI bs fs bk al L) : joinRes bs [headS bs fs, al] = joinRes bs L := by
  obtain ⟨s, g⟩ := h.gd
  rw [h.head, h.al]
  have hr := h.row
  subst hr
  rw [g.two, g.join]
theorem QI.push (h : QI bs fs bk al L) (a : S36) : (joinRes bs [headS bs fs, al, a]).2 = (joinRes bs [(joinRes bs L).1, a]).2 ∧ ((joinRes bs [headS bs fs, al, a]).2 = 0 → QI bs fs (bk ++ [a]) (joinRes bs [al, a]).1 (L ++ [a])) := by
  obtain ⟨s, g⟩ := h.gd
  have hr := h.row
  subst hr
  have e1 := g.more a
  rw [g.join, h.head, h.al]
  refine ⟨e1, fun h0 => ?_⟩
  rw [e1] at h0
  obtain ⟨t, gt⟩ := g.snoc h0
  refine ⟨h.fr, ?_, by rw [List.append_assoc], t, gt⟩
  rw [List.append_assoc] at gt
  have e2 := gt.right.two
  rw [joinA_one, zero_zs (gt.right.z a (by simp))] at e2
  rw [e2]
theorem turnS_ok : ∀ {l : List S36} {fs : List (S36 × S36)} {s : Int}, FrOk bs fs → Gd bs s (l.reverse ++ (fs.map Prod.fst).reverse) → FrOk bs (turnS bs fs l) ∧ (turnS bs fs l).map Prod.fst = fs.map Prod.fst ++ l
  | [], fs, s, h, g => ⟨h, by simp [turnS]⟩
  | a :: r, fs, s, h, g => by
    have g2 : Gd bs s (r.reverse ++ (a :: (fs.map Prod.fst).reverse)) := by simpa using g
    have e := (show Gd bs s ([a] ++ (fs.map Prod.fst).reverse) from g2.right).two
    rw [joinA_one, zero_zs (g2.right.z a (by simp)), List.singleton_append] at e
    have hf : FrOk bs (fs ++ [(a, (joinRes bs [a, headS bs fs]).1)]) := .snoc h (by rw [h.head g.b, e])
    have ih := turnS_ok (l := r) (s := s) hf (by simpa using g2)
    unfold turnS
    refine ⟨ih.1, ?_⟩
    rw [ih.2]
    simp
theorem QI.pop {fs' : List (S36 × S36)} {a j : S36} {bk' : List S36} {al' : S36} (h : QI bs fs bk al L) (hp : (fs' ++ [(a, j)], bk', al') = popS bs fs bk al) : ∃ L', L = a :: L' ∧ QI bs fs' bk' al' L' := by
  obtain ⟨s, g⟩ := h.gd
  have hr := h.row
  unfold popS at hp
  by_cases hf : fs = []
  · rw [if_pos hf] at hp
    subst hf
    injection hp with h1 hp
    injection hp with h2 h3
    have g2 : Gd bs s (bk.reverse.reverse ++ (([] : List (S36 × S36)).map Prod.fst).reverse) := by
      rw [List.reverse_reverse]
      simpa [hr] using g
    obtain ⟨t1, t2⟩ := turnS_ok .nil g2
    rw [← h1] at t1 t2
    have hL : L = a :: (fs'.map Prod.fst).reverse := by
      have := congrArg List.reverse t2
      simp at this
      rw [hr]
      simp [← this]
    subst h2 h3
    refine ⟨(fs'.map Prod.fst).reverse, hL, t1.back.1, ?_, by simp, s, ?_⟩
    · rw [(Gd.nil (s := 0) g.b).join]
    · rw [hL] at g
      exact g.right (L := [a])
  · rw [if_neg hf] at hp
    injection hp with h1 hp
    injection hp with h2 h3
    subst h1 h2 h3
    have hL : L = a :: ((fs'.map Prod.fst).reverse ++ bk') := by
      rw [hr]
      simp
    refine ⟨_, hL, h.fr.back.1, h.al, rfl, s, ?_⟩
    rw [hL] at g
    exact g.right (L := [a])
end
end Go.Proofs.Ytfgabafbcephaaa.My

namespace Go.Proofs.Ytfgabafbcephaaa.My
open Go.RowKit Pa Go.Proofs.YtfgabafbcephaaaW.PrintWords
set_option linter.unusedSimpArgs false
theorem item17_any (a b c d : Int) (w : World) :
    Calls Try.prog 26 #[.int .i64 a, .int .i64 b, .int .i64 c, .int .i64 d] w fun e w' => e = .returned (.agg #[.int .i64 a, .int .i64 b, .int .i64 c, .int .i64 d]) ∧ Below w.heap.size w w' :=
  bournelaw17_item.calls a b c d a b c d w rfl
set_option maxHeartbeats 4000000 in
set_option maxRecDepth 100000 in
theorem one17_any (x : S34) (bs : List Int) (A : Option Addr) (c : Nat) (w : World) (hr : RdI w A bs) (hc : bs.length ≤ c) :
    Calls Try.prog 25 #[.agg #[.int .i64 x.f0, .int .i64 x.f1, .int .i64 x.f2, .int .i64 x.f3], .slice A bs.length c] w fun e w' => ∃ v, e = .returned (acV (oneRes x bs).1 v) ∧ Own w' w.heap.size v (oneRes x bs).1.f6 ∧ Below w.heap.size w w' := by
  have hB0 : Below w.heap.size w (w.alloc (itO x)) := (Below.refl _ _).alloc (Nat.le_refl _) _
  have hB : Below w.heap.size w ((w.alloc (itO x)).alloc (acO z36 (.slice none 0 0))) := hB0.alloc (by simp) _
  have hx : ((w.alloc (itO x)).alloc (acO z36 (.slice none 0 0))).heap[w.heap.size]? = some (itO x) := blk_below (heap_alloc_new w (itO x)) ((Below.refl _ _).alloc (Nat.le_refl _) _)
  have hz : ((w.alloc (itO x)).alloc (acO z36 (.slice none 0 0))).heap[w.heap.size + 1]? = some (acO z36 (.slice none 0 0)) := by
    have := heap_alloc_new (w.alloc (itO x)) (acO z36 (.slice none 0 0))
    simpa using this
  have HR := Lib.hid (RdI.below hr hB)
  have HX := Lib.hid hB
  have HZ := Lib.hid hz
  have HC := Lib.hid hc
  obtain ⟨x0, x1, x2, x3, xl⟩ := itO_facts hx
  clear hr hc hB hB0 hz hx
  unfold itO at x0 x1 x2 x3 xl
  go_enter Try.func25, Try.ntmps25
  go_wp2_with fail
  clear x0 x1 x2 x3 xl
  show Calls _ _ _ ((w.alloc (itO x)).alloc (acO z36 (.slice none 0 0))) _
  generalize (w.alloc (itO x)).alloc (acO z36 (.slice none 0 0)) = w1 at *
  refine (rone_any x bs A c w1 HR.out HC.out).mono ?_
  rintro e w2 ⟨v, rfl, how, hb⟩
  obtain ⟨o, ho⟩ : ∃ o, o = (oneRes x bs).1 := ⟨_, rfl⟩
  obtain ⟨er, her⟩ : ∃ er, er = (oneRes x bs).2 := ⟨_, rfl⟩
  rw [← ho] at how ⊢
  rw [← her]
  have HRES := Lib.hid ho
  clear ho her
  obtain ⟨A2, c2, rfl, hl2, hr2⟩ := how.reads
  have hal : Below w2.heap.size w2 (w2.alloc (acO o (.slice A2 o.f6.length c2))) := (Below.refl _ _).alloc (Nat.le_refl _) _
  have HO := Lib.hid (show Own _ w.heap.size _ _ from own_weaken (Own.below how hal) HX.out.size)
  have hbb := hb.trans (hal.mono hb.size)
  have hzz := blk_below HZ.out hbb
  have HZZ := Lib.hid hzz
  have HB2 := Lib.hid (HX.out.trans (hbb.mono HX.out.size))
  clear how hb hbb hl2 hr2 hal HZ
  simp only [acV]
  obtain ⟨z0, z1, z2, z3, z4, z5, z6, z7, z8, z9, z10, z11, z12, zl⟩ := acO_facts hzz
  have hf := fun j => blk_free hzz j
  clear hzz
  unfold acO at z0 z1 z2 z3 z4 z5 z6 z7 z8 z9 z10 z11 z12 zl hf
  go_wp2_with fail
  show bodyPost _ _ _ _ _ (putA (w2.alloc (acO o (.slice A2 o.f6.length c2))) (w.heap.size + 1) o (.slice A2 o.f6.length c2))
  have hz2 := putA_blk (a := o) (v := .slice A2 o.f6.length c2) HZZ.out
  have hch := putA_chg (w2.alloc (acO o (.slice A2 o.f6.length c2))) (w.heap.size + 1) o (.slice A2 o.f6.length c2)
  refine bodyPost_ret (results_ac1 rfl _ _ (w.heap.size + 1) o (.slice A2 o.f6.length c2) rfl hz2) rfl ⟨.slice A2 o.f6.length c2, by rw [HRES.out], ?_, ?_⟩
  · rw [← HRES.out]
    exact HO.out.keep hch (fun k hk e => own_no HO.out HZZ.out (by rw [hk, e]))
  · exact Chg.base HB2.out hch HB2.out.size (fun i hi => by omega)
end Go.Proofs.Ytfgabafbcephaaa.My

namespace Go.Proofs.Ytfgabafbcephaaa.My
open Go.RowKit Pa Go.Proofs.YtfgabafbcephaaaW.PrintWords
set_option linter.unusedSimpArgs false
theorem shE_len (fr : List (AV × AV)) : (shE fr).length = fr.length := by simp [shE]
def QL (w : World) (F : Nat → Prop) (g : Nat) (bs : List Int) (L : List S36) : Prop := ∃ fr bk al bv fv kv av, QAt w F g bs fr bk al bv fv kv av ∧ QI bs (shE fr) (shA bk) al L
def RL (w : World) (F : Nat → Prop) (g : Nat) (bs : List Int) (L : List S36) : Prop := ∃ ps bv kv, RQ w F g bs ps bv kv ∧ L = shA ps
section
variable {w w1 : World} {F G S : Nat → Prop} {g : Nat} {bs : List Int} {L : List S36}
theorem QL.keep (h : QL w F g bs L) (hc : Chg S w w1) (hn : ∀ i, F i → ¬ S i) : QL w1 F g bs L := by
  obtain ⟨fr, bk, al, bv, fv, kv, av, h1, h2⟩ := h
  exact ⟨fr, bk, al, bv, fv, kv, av, h1.keep hc hn, h2⟩
theorem QL.below (h : QL w F g bs L) (hb : Below w.heap.size w w1) : QL w1 F g bs L := h.keep (S := fun _ => False) (Chg.of_below hb) (fun _ _ h => h)
theorem QL.mono (h : QL w F g bs L) (hf : ∀ i, i < w.heap.size → F i → G i) : QL w G g bs L := by
  obtain ⟨fr, bk, al, bv, fv, kv, av, h1, h2⟩ := h
  exact ⟨fr, bk, al, bv, fv, kv, av, h1.mono hf, h2⟩
theorem RL.keep (h : RL w F g bs L) (hc : Chg S w w1) (hn : ∀ i, F i → ¬ S i) : RL w1 F g bs L := by
  obtain ⟨ps, bv, kv, h1, h2⟩ := h
  exact ⟨ps, bv, kv, h1.keep hc hn, h2⟩
theorem RL.below (h : RL w F g bs L) (hb : Below w.heap.size w w1) : RL w1 F g bs L := h.keep (S := fun _ => False) (Chg.of_below hb) (fun _ _ h => h)
theorem RL.mono (h : RL w F g bs L) (hf : ∀ i, i < w.heap.size → F i → G i) : RL w G g bs L := by
  obtain ⟨ps, bv, kv, h1, h2⟩ := h
  exact ⟨ps, bv, kv, h1.mono hf, h2⟩
theorem joinRes_nil (bs : List Int) : ((joinRes bs []).2 = 0 ↔ bmay bs = true) := by
  unfold joinRes
  constructor
  · intro h
    by_cases ha : allm bs (-1) [] = true
    · exact ha
    · rw [if_neg ha] at h
      cases h
  · intro h
    have ha : allm bs (-1) [] = true := h
    rw [if_pos ha, if_neg (by simp [cnt])]
theorem QI.len {fs : List (S36 × S36)} {bk : List S36} {al : S36} (h : QI bs fs bk al L) : L.length = fs.length + bk.length := by
  rw [h.row]
  simp
theorem join_short {a J : S36} (h : (joinRes bs [J, a]).2 = 0) : a.f6.length ≤ 9 := by
  obtain ⟨s, g⟩ := Gd.of h
  have hz := g.z a (by simp)
  have hl := (amay_fit (zs_bm g.b hz).1).len
  have := bmay_len g.b
  omega
theorem qlnew_any (bs : List Int) (A : Option Addr) (c : Nat) (w : World) (hr : RdI w A bs) (hc : bs.length ≤ c) (hl : bs.length ≤ 17592186044415) :
    Calls Try.prog 11 #[.slice A bs.length c] w fun e w' =>
      (bmay bs = false ∧ e = .returned (.tuple #[.pointer none, .int .i64 1700]) ∧ Below w.heap.size w w') ∨
      (bmay bs = true ∧ ∃ g : Nat, e = .returned (.tuple #[.pointer (some ⟨g, 0, none⟩), .int .i64 0]) ∧ QL w' (fun i => w.heap.size ≤ i) g bs [] ∧ Below w.heap.size w w') :=
  (qnew_any bs A c w hr hc hl).mono fun e w' h => by
    rcases h with ⟨h0, h1, h2⟩ | ⟨h0, g, bv, av, h1, h2, h3⟩
    · exact .inl ⟨by rw [ne_eq, joinRes_nil] at h0; simpa using h0, h1, h2⟩
    · exact .inr ⟨(joinRes_nil bs).1 h0, g, h1, ⟨[], [], _, _, _, _, _, h2, QI.new h0⟩, h3⟩
theorem rlnew_any (bs : List Int) (A : Option Addr) (c : Nat) (w : World) (hr : RdI w A bs) (hc : bs.length ≤ c) (hl : bs.length ≤ 17592186044415) :
    Calls Try.prog 12 #[.slice A bs.length c] w fun e w' =>
      (bmay bs = false ∧ e = .returned (.tuple #[.pointer none, .int .i64 1700]) ∧ Below w.heap.size w w') ∨
      (bmay bs = true ∧ ∃ g : Nat, e = .returned (.tuple #[.pointer (some ⟨g, 0, none⟩), .int .i64 0]) ∧ RL w' (fun i => w.heap.size ≤ i) g bs [] ∧ Below w.heap.size w w') :=
  (rqnew_any bs A c w hr hc hl).mono fun e w' h => by
    rcases h with h | ⟨h0, g, bv, h1, h2, h3⟩
    · exact .inl h
    · exact .inr ⟨h0, g, h1, ⟨[], _, _, h2, rfl⟩, h3⟩
theorem qllen_any (h : QL w F g bs L) (hl : L.length ≤ 400000) :
    Calls Try.prog 24 #[.pointer (some ⟨g, 0, none⟩)] w fun e w' => e = .returned (.int .i64 (L.length : Int)) ∧ Below w.heap.size w w' := by
  obtain ⟨fr, bk, al, bv, fv, kv, av, h1, h2⟩ := h
  have hn := h2.len
  rw [shE_len, shA_len] at hn
  rw [hn]
  exact qlen_any h1 (by omega)
theorem qltotal_any (h : QL w F g bs L) (hl : L.length ≤ 400000) :
    Calls Try.prog 22 #[.pointer (some ⟨g, 0, none⟩)] w fun e w' => ∃ v, e = .returned (acV (joinRes bs L).1 v) ∧ Own w' w.heap.size v (joinRes bs L).1.f6 ∧ Below w.heap.size w w' := by
  obtain ⟨fr, bk, al, bv, fv, kv, av, h1, h2⟩ := h
  have hn := h2.len
  rw [shE_len, shA_len] at hn
  have := qtotal_any h1 (by omega)
  rw [← headS_sh, h2.total] at this
  exact this
theorem qlpush_any (h : QL w F g bs L) (hl : L.length ≤ 400000) (a : S36) (A : Option Addr) (c : Nat) (ha : Own w 0 (.slice A a.f6.length c) a.f6) :
    Calls Try.prog 20 #[.pointer (some ⟨g, 0, none⟩), acV a (.slice A a.f6.length c)] w fun e w' =>
      ((joinRes bs [(joinRes bs L).1, a]).2 ≠ 0 ∧ e = .returned (.int .i64 1700) ∧ Below w.heap.size w w') ∨
      ((joinRes bs [(joinRes bs L).1, a]).2 = 0 ∧ e = .returned (.int .i64 0) ∧ QL w' (Gr F w w') g bs (L ++ [a]) ∧ Chg F w w') := by
  obtain ⟨fr, bk, al, bv, fv, kv, av, h1, h2⟩ := h
  have hn := h2.len
  rw [shE_len, shA_len] at hn
  obtain ⟨e1, e2⟩ := h2.push a
  have ep : pushErr bs fr al a = (joinRes bs [(joinRes bs L).1, a]).2 := by
    unfold pushErr
    rw [← headS_sh, e1]
  refine (qpush_any h1 (by omega) (by omega) a A c ha (fun h0 => join_short (by rw [← ep]; exact h0))).mono fun e w' hh => ?_
  rw [ep] at hh
  rcases hh with hh | ⟨h0, h3, va, kv', av', h4, h5⟩
  · exact .inl hh
  · refine .inr ⟨h0, h3, ⟨_, _, _, _, _, _, _, h4, ?_⟩, h5⟩
    have := e2 (by rw [e1]; exact h0)
    simpa [shA] using this
theorem qlpop_any (h : QL w F g bs L) (hl : L.length ≤ 400000) :
    Calls Try.prog 15 #[.pointer (some ⟨g, 0, none⟩)] w fun e w' =>
      (L = [] ∧ e = .returned (.tuple #[acV z36 (.slice none 0 0), .int .i64 1701]) ∧ Below w.heap.size w w') ∨
      ∃ (a : S36) (L' : List S36) (v : Value), L = a :: L' ∧ e = .returned (.tuple #[acV a v, .int .i64 0]) ∧ Own w' 0 v a.f6 ∧ (∀ k, v.ownBlock = some k → Gr F w w' k) ∧ QL w' (fun i => Gr F w w' i ∧ ¬ some i = v.ownBlock) g bs L' ∧ Chg F w w' := by
  obtain ⟨fr, bk, al, bv, fv, kv, av, h1, h2⟩ := h
  have hn := h2.len
  rw [shE_len, shA_len] at hn
  refine (qpop_any h1 (by omega)).mono fun e w' hh => ?_
  rcases hh with ⟨rfl, rfl, h3, h4⟩ | ⟨a, j, v, fr', bk', al', fv', kv', av', h3, hp, h4, h4', h5, h6⟩
  · refine .inl ⟨List.eq_nil_of_length_eq_zero (by simpa using hn), h3, h4⟩
  · obtain ⟨L', e1, q⟩ := h2.pop hp
    exact .inr ⟨a, L', v, e1, h3, h4, h4', ⟨_, _, _, _, _, _, _, h5, q⟩, h6⟩
theorem rltotal_any (h : RL w F g bs L) (hl : L.length ≤ 400000) :
    Calls Try.prog 23 #[.pointer (some ⟨g, 0, none⟩)] w fun e w' => ∃ v, e = .returned (acV (joinRes bs L).1 v) ∧ Own w' w.heap.size v (joinRes bs L).1.f6 ∧ Below w.heap.size w w' := by
  obtain ⟨ps, bv, kv, h1, rfl⟩ := h
  rw [shA_len] at hl
  exact rqtotal_any h1 (by omega)
theorem rlpush_any (h : RL w F g bs L) (hl : L.length ≤ 400000) (a : S36) (A : Option Addr) (c : Nat) (hra : RdI w A a.f6) (hla : a.f6.length ≤ c) :
    Calls Try.prog 21 #[.pointer (some ⟨g, 0, none⟩), acV a (.slice A a.f6.length c)] w fun e w' =>
      ((joinRes bs [(joinRes bs L).1, a]).2 ≠ 0 ∧ e = .returned (.int .i64 1700) ∧ Below w.heap.size w w') ∨
      ((joinRes bs [(joinRes bs L).1, a]).2 = 0 ∧ e = .returned (.int .i64 0) ∧ RL w' (Gr F w w') g bs (L ++ [a]) ∧ Chg F w w') := by
  obtain ⟨ps, bv, kv, h1, rfl⟩ := h
  rw [shA_len] at hl
  refine (rqpush_any h1 (by omega) a A c hra hla (fun h0 => join_short h0)).mono fun e w' hh => ?_
  rcases hh with hh | ⟨h0, h3, va, kv', h4, h5⟩
  · exact .inl hh
  · exact .inr ⟨h0, h3, ⟨_, _, _, h4, by simp [shA]⟩, h5⟩
theorem rlpop_any (h : RL w F g bs L) (hl : L.length ≤ 400000) :
    Calls Try.prog 16 #[.pointer (some ⟨g, 0, none⟩)] w fun e w' =>
      (L = [] ∧ e = .returned (.tuple #[acV z36 (.slice none 0 0), .int .i64 1701]) ∧ Below w.heap.size w w') ∨
      ∃ (a : S36) (L' : List S36) (v : Value), L = a :: L' ∧ e = .returned (.tuple #[acV a v, .int .i64 0]) ∧ Own w' 0 v a.f6 ∧ RL w' (Gr F w w') g bs L' ∧ Chg F w w' := by
  obtain ⟨ps, bv, kv, h1, rfl⟩ := h
  rw [shA_len] at hl
  refine (rqpop_any h1 (by omega)).mono fun e w' hh => ?_
  rcases hh with ⟨rfl, h3, h4⟩ | ⟨p, r, kv', rfl, h3, h4, h5, h6⟩
  · exact .inl ⟨rfl, h3, h4⟩
  · exact .inr ⟨p.1, shA r, p.2, rfl, h3, h4, ⟨_, _, _, h5, rfl⟩, h6⟩
theorem RL.all (h : RL w F g bs L) : ∃ bv A c, w.heap[g]? = some (rO bv (.slice A L.length c)) := by
  obtain ⟨ps, bv, kv, h1, rfl⟩ := h
  obtain ⟨A, c, rfl, _⟩ := row_form h1.ko
  exact ⟨bv, A, c, by rw [shA_len]; exact h1.blk⟩
end
end Go.Proofs.Ytfgabafbcephaaa.My

namespace Go.Proofs.Ytfgabafbcephaaa.My
open Go.RowKit Pa Go.Proofs.YtfgabafbcephaaaW.PrintWords
set_option linter.unusedSimpArgs false
structure QS (w0 w : World) (F : Nat → Prop) (g : Nat) (bs : List Int) (L : List S36) : Prop where
  q : QL w F g bs L
  new : ∀ i, F i → w0.heap.size ≤ i ∧ i < w.heap.size
  bel : Below w0.heap.size w0 w
section
variable {w0 w w1 : World} {F S : Nat → Prop} {g : Nat} {bs : List Int} {L : List S36}
theorem QS.quiet (h : QS w0 w F g bs L) (hb : Below w.heap.size w w1) : QS w0 w1 F g bs L :=
  ⟨h.q.below hb, fun i hi => ⟨(h.new i hi).1, Nat.lt_of_lt_of_le (h.new i hi).2 hb.size⟩, h.bel.trans (hb.mono h.bel.size)⟩
theorem QS.chg (h : QS w0 w F g bs L) (hc : Chg S w w1) (hS : ∀ k, S k → ¬ F k ∧ w0.heap.size ≤ k) : QS w0 w1 F g bs L :=
  ⟨h.q.keep hc (fun i hi hs => (hS i hs).1 hi), fun i hi => ⟨(h.new i hi).1, Nat.lt_of_lt_of_le (h.new i hi).2 hc.size⟩, Chg.base h.bel hc h.bel.size (fun i hi => (hS i hi).2)⟩
theorem qsnew_any (bs : List Int) (A : Option Addr) (c : Nat) (hw : Below w0.heap.size w0 w) (hr : RdI w A bs) (hc : bs.length ≤ c) (hl : bs.length ≤ 17592186044415) :
    Calls Try.prog 11 #[.slice A bs.length c] w fun e w' =>
      (bmay bs = false ∧ e = .returned (.tuple #[.pointer none, .int .i64 1700]) ∧ Below w.heap.size w w') ∨
      (bmay bs = true ∧ ∃ (g : Nat) (F : Nat → Prop), e = .returned (.tuple #[.pointer (some ⟨g, 0, none⟩), .int .i64 0]) ∧ QS w0 w' F g bs [] ∧ (∀ i, F i → w.heap.size ≤ i) ∧ Below w.heap.size w w') :=
  (qlnew_any bs A c w hr hc hl).mono fun e w' h => by
    rcases h with h | ⟨h0, g, h1, h2, h3⟩
    · exact .inl h
    · have := hw.size
      exact .inr ⟨h0, g, fun i => w.heap.size ≤ i ∧ i < w'.heap.size, h1, ⟨h2.mono (fun i hi hf => ⟨hf, hi⟩), fun i hi => ⟨by omega, hi.2⟩, hw.trans (h3.mono this)⟩, fun i hi => hi.1, h3⟩
theorem qspush_any (h : QS w0 w F g bs L) (hl : L.length ≤ 400000) (a : S36) (A : Option Addr) (c : Nat) (ha : Own w 0 (.slice A a.f6.length c) a.f6) :
    Calls Try.prog 20 #[.pointer (some ⟨g, 0, none⟩), acV a (.slice A a.f6.length c)] w fun e w' =>
      ((joinRes bs [(joinRes bs L).1, a]).2 ≠ 0 ∧ e = .returned (.int .i64 1700) ∧ Below w.heap.size w w') ∨
      ((joinRes bs [(joinRes bs L).1, a]).2 = 0 ∧ e = .returned (.int .i64 0) ∧ ∃ F', QS w0 w' F' g bs (L ++ [a]) ∧ (∀ i, F' i → F i ∨ w.heap.size ≤ i) ∧ Chg F w w') :=
  (qlpush_any h.q hl a A c ha).mono fun e w' hh => by
    rcases hh with hh | ⟨h0, h1, h2, h3⟩
    · exact .inl hh
    · have hs := h.bel.size
      have hz := h3.size
      refine .inr ⟨h0, h1, Gr F w w', ⟨h2, fun i hi => ?_, Chg.base h.bel h3 hs (fun i hi => (h.new i hi).1)⟩, fun i hi => hi.imp id (fun h => h.1), h3⟩
      rcases hi with hi | hi
      · have := h.new i hi
        omega
      · have := hi.1
        have := hi.2
        omega
theorem qspop_any (h : QS w0 w F g bs L) (hl : L.length ≤ 400000) :
    Calls Try.prog 15 #[.pointer (some ⟨g, 0, none⟩)] w fun e w' =>
      (L = [] ∧ e = .returned (.tuple #[acV z36 (.slice none 0 0), .int .i64 1701]) ∧ Below w.heap.size w w') ∨
      ∃ (a : S36) (L' : List S36) (v : Value) (F' : Nat → Prop), L = a :: L' ∧ e = .returned (.tuple #[acV a v, .int .i64 0]) ∧ Own w' 0 v a.f6 ∧ (∀ k, v.ownBlock = some k → ¬ F' k ∧ (F k ∨ w.heap.size ≤ k)) ∧ QS w0 w' F' g bs L' ∧ (∀ i, F' i → F i ∨ w.heap.size ≤ i) ∧ Chg F w w' :=
  (qlpop_any h.q hl).mono fun e w' hh => by
    rcases hh with hh | ⟨a, L', v, h0, h1, h2, h2', h3, h4⟩
    · exact .inl hh
    · have hs := h.bel.size
      have hz := h4.size
      refine .inr ⟨a, L', v, _, h0, h1, h2, fun k hk => ⟨fun hf => hf.2 hk.symm, (h2' k hk).imp id (fun h => h.1)⟩, ⟨h3, fun i hi => ?_, Chg.base h.bel h4 hs (fun i hi => (h.new i hi).1)⟩, fun i hi => hi.1.imp id (fun h => h.1), h4⟩
      rcases hi.1 with hi | hi
      · have := h.new i hi
        omega
      · have := hi.1
        have := hi.2
        omega
end
end Go.Proofs.Ytfgabafbcephaaa.My

namespace Go.Proofs.Ytfgabafbcephaaa.My
open Go.RowKit Pa Go.Proofs.YtfgabafbcephaaaW.PrintWords
set_option linter.unusedSimpArgs false
def qA : S36 := ⟨1, 5, 5, 5, ⟨0, 1, 1, 5⟩, ⟨0, 1, 1, 5⟩, [1]⟩
def qB : S36 := ⟨1, 7, 7, 7, ⟨0, 2, 2, 7⟩, ⟨0, 2, 2, 7⟩, [1]⟩
def qC : S36 := ⟨1, 7, 7, 7, ⟨1, 2, 2, 7⟩, ⟨1, 2, 2, 7⟩, [1]⟩
def qT : S36 := ⟨2, 12, 5, 7, ⟨0, 1, 1, 5⟩, ⟨0, 2, 2, 7⟩, [2]⟩
theorem q_new : bmay [] = true ∧ bmay [2, 1] = false := by decide +kernel
theorem q_one : oneRes ⟨0, 1, 1, 5⟩ [] = (qA, 0) ∧ oneRes ⟨0, 2, 2, 7⟩ [] = (qB, 0) ∧ oneRes ⟨1, 2, 2, 7⟩ [] = (qC, 0) := ⟨by kernel_rfl, by kernel_rfl, by kernel_rfl⟩
theorem q_p1 : (joinRes [] [(joinRes [] []).1, qA]).2 = 0 := by kernel_rfl
theorem q_p2 : (joinRes [] [(joinRes [] [qA]).1, qB]).2 = 0 := by kernel_rfl
theorem q_p3 : (joinRes [] [(joinRes [] [qB]).1, qC]).2 = 100 := by kernel_rfl
theorem q_tot : (joinRes [] [qA, qB]).1 = qT := by kernel_rfl
theorem rdI_none (w : World) : RdI w none [] := ⟨rfl, by simp, fun h => absurd h (by simp)⟩
theorem own_zero {w : World} {base : Nat} {v : Value} {l : List Int} (h : Own w base v l) : Own w 0 v l := own_weaken h (Nat.zero_le _)
set_option maxHeartbeats 16000000 in
set_option maxRecDepth 100000 in
theorem awake17_any (w : World) : Calls Try.prog 14 #[] w fun e w' => e = .returned (.bool true) ∧ Below w.heap.size w w' := by
  go_enter Try.func14, Try.ntmps14
  go_wp2_with fail
  refine (qsnew_any (w0 := w) [] none 0 (Below.refl _ _) (rdI_none _) (by simp) (by simp)).mono ?_
  rintro e w1 (⟨h, _⟩ | ⟨_, g, F1, rfl, hq, -, -⟩)
  · exact absurd h (by rw [q_new.1]; simp)
  have Q1 := Lib.hid hq
  clear hq
  go_wp2_with fail
  have hb : Below w1.heap.size w1 (w1.alloc (.cells #[.int .i64 2, .int .i64 1] 3)) := (Below.refl w1.heap.size w1).alloc (Nat.le_refl _) _
  have hrb : RdI (w1.alloc (.cells #[.int .i64 2, .int .i64 1] 3)) (some ⟨w1.heap.size, 0, none⟩) [2, 1] := rdI_blk (heap_alloc_new w1 (.cells #[.int .i64 2, .int .i64 1] 3)) (by decide)
  have Q2 := Lib.hid (Q1.out.quiet hb)
  have HR := Lib.hid hrb
  clear hb hrb Q1
  generalize w1.alloc (.cells #[.int .i64 2, .int .i64 1] 3) = w2 at *
  refine (qlnew_any [2, 1] (some ⟨w1.heap.size, 0, none⟩) 2 w2 HR.out (by simp) (by simp)).mono ?_
  rintro e w3 (⟨_, rfl, hb⟩ | ⟨h, _⟩)
  rotate_left 1
  · exact absurd h (by rw [q_new.2]; simp)
  have Q3 := Lib.hid (Q2.out.quiet hb)
  clear hb Q2 HR
  go_wp2_with fail
  refine (num_any _ _).mono ?_
  rintro e w' ⟨rfl, rfl⟩
  go_wp2_with fail
  refine (item17_any 0 1 1 5 _).mono ?_
  rintro e w4 ⟨rfl, hb⟩
  have Q4 := Lib.hid (Q3.out.quiet hb)
  clear hb Q3
  go_wp2_with fail
  refine (one17_any ⟨0, 1, 1, 5⟩ [] none 0 w4 (rdI_none _) (by simp)).mono ?_
  rintro e w5 ⟨v, rfl, how, hb⟩
  rw [q_one.1] at how ⊢
  have Q5 := Lib.hid (Q4.out.quiet hb)
  obtain ⟨A2, c2, rfl, _, _⟩ := how.reads
  have HO := Lib.hid how
  clear hb Q4 how
  go_wp2_with fail
  refine (qspush_any Q5.out (by simp) qA A2 c2 (own_zero HO.out)).mono ?_
  rintro e w6 (⟨h0, _⟩ | ⟨-, rfl, F2, hq, -, -⟩)
  · exact absurd q_p1 h0
  have Q6 := Lib.hid hq
  clear hq Q5 HO
  go_wp2_with fail
  refine (item17_any 0 2 2 7 _).mono ?_
  rintro e w7 ⟨rfl, hb⟩
  have Q7 := Lib.hid (Q6.out.quiet hb)
  clear hb Q6
  go_wp2_with fail
  refine (one17_any ⟨0, 2, 2, 7⟩ [] none 0 w7 (rdI_none _) (by simp)).mono ?_
  rintro e w8 ⟨v, rfl, how, hb⟩
  rw [q_one.2.1] at how ⊢
  have Q8 := Lib.hid (Q7.out.quiet hb)
  obtain ⟨A3, c3, rfl, _, _⟩ := how.reads
  have HO := Lib.hid how
  clear hb Q7 how
  go_wp2_with fail
  refine (qspush_any Q8.out (by simp) qB A3 c3 (own_zero HO.out)).mono ?_
  rintro e w9 (⟨h0, _⟩ | ⟨-, rfl, F3, hq, -, -⟩)
  · exact absurd q_p2 h0
  have Q9 := Lib.hid (show QS w w9 F3 g [] [qA, qB] from hq)
  clear hq Q8 HO
  go_wp2_with fail
  refine (qltotal_any Q9.out.q (by simp)).mono ?_
  rintro e wa ⟨v, rfl, how, hb⟩
  rw [q_tot] at how ⊢
  obtain ⟨A4, c4, rfl, _, _⟩ := how.reads
  have hal : Below wa.heap.size wa (wa.alloc (acO qT (.slice A4 1 c4))) := (Below.refl _ _).alloc (Nat.le_refl _) _
  have Qa := Lib.hid ((Q9.out.quiet hb).quiet hal)
  have VT := Lib.hid (heap_alloc_new wa (acO qT (.slice A4 1 c4)))
  have NT := Lib.hid (show ¬ F3 wa.heap.size from fun h => by have := ((Q9.out.quiet hb).new _ h).2; omega)
  clear hb how hal Q9
  simp only [acV, qT, List.length_cons, List.length_nil, Nat.zero_add, Nat.reduceAdd]
  go_wp2_with fail
  show Calls _ _ _ (wa.alloc (acO qT (.slice A4 1 c4))) _
  generalize wa.alloc (acO qT (.slice A4 1 c4)) = wb at *
  generalize wa.heap.size = tb at *
  refine (qspop_any Qa.out (by simp)).mono ?_
  rintro e wc (⟨h, _⟩ | ⟨a, L', v, F4, hL, rfl, how, -, hq, hF, hc⟩)
  · cases h
  injection hL with h1 h2
  subst h1 h2
  have VT2 := Lib.hid (hc.obj VT.out NT.out)
  have hlt := blk_lt VT.out
  have NT2 := Lib.hid (show ¬ F4 tb from fun h => (hF _ h).elim NT.out (fun h => by omega))
  obtain ⟨A5, c5, rfl, _, _⟩ := how.reads
  have hal : Below wc.heap.size wc (wc.alloc (acO qA (.slice A5 1 c5))) := (Below.refl _ _).alloc (Nat.le_refl _) _
  have Qc := Lib.hid (hq.quiet hal)
  have VX := Lib.hid (heap_alloc_new wc (acO qA (.slice A5 1 c5)))
  have NX := Lib.hid (show ¬ F4 wc.heap.size from fun h => by have := (hq.new _ h).2; omega)
  have VT3 := Lib.hid (blk_below VT2.out hal)
  clear hq hF hc how hal VT VT2 NT hlt Qa
  simp only [acV, qA, List.length_cons, List.length_nil, Nat.zero_add, Nat.reduceAdd]
  go_wp2_with fail
  show Calls _ _ _ (wc.alloc (acO qA (.slice A5 1 c5))) _
  generalize wc.alloc (acO qA (.slice A5 1 c5)) = wd at *
  generalize wc.heap.size = xb at *
  refine (item17_any 1 2 2 7 _).mono ?_
  rintro e we ⟨rfl, hb⟩
  have Qe := Lib.hid (Qc.out.quiet hb)
  have VTe := Lib.hid (blk_below VT3.out hb)
  have VXe := Lib.hid (blk_below VX.out hb)
  clear hb Qc VT3 VX
  go_wp2_with fail
  refine (one17_any ⟨1, 2, 2, 7⟩ [] none 0 we (rdI_none _) (by simp)).mono ?_
  rintro e wf ⟨v, rfl, how, hb⟩
  rw [q_one.2.2] at how ⊢
  have Qf := Lib.hid (Qe.out.quiet hb)
  have VTf := Lib.hid (blk_below VTe.out hb)
  have VXf := Lib.hid (blk_below VXe.out hb)
  obtain ⟨A6, c6, rfl, _, _⟩ := how.reads
  have HO := Lib.hid how
  clear hb Qe how VTe VXe
  go_wp2_with fail
  refine (qspush_any Qf.out (by simp) qC A6 c6 (own_zero HO.out)).mono ?_
  rintro e wg (⟨-, rfl, hb⟩ | ⟨h0, _⟩)
  rotate_left 1
  · exact absurd h0 (by rw [q_p3]; decide)
  have Qg := Lib.hid (Qf.out.quiet hb)
  have VTg := Lib.hid (blk_below VTf.out hb)
  have VXg := Lib.hid (blk_below VXf.out hb)
  clear hb Qf HO VTf VXf
  go_wp2_with fail
  refine (qspop_any Qg.out (by simp)).mono ?_
  rintro e wh (⟨h, _⟩ | ⟨a, L', v, F5, hL, rfl, how, -, hq, hF, hc⟩)
  · cases h
  injection hL with h1 h2
  subst h1 h2
  have VT2 := Lib.hid (hc.obj VTg.out NT2.out)
  have VX2 := Lib.hid (hc.obj VXg.out NX.out)
  have hlt := blk_lt VTg.out
  have hlx := blk_lt VXg.out
  have NT5 := Lib.hid (show ¬ F5 tb from fun h => (hF _ h).elim NT2.out (fun h => by omega))
  have NX5 := Lib.hid (show ¬ F5 xb from fun h => (hF _ h).elim NX.out (fun h => by omega))
  obtain ⟨A7, c7, rfl, _, _⟩ := how.reads
  have hal : Below wh.heap.size wh (wh.alloc (acO qB (.slice A7 1 c7))) := (Below.refl _ _).alloc (Nat.le_refl _) _
  have Qh := Lib.hid (hq.quiet hal)
  have VYh := Lib.hid (heap_alloc_new wh (acO qB (.slice A7 1 c7)))
  have VTh := Lib.hid (blk_below VT2.out hal)
  have VXh := Lib.hid (blk_below VX2.out hal)
  clear hq hF hc how hal VT2 VX2 NT2 NX hlt hlx Qg VTg VXg
  simp only [acV, qB, List.length_cons, List.length_nil, Nat.zero_add, Nat.reduceAdd]
  go_wp2_with fail
  show Calls _ _ _ (wh.alloc (acO qB (.slice A7 1 c7))) _
  generalize wh.alloc (acO qB (.slice A7 1 c7)) = wi at *
  generalize wh.heap.size = yb at *
  refine (qspop_any Qh.out (by simp)).mono ?_
  rintro e wj (⟨-, rfl, hb⟩ | ⟨a, L', v, F6, hL, _⟩)
  rotate_left 1
  · cases hL
  have hal : Below wj.heap.size wj (wj.alloc (acO z36 (.slice none 0 0))) := (Below.refl _ _).alloc (Nat.le_refl _) _
  have Qj := Lib.hid ((Qh.out.quiet hb).quiet hal)
  have VTj := blk_below (blk_below VTh.out hb) hal
  have VXj := blk_below (blk_below VXh.out hb) hal
  have VYj := blk_below (blk_below VYh.out hb) hal
  clear hb hal Qh VTh VXh VYh
  have VTk := Lib.hid VTj
  have VXk := Lib.hid VXj
  have VYk := Lib.hid VYj
  clear VTj VXj VYj
  simp only [acV, z36, z34]
  go_wp2_with fail
  change Calls _ _ _ (wj.alloc (acO z36 (.slice none 0 0))) _
  generalize wj.alloc (acO z36 (.slice none 0 0)) = wk at *
  obtain ⟨x0, x1, x2, x3, x4, x5, x6, x7, x8, x9, x10, x11, x12, xl⟩ := acO_facts VTk.out
  obtain ⟨y0, y1, y2, y3, y4, y5, y6, y7, y8, y9, y10, y11, y12, yl⟩ := acO_facts VXk.out
  obtain ⟨z0, z1, z2, z3, z4, z5, z6, z7, z8, z9, z10, z11, z12, zl⟩ := acO_facts VYk.out
  clear x2 x3 x4 x5 x6 x7 x8 x9 x10 x11 x12 y0 y2 y3 y4 y5 y6 y7 y8 y9 y10 y11 y12 z0 z2 z3 z4 z5 z6 z7 z8 z9 z10 z11 z12
  simp only [qT, qA, qB] at x0 x1 y1 z1
  refine (num_any _ _).mono ?_
  rintro e w' ⟨rfl, rfl⟩
  iterate 6 (
    go_wp2_with fail
    refine (num_any _ _).mono ?_
    rintro e w' ⟨rfl, rfl⟩)
  go_wp2_with fail
  refine (qllen_any Qj.out.q (by simp)).mono ?_
  rintro e wl ⟨rfl, hb⟩
  go_wp2_with fail
  go_ret
  exact ⟨rfl, (Qj.out.quiet hb).bel⟩
end Go.Proofs.Ytfgabafbcephaaa.My

namespace Go.Proofs.Ytfgabafbcephaaa.My
open Go.RowKit Pa Go.Proofs.YtfgabafbcephaaaW.PrintWords
set_option linter.unusedSimpArgs false

def marks (l : List Int) : List Int := l ++ [-7777, -8888]
theorem marks_len (l : List Int) : (marks l).length = l.length + 2 := by simp [marks]
def Lent (w : World) (base b cap : Nat) (l : List Int) : Prop := Own w base (.slice (some ⟨b, 0, none⟩) (l.length + 2) cap) (marks l)
theorem Own.cap {w : World} {base b n cap : Nat} {l : List Int} (h : Own w base (.slice (some ⟨b, 0, none⟩) n cap) l) : l.length ≤ cap ∧ cap ≤ maxLen := by
  obtain ⟨A, c, e, _, _⟩ := h.reads
  injection e with e1 e2 e3
  subst e2
  exact row_cap h
theorem Lent.rd {w : World} {base b cap : Nat} {l : List Int} (h : Lent w base b cap l) : RdI w (some ⟨b, 0, none⟩) l ∧ l.length + 2 ≤ cap := by
  obtain ⟨A, c, e, hl, hr⟩ := Own.reads h
  injection e with e1 e2 e3
  subst e1 e3
  rw [marks_len] at hl
  refine ⟨⟨rfl, by have := hr.2.1; rw [marks_len] at this; omega, fun hp => ?_⟩, hl⟩
  obtain ⟨ad, e, hc⟩ := hr.2.2 (by rw [marks_len]; omega)
  refine ⟨ad, e, fun j p hj => hc j p ?_⟩
  have hjl := (List.getElem?_eq_some_iff.1 hj).1
  unfold marks
  rw [List.getElem?_append_left hjl]
  exact hj
theorem spoil_len : ∀ (l : List Int) (n k i : Nat), i + n = l.length → n < k → l.length ≤ 17592186044415 → ∃ r, bournelaw0_SpoilInts.l0 k l i = some r
  | l, 0, k, i, hi, hk, hl => by
    obtain ⟨k, rfl⟩ : ∃ m, k = m + 1 := ⟨k - 1, by omega⟩
    unfold bournelaw0_SpoilInts.l0
    rw [if_neg (by omega)]
    exact ⟨_, rfl⟩
  | l, n + 1, k, i, hi, hk, hl => by
    obtain ⟨k, rfl⟩ : ∃ m, k = m + 1 := ⟨k - 1, by omega⟩
    unfold bournelaw0_SpoilInts.l0
    rw [if_pos (by omega), if_pos (by omega), wrap_up (by omega)]
    exact spoil_len _ n k (i + 1) (by rw [List.length_set]; omega) (by omega) (by rw [List.length_set]; exact hl)
theorem spoilI_any (l : List Int) (v : Value) (w0 w : World) (hb : Below w0.heap.size w0 w) (ho : Own w w0.heap.size v l) (hl : l.length ≤ 17592186044415) :
    Calls Try.prog 18 #[v] w fun e w' => e = .returned (.tuple #[]) ∧ Below w0.heap.size w0 w' ∧ Kept w w' (fun k => some k = v.ownBlock) := by
  obtain ⟨r, hr⟩ := spoil_len l l.length (l.length + 1) 0 (by omega) (by omega) hl
  exact (bournelaw0_SpoilInts.calls (l.length + 1) (fun k => some k = v.ownBlock) v l r w0 w hb (Kd.R_of_own ho (fun k hk => hk.symm)) hr).mono fun e w' ⟨he, _, hb, hk⟩ => ⟨he, hb, hk⟩
end Go.Proofs.Ytfgabafbcephaaa.My

namespace Go.Proofs.Ytfgabafbcephaaa.My
open Go.RowKit Pa Go.Proofs.YtfgabafbcephaaaW.PrintWords
set_option linter.unusedSimpArgs false
def popR : List S36 → S36 × Int × List S36
  | [] => (z36, 1701, [])
  | a :: r => (a, 0, r)
def pushR (bs : List Int) (L : List S36) (a : S36) : Int × List S36 := if (joinRes bs [(joinRes bs L).1, a]).2 = 0 then (0, L ++ [a]) else (1700, L)
theorem own_rebase {w : World} {base base' n size : Nat} {e : TypeId} {v : Value} {xs : List Value} (h : w.ownsRow base e size v n xs) (hb : ∀ k, v.ownBlock = some k → base' ≤ k) : w.ownsRow base' e size v n xs := by
  obtain ⟨h1, h2⟩ := h
  refine ⟨h1, ?_⟩
  rcases h2 with h2 | ⟨g, cap, cur, e1, _, hh⟩
  · exact .inl h2
  · exact .inr ⟨g, cap, cur, e1, hb g (by rw [e1]; rfl), hh⟩
theorem own_rd {w : World} {base n c : Nat} {A : Option Addr} {l : List Int} (h : Own w base (.slice A n c) l) : l.length ≤ c ∧ RdI w A l := by
  obtain ⟨A', c', e, h1, h2⟩ := h.reads
  injection e with e1 _ e3
  subst e1 e3
  exact ⟨h1, h2⟩
structure QP (w0 w : World) (F R : Nat → Prop) (g r : Nat) (bs : List Int) (L M : List S36) : Prop where
  q : QS w0 w F g bs L
  r : RL w R r bs M
  newR : ∀ i, R i → w0.heap.size ≤ i ∧ i < w.heap.size
  dis : ∀ i, F i → ¬ R i
section
variable {w0 w w1 : World} {F R S : Nat → Prop} {g r : Nat} {bs : List Int} {L M : List S36}
theorem QP.quiet (h : QP w0 w F R g r bs L M) (hb : Below w.heap.size w w1) : QP w0 w1 F R g r bs L M :=
  ⟨h.q.quiet hb, h.r.below hb, fun i hi => ⟨(h.newR i hi).1, Nat.lt_of_lt_of_le (h.newR i hi).2 hb.size⟩, h.dis⟩
theorem QP.chg (h : QP w0 w F R g r bs L M) (hc : Chg S w w1) (hS : ∀ k, S k → ¬ F k ∧ ¬ R k ∧ w0.heap.size ≤ k) : QP w0 w1 F R g r bs L M :=
  ⟨h.q.chg hc (fun k hk => ⟨(hS k hk).1, (hS k hk).2.2⟩), h.r.keep hc (fun i hi hs => (hS i hs).2.1 hi), fun i hi => ⟨(h.newR i hi).1, Nat.lt_of_lt_of_le (h.newR i hi).2 hc.size⟩, h.dis⟩
theorem QP.qop {F' : Nat → Prop} {L' : List S36} (h : QP w0 w F R g r bs L M) (hq : QS w0 w1 F' g bs L') (hF : ∀ i, F' i → F i ∨ w.heap.size ≤ i) (hc : Chg F w w1) : QP w0 w1 F' R g r bs L' M :=
  ⟨hq, h.r.keep hc (fun i hi hs => h.dis i hs hi), fun i hi => ⟨(h.newR i hi).1, Nat.lt_of_lt_of_le (h.newR i hi).2 hc.size⟩, fun i hi hr => by
    rcases hF i hi with h1 | h1
    · exact h.dis i h1 hr
    · have := (h.newR i hr).2
      omega⟩
theorem QP.rop {M' : List S36} (h : QP w0 w F R g r bs L M) (hr : RL w1 (Gr R w w1) r bs M') (hc : Chg R w w1) : QP w0 w1 F (Gr R w w1) g r bs L M' := by
  have hs := h.q.bel.size
  have hz := hc.size
  refine ⟨h.q.chg hc (fun k hk => ⟨fun hf => h.dis k hf hk, (h.newR k hk).1⟩), hr, fun i hi => ?_, fun i hi hr => ?_⟩
  · rcases hi with hi | hi
    · have := h.newR i hi
      omega
    · have := hi.1
      have := hi.2
      omega
  · rcases hr with h1 | h1
    · exact h.dis i hi h1
    · have := (h.q.new i hi).2
      have := h1.1
      omega
theorem QI.short {fs : List (S36 × S36)} {bk : List S36} {al : S36} (h : QI bs fs bk al L) : (∀ x ∈ L, x.f6.length ≤ 9) ∧ (joinRes bs L).1.f6.length ≤ 9 := by
  obtain ⟨s, gd⟩ := h.gd
  have hl := bmay_len gd.b
  have hz : ∀ x, Zs bs s x → x.f6.length ≤ 9 := fun x hx => by
    have := (amay_fit (zs_bm gd.b hx).1).len
    omega
  refine ⟨fun x hx => hz x (gd.z x hx), ?_⟩
  rw [gd.join]
  exact hz _ gd.zj.1
theorem QL.short (h : QL w F g bs L) : (∀ x ∈ L, x.f6.length ≤ 9) ∧ (joinRes bs L).1.f6.length ≤ 9 := by
  obtain ⟨fr, bk, al, bv, fv, kv, av, h1, h2⟩ := h
  exact h2.short
theorem popR_short (h : ∀ x ∈ L, x.f6.length ≤ 9) : (popR L).1.f6.length ≤ 9 := by
  cases L with
  | nil => exact Nat.zero_le _
  | cons a l => exact h a (List.mem_cons_self ..)
theorem popR_len (L : List S36) : (popR L).2.2.length ≤ L.length := by
  cases L with
  | nil => exact Nat.le_refl _
  | cons a l => exact Nat.le_succ _
theorem pushR_len (bs : List Int) (L : List S36) (a : S36) : (pushR bs L a).2.length ≤ L.length + 1 := by
  unfold pushR
  split <;> simp
theorem qppop_any (h : QP w0 w F R g r bs L M) (hl : L.length ≤ 400000) :
    Calls Try.prog 15 #[.pointer (some ⟨g, 0, none⟩)] w fun e w' => ∃ (v : Value) (F' : Nat → Prop),
      e = .returned (.tuple #[acV (popR L).1 v, .int .i64 (popR L).2.1]) ∧ Own w' w0.heap.size v (popR L).1.f6 ∧ (∀ k, v.ownBlock = some k → ¬ F' k ∧ ¬ R k) ∧ QP w0 w' F' R g r bs (popR L).2.2 M :=
  (qspop_any h.q hl).mono fun e w' hh => by
    rcases hh with ⟨rfl, h1, h2⟩ | ⟨a, L', v, F', rfl, h1, h2, h3, h4, h5, h6⟩
    · exact ⟨.slice none 0 0, F, h1, own_nil _ _ _ _, (fun k hk => by cases hk), h.quiet h2⟩
    · refine ⟨v, F', h1, own_rebase h2 (fun k hk => ?_), fun k hk => ⟨(h3 k hk).1, fun hr => ?_⟩, h.qop h4 h5 h6⟩
      · have hs := h.q.bel.size
        rcases (h3 k hk).2 with h7 | h7
        · exact (h.q.new k h7).1
        · omega
      · rcases (h3 k hk).2 with h7 | h7
        · exact h.dis k h7 hr
        · have := (h.newR k hr).2
          omega
theorem qprpop_any (h : QP w0 w F R g r bs L M) (hl : M.length ≤ 400000) :
    Calls Try.prog 16 #[.pointer (some ⟨r, 0, none⟩)] w fun e w' => ∃ (v : Value) (R' : Nat → Prop),
      e = .returned (.tuple #[acV (popR M).1 v, .int .i64 (popR M).2.1]) ∧ Own w' 0 v (popR M).1.f6 ∧ QP w0 w' F R' g r bs L (popR M).2.2 ∧ (∀ i, R' i → R i ∨ w.heap.size ≤ i) ∧ Chg R w w' :=
  (rlpop_any h.r hl).mono fun e w' hh => by
    rcases hh with ⟨rfl, h1, h2⟩ | ⟨a, L', v, rfl, h1, h2, h3, h4⟩
    · exact ⟨.slice none 0 0, R, h1, own_nil _ _ _ _, h.quiet h2, fun i hi => .inl hi, Chg.of_below h2⟩
    · exact ⟨v, Gr R w w', h1, h2, h.rop h3 h4, fun i hi => hi.imp id (fun h => h.1), h4⟩
theorem qppush_any (h : QP w0 w F R g r bs L M) (hl : L.length ≤ 400000) (a : S36) (A : Option Addr) (c : Nat) (ha : Own w 0 (.slice A a.f6.length c) a.f6) :
    Calls Try.prog 20 #[.pointer (some ⟨g, 0, none⟩), acV a (.slice A a.f6.length c)] w fun e w' => ∃ F' : Nat → Prop,
      e = .returned (.int .i64 (pushR bs L a).1) ∧ QP w0 w' F' R g r bs (pushR bs L a).2 M ∧ (∀ i, F' i → F i ∨ w.heap.size ≤ i) ∧ Chg F w w' :=
  (qspush_any h.q hl a A c ha).mono fun e w' hh => by
    unfold pushR
    rcases hh with ⟨h0, h1, h2⟩ | ⟨h0, h1, F', h2, h3, h4⟩
    · rw [if_neg h0]
      exact ⟨F, h1, h.quiet h2, fun i hi => .inl hi, Chg.of_below h2⟩
    · rw [if_pos h0]
      exact ⟨F', h1, h.qop h2 h3 h4, h3, h4⟩
theorem qprpush_any (h : QP w0 w F R g r bs L M) (hl : M.length ≤ 400000) (a : S36) (A : Option Addr) (c : Nat) (hra : RdI w A a.f6) (hla : a.f6.length ≤ c) :
    Calls Try.prog 21 #[.pointer (some ⟨r, 0, none⟩), acV a (.slice A a.f6.length c)] w fun e w' => ∃ R' : Nat → Prop,
      e = .returned (.int .i64 (pushR bs M a).1) ∧ QP w0 w' F R' g r bs L (pushR bs M a).2 ∧ (∀ i, R' i → R i ∨ w.heap.size ≤ i) ∧ Chg R w w' :=
  (rlpush_any h.r hl a A c hra hla).mono fun e w' hh => by
    unfold pushR
    rcases hh with ⟨h0, h1, h2⟩ | ⟨h0, h1, h2, h3⟩
    · rw [if_neg h0]
      exact ⟨R, h1, h.quiet h2, fun i hi => .inl hi, Chg.of_below h2⟩
    · rw [if_pos h0]
      exact ⟨Gr R w w', h1, h.rop h2 h3, fun i hi => hi.imp id (fun h => h.1), h3⟩
theorem chg_of_kept (h : Below w0.heap.size w0 w) (h1 : Below w0.heap.size w0 w1) (hk : Kept w w1 S) : Chg S w w1 :=
  ⟨h1.os.trans h.os.symm, h1.tape.trans h.tape.symm, h1.output.trans h.output.symm, hk.1, fun i hi hn => hk.2 i hi hn⟩
theorem qpspoil_any (h : QP w0 w F R g r bs L M) (v : Value) (l : List Int) (ho : Own w w0.heap.size v l) (hn : ∀ k, v.ownBlock = some k → ¬ F k ∧ ¬ R k) (hl : l.length ≤ 17592186044415) :
    Calls Try.prog 18 #[v] w fun e w' => e = .returned (.tuple #[]) ∧ QP w0 w' F R g r bs L M :=
  (spoilI_any l v w0 w h.q.bel ho hl).mono fun e w' hh => by
    obtain ⟨h1, h2, h3⟩ := hh
    have hc := chg_of_kept h.q.bel h2 h3
    exact ⟨h1, h.chg hc (fun k hk => ⟨(hn k hk.symm).1, (hn k hk.symm).2, own_base ho k hk.symm⟩)⟩
theorem lcopy_any (a : S36) (A : Option Addr) (c : Nat) (w : World) (hr : RdI w A a.f6) (hc : a.f6.length ≤ c) (hl : a.f6.length ≤ 17592186044415) :
    Calls Try.prog 19 #[acV a (.slice A a.f6.length c)] w fun e w' => ∃ v, e = .returned (acV a v) ∧ Own w' w.heap.size v a.f6 ∧ Below w.heap.size w w' :=
  (bournelaw0_CopyAcc.calls _ _ _ _ _ _ _ _ _ _ _ _ A c a.f6 a.f0 a.f1 a.f2 a.f3 a.f4.f0 a.f4.f1 a.f4.f2 a.f4.f3 a.f5.f0 a.f5.f1 a.f5.f2 a.f5.f3 a.f6 w hr hc (by
    unfold bournelaw0_CopyAcc.f
    rw [Option.bind_some, if_pos (by simp; omega)]
    rfl)).mono fun e w' ⟨v, he, ho, hb⟩ => ⟨v, he, own_of_r ho, hb⟩
end
end Go.Proofs.Ytfgabafbcephaaa.My

namespace Go.Txt3
open Go.RowKit Go.Txt
open Go.Txt2 (Kx)

inductive Ck where
  | p
  | re
  | rl
  | m
  | c
  | e
  | a
  | r
  deriving DecidableEq

def stepF (S : Nat → Prop) (P : Program) (wb : World) (k : Ck) (s : Sem Next) (w : World) (F : Tr → World → Prop) : Prop :=
  match k with
  | .p => ∃ v, (∀ w1, s.run P w1 = .ok (.value v) w1) ∧ F (.put v) w
  | .re => Kx S wb wb w ∧ ∃ v, (∀ w1, Kx S wb wb w1 → s.run P w1 = .ok (.value v) w1) ∧ F (.put v) w
  | .rl => Kx S wb wb w ∧ ∃ v, (∀ w1, Bw w w1 → s.run P w1 = .ok (.value v) w1) ∧ F (.put v) w
  | .m => Kx S wb wb w ∧ ∃ (mk : Nat → Value) (obj : Obj), (∀ w1, s.run P w1 = .ok (.value (mk w1.heap.size)) (w1.alloc obj)) ∧ ∀ g w', Bw w w' → wb.heap.size ≤ g → w'.heap[g]? = some obj → F (.put (mk g)) w'
  | .c => Kx S wb wb w ∧ ∀ w1, Bw w w1 → outc P (s.run P w1) fun t w' => Bw w1 w' ∧ F t w'
  | .e => Kx S wb wb w ∧ ∀ w1, Bw w w1 → outc P (s.run P w1) fun t w' => Kx S wb w1 w' ∧ F t w'
  | .a => outc P (s.run P w) F
  | .r => ∃ v, s.run P w = .ok (.value v) w ∧ F (.put v) w

section
variable {S : Nat → Prop} {P : Program} {wb w : World} {k kj ki : Ck} {s sj si : Sem Next} {F G : Tr → World → Prop}

theorem stepF_mono (h : ∀ t w', (k = .c ∨ k = .a ∨ k = .e ∨ ∃ v, t = .put v) → F t w' → G t w') (hs : stepF S P wb k s w F) : stepF S P wb k s w G := by
  cases k with
  | p =>
    obtain ⟨v, h1, h2⟩ := hs
    exact ⟨v, h1, h _ _ (.inr (.inr (.inr ⟨v, rfl⟩))) h2⟩
  | re =>
    obtain ⟨h0, v, h1, h2⟩ := hs
    exact ⟨h0, v, h1, h _ _ (.inr (.inr (.inr ⟨v, rfl⟩))) h2⟩
  | rl =>
    obtain ⟨h0, v, h1, h2⟩ := hs
    exact ⟨h0, v, h1, h _ _ (.inr (.inr (.inr ⟨v, rfl⟩))) h2⟩
  | m =>
    obtain ⟨h0, mk, obj, h1, h2⟩ := hs
    exact ⟨h0, mk, obj, h1, fun g w' a1 a2 a3 => h _ _ (.inr (.inr (.inr ⟨_, rfl⟩))) (h2 g w' a1 a2 a3)⟩
  | c =>
    obtain ⟨h0, h1⟩ := hs
    exact ⟨h0, fun w1 hw => outc_mono (fun t w' hk => ⟨hk.1, h _ _ (.inl rfl) hk.2⟩) (h1 w1 hw)⟩
  | e =>
    obtain ⟨h0, h1⟩ := hs
    exact ⟨h0, fun w1 hw => outc_mono (fun t w' hk => ⟨hk.1, h _ _ (.inr (.inr (.inl rfl))) hk.2⟩) (h1 w1 hw)⟩
  | a => exact outc_mono (fun t w' hk => h _ _ (.inr (.inl rfl)) hk) hs
  | r =>
    obtain ⟨v, h1, h2⟩ := hs
    exact ⟨v, h1, h _ _ (.inr (.inr (.inr ⟨v, rfl⟩))) h2⟩

theorem stepF_some {φ : Prop} (hs : stepF S P wb k s w fun _ _ => φ) : φ := by
  cases k with
  | p => obtain ⟨v, h1, h2⟩ := hs; exact h2
  | re => obtain ⟨h0, v, h1, h2⟩ := hs; exact h2
  | rl => obtain ⟨h0, v, h1, h2⟩ := hs; exact h2
  | m =>
    obtain ⟨h0, mk, obj, h1, h2⟩ := hs
    exact h2 w.heap.size (w.alloc obj) (Bw.alloc w obj) h0.size (heap_alloc_new w obj)
  | c =>
    obtain ⟨h0, h1⟩ := hs
    exact outc_some (outc_mono (fun _ _ hk => hk.2) (h1 w (Bw.refl w)))
  | e =>
    obtain ⟨h0, h1⟩ := hs
    exact outc_some (outc_mono (fun _ _ hk => hk.2) (h1 w (Bw.refl w)))
  | a => exact outc_some hs
  | r => obtain ⟨v, h1, h2⟩ := hs; exact h2

def swapK (kj ki : Ck) : Bool :=
  match kj, ki with
  | .p, _ => true
  | _, .p => true
  | .re, .re => true
  | .re, .rl => true
  | .rl, .re => true
  | .rl, .rl => true
  | .re, .m => true
  | .rl, .m => true
  | .re, .c => true
  | .rl, .c => true
  | .m, .re => true
  | .c, .re => true
  | .m, .m => true
  | .e, .re => true
  | .e, .m => true
  | .re, .e => true
  | .c, .m => true
  | .r, .r => true
  | _, _ => false

theorem swap_p {H : Tr → Tr → World → Prop} (h : stepF S P wb .p sj w fun tj w1 => stepF S P wb ki si w1 fun ti w2 => H tj ti w2) : stepF S P wb ki si w fun ti w1 => stepF S P wb .p sj w1 fun tj w2 => H tj ti w2 := by
  obtain ⟨v, h1, h2⟩ := h
  exact stepF_mono (fun t w' _ hk => ⟨v, h1, hk⟩) h2

theorem swap_ip {H : Tr → Tr → World → Prop} (h : stepF S P wb kj sj w fun tj w1 => stepF S P wb .p si w1 fun ti w2 => H tj ti w2) : stepF S P wb .p si w fun ti w1 => stepF S P wb kj sj w1 fun tj w2 => H tj ti w2 := by
  obtain ⟨v, hv⟩ : ∃ v, ∀ w1, si.run P w1 = .ok (.value v) w1 := stepF_some (stepF_mono (fun t w' _ hk => by obtain ⟨v, h1, _⟩ := hk; exact ⟨v, h1⟩) h)
  refine ⟨v, hv, stepF_mono (fun t w' _ hk => ?_) h⟩
  obtain ⟨u, hu, hk⟩ := hk
  have := (value_inj ((hv w').symm.trans (hu w'))).1
  rw [this]
  exact hk

theorem swap_ire {H : Tr → Tr → World → Prop} (hw : Kx S wb wb w) (h : stepF S P wb kj sj w fun tj w1 => stepF S P wb .re si w1 fun ti w2 => H tj ti w2) : stepF S P wb .re si w fun ti w1 => stepF S P wb kj sj w1 fun tj w2 => H tj ti w2 := by
  obtain ⟨v, hv⟩ : ∃ v, ∀ w1, Kx S wb wb w1 → si.run P w1 = .ok (.value v) w1 := stepF_some (stepF_mono (fun t w' _ hk => by obtain ⟨_, v, h1, _⟩ := hk; exact ⟨v, h1⟩) h)
  refine ⟨hw, v, hv, stepF_mono (fun t w' _ hk => ?_) h⟩
  obtain ⟨h0, u, hu, hk⟩ := hk
  have := (value_inj ((hv wb (Kx.refl S wb wb)).symm.trans (hu wb (Kx.refl S wb wb)))).1
  rw [this]
  exact hk

theorem stepF_swap (hk : swapK kj ki = true) {H : Tr → Tr → World → Prop} (h : stepF S P wb kj sj w fun tj w1 => stepF S P wb ki si w1 fun ti w2 => H tj ti w2) : stepF S P wb ki si w fun ti w1 => stepF S P wb kj sj w1 fun tj w2 => H tj ti w2 := by
  cases ki with
  | p => exact swap_ip h
  | re =>
    cases kj with
    | p => exact swap_p h
    | re => exact swap_ire h.1 h
    | rl => exact swap_ire h.1 h
    | m => exact swap_ire h.1 h
    | c => exact swap_ire h.1 h
    | e => exact swap_ire h.1 h
    | a => exact absurd hk (by decide)
    | r => exact absurd hk (by decide)
  | rl =>
    cases kj with
    | p => exact swap_p h
    | re =>
      obtain ⟨h0, v, h1, _, u, h2, h3⟩ := h
      exact ⟨h0, u, h2, h0, v, h1, h3⟩
    | rl =>
      obtain ⟨h0, v, h1, _, u, h2, h3⟩ := h
      exact ⟨h0, u, h2, h0, v, h1, h3⟩
    | m => exact absurd hk (by decide)
    | c => exact absurd hk (by decide)
    | e => exact absurd hk (by decide)
    | a => exact absurd hk (by decide)
    | r => exact absurd hk (by decide)
  | m =>
    cases kj with
    | p => exact swap_p h
    | re =>
      obtain ⟨h0, v, h1, _, mk, obj, h2, h3⟩ := h
      exact ⟨h0, mk, obj, h2, fun g w' a1 a2 a3 => ⟨h0.then_ a1, v, h1, h3 g w' a1 a2 a3⟩⟩
    | rl =>
      obtain ⟨h0, v, h1, _, mk, obj, h2, h3⟩ := h
      exact ⟨h0, mk, obj, h2, fun g w' a1 a2 a3 => ⟨h0.then_ a1, v, fun w1 hb => h1 w1 (a1.trans hb), h3 g w' a1 a2 a3⟩⟩
    | m =>
      obtain ⟨h0, mkj, oj, h1, h2⟩ := h
      have hi := h2 w.heap.size (w.alloc oj) (Bw.alloc w oj) h0.size (heap_alloc_new w oj)
      obtain ⟨_, mki, oi, h3, _⟩ := hi
      refine ⟨h0, mki, oi, h3, fun gi wi a1 a2 a3 => ⟨h0.then_ a1, mkj, oj, h1, fun gj wj b1 b2 b3 => ?_⟩⟩
      obtain ⟨_, mki', oi', h3', h4⟩ := h2 gj wj (a1.trans b1) b2 b3
      have e := (h3 wb).symm.trans (h3' wb)
      obtain ⟨e1, e2⟩ := value_inj e
      have eo : oi = oi' := by
        have := congrArg (fun w : World => w.heap[wb.heap.size]?) e2
        simp only [heap_alloc_new] at this
        exact Option.some.inj this
      subst eo
      have em : ∀ n, n = wb.heap.size → mki n = mki' n := fun n hn => by rw [hn]; exact e1
      clear em
      have all : mki gi = mki' gi := by
        have hgi := (h3 ⟨Array.replicate gi (Obj.chan 0 #[] false 0 0 false), wb.tape, wb.drawn, wb.os, wb.output⟩).symm.trans (h3' ⟨Array.replicate gi (Obj.chan 0 #[] false 0 0 false), wb.tape, wb.drawn, wb.os, wb.output⟩)
        have := (value_inj hgi).1
        simpa using this
      rw [all]
      exact h4 gi wj (Bw.refl _) a2 (b1.obj a3)
    | c =>
      obtain ⟨h0, h1⟩ := h
      obtain ⟨mki, oi, h3⟩ : ∃ (mk : Nat → Value) (obj : Obj), ∀ w1, si.run P w1 = .ok (.value (mk w1.heap.size)) (w1.alloc obj) :=
        outc_some (outc_mono (fun _ _ hk => by obtain ⟨_, _, mk, obj, h3, _⟩ := hk; exact ⟨mk, obj, h3⟩) (h1 w (Bw.refl w)))
      refine ⟨h0, mki, oi, h3, fun gi wi a1 a2 a3 => ⟨h0.then_ a1, fun w1 b1 => outc_mono (fun t w' hk => ⟨hk.1, ?_⟩) (h1 w1 (a1.trans b1))⟩⟩
      obtain ⟨hk1, _, mki', oi', h3', h4⟩ := hk
      have all : ∀ n, mki n = mki' n := fun n => by
        have hgi := (h3 ⟨Array.replicate n (Obj.chan 0 #[] false 0 0 false), wb.tape, wb.drawn, wb.os, wb.output⟩).symm.trans (h3' ⟨Array.replicate n (Obj.chan 0 #[] false 0 0 false), wb.tape, wb.drawn, wb.os, wb.output⟩)
        have := (value_inj hgi).1
        simpa using this
      have eo : oi = oi' := by
        have := congrArg (fun w : World => w.heap[wb.heap.size]?) (value_inj ((h3 wb).symm.trans (h3' wb))).2
        simp only [heap_alloc_new] at this
        exact Option.some.inj this
      subst eo
      rw [all]
      exact h4 gi w' (Bw.refl _) a2 ((b1.trans hk1).obj a3)
    | e =>
      obtain ⟨h0, h1⟩ := h
      obtain ⟨mki, oi, h3⟩ : ∃ (mk : Nat → Value) (obj : Obj), ∀ w1, si.run P w1 = .ok (.value (mk w1.heap.size)) (w1.alloc obj) :=
        outc_some (outc_mono (fun _ _ hk => by obtain ⟨_, _, mk, obj, h3, _⟩ := hk; exact ⟨mk, obj, h3⟩) (h1 w (Bw.refl w)))
      refine ⟨h0, mki, oi, h3, fun gi wi a1 a2 a3 => ⟨h0.then_ a1, fun w1 b1 => outc_mono (fun t w' hk => ⟨hk.1, ?_⟩) (h1 w1 (a1.trans b1))⟩⟩
      obtain ⟨hk1, _, mki', oi', h3', h4⟩ := hk
      have all : ∀ n, mki n = mki' n := fun n => by
        have hgi := (h3 ⟨Array.replicate n (Obj.chan 0 #[] false 0 0 false), wb.tape, wb.drawn, wb.os, wb.output⟩).symm.trans (h3' ⟨Array.replicate n (Obj.chan 0 #[] false 0 0 false), wb.tape, wb.drawn, wb.os, wb.output⟩)
        have := (value_inj hgi).1
        simpa using this
      have eo : oi = oi' := by
        have := congrArg (fun w : World => w.heap[wb.heap.size]?) (value_inj ((h3 wb).symm.trans (h3' wb))).2
        simp only [heap_alloc_new] at this
        exact Option.some.inj this
      subst eo
      rw [all]
      exact h4 gi w' (Bw.refl _) a2 (hk1.obj (b1.obj a3) a2)
    | a => exact absurd hk (by decide)
    | r => exact absurd hk (by decide)
  | c =>
    cases kj with
    | p => exact swap_p h
    | re =>
      obtain ⟨h0, v, h1, _, h2⟩ := h
      exact ⟨h0, fun w1 hw => outc_mono (fun t w' hk => ⟨hk.1, (h0.then_ hw).then_ hk.1, v, h1, hk.2⟩) (h2 w1 hw)⟩
    | rl =>
      obtain ⟨h0, v, h1, _, h2⟩ := h
      exact ⟨h0, fun w1 hw => outc_mono (fun t w' hk => ⟨hk.1, (h0.then_ hw).then_ hk.1, v, fun w2 hb => h1 w2 ((hw.trans hk.1).trans hb), hk.2⟩) (h2 w1 hw)⟩
    | m => exact absurd hk (by decide)
    | c => exact absurd hk (by decide)
    | e => exact absurd hk (by decide)
    | a => exact absurd hk (by decide)
    | r => exact absurd hk (by decide)
  | e =>
    cases kj with
    | p => exact swap_p h
    | re =>
      obtain ⟨h0, v, h1, _, h2⟩ := h
      exact ⟨h0, fun w1 hw => outc_mono (fun t w' hk => ⟨hk.1, (h0.then_ hw).trans hk.1, v, h1, hk.2⟩) (h2 w1 hw)⟩
    | rl => exact absurd hk (by decide)
    | m => exact absurd hk (by decide)
    | c => exact absurd hk (by decide)
    | e => exact absurd hk (by decide)
    | a => exact absurd hk (by decide)
    | r => exact absurd hk (by decide)
  | a =>
    cases kj with
    | p => exact swap_p h
    | re => exact absurd hk (by decide)
    | rl => exact absurd hk (by decide)
    | m => exact absurd hk (by decide)
    | c => exact absurd hk (by decide)
    | e => exact absurd hk (by decide)
    | a => exact absurd hk (by decide)
    | r => exact absurd hk (by decide)
  | r =>
    cases kj with
    | p => exact swap_p h
    | r =>
      obtain ⟨v, h1, u, h2, h3⟩ := h
      exact ⟨u, h2, v, h1, h3⟩
    | re => exact absurd hk (by decide)
    | rl => exact absurd hk (by decide)
    | m => exact absurd hk (by decide)
    | c => exact absurd hk (by decide)
    | e => exact absurd hk (by decide)
    | a => exact absurd hk (by decide)

theorem outc_of_stepF (hs : stepF S P wb k s w F) : outc P (s.run P w) F := by
  cases k with
  | p => obtain ⟨v, h1, h2⟩ := hs; rw [h1]; exact h2
  | re => obtain ⟨h0, v, h1, h2⟩ := hs; rw [h1 w h0]; exact h2
  | rl => obtain ⟨h0, v, h1, h2⟩ := hs; rw [h1 w (Bw.refl w)]; exact h2
  | m =>
    obtain ⟨h0, mk, obj, h1, h2⟩ := hs
    rw [h1]
    exact h2 _ _ (Bw.alloc w obj) h0.size (heap_alloc_new w obj)
  | c =>
    obtain ⟨h0, h1⟩ := hs
    exact outc_mono (fun _ _ hk => hk.2) (h1 w (Bw.refl w))
  | e =>
    obtain ⟨h0, h1⟩ := hs
    exact outc_mono (fun _ _ hk => hk.2) (h1 w (Bw.refl w))
  | a => exact hs
  | r => obtain ⟨v, h1, h2⟩ := hs; rw [h1]; exact h2
end

section
variable {V : List (Nat × Ck)} {S : Nat → Prop} {P : Program} {ops : Array Oper} {wb : World}

def stepM (S : Nat → Prop) (P : Program) (ops : Array Oper) (wb : World) (k : Ck) (o : Oper) (K : Act → World → Prop) (a : Act) (w : World) : Prop :=
  if Region.wanted o (yielded ops a.tmps) then stepF S P wb k (execOp a.eval o) w fun t w' => K (t.on o.dst a) w' else K ((Tr.put undef).on o.dst a) w

theorem stepM_mono {k : Ck} {o : Oper} {K K' : Act → World → Prop} {a : Act} {w : World} (h : ∀ a w, K a w → K' a w) (hs : stepM S P ops wb k o K a w) : stepM S P ops wb k o K' a w := by
  unfold stepM at *
  split
  · rename_i hw
    rw [if_pos hw] at hs
    exact stepF_mono (fun _ _ _ he => h _ _ he) hs
  · rename_i hw
    rw [if_neg hw] at hs
    exact h _ _ hs

theorem swapK_put {kj ki : Ck} (h : swapK kj ki = true) : (kj ≠ .c ∧ kj ≠ .a ∧ kj ≠ .e) ∨ (ki ≠ .c ∧ ki ≠ .a ∧ ki ≠ .e) := by
  cases kj <;> cases ki <;> first | exact absurd h (by decide) | (left; refine ⟨?_, ?_, ?_⟩ <;> (intro hh; cases hh); done) | (right; refine ⟨?_, ?_, ?_⟩ <;> (intro hh; cases hh); done)

theorem stepM_swap {kj ki : Ck} {oi oj : Oper} (hap : oj.apart ops oi = true) (hsi : ∀ cs b, oi.op ≠ .select cs b) (hsj : ∀ cs b, oj.op ≠ .select cs b) (hk : swapK kj ki = true) {K : Act → World → Prop} {a : Act} {w : World}
    (h : stepM S P ops wb kj oj (stepM S P ops wb ki oi K) a w) : stepM S P ops wb ki oi (stepM S P ops wb kj oj K) a w := by
  obtain ⟨h1, h2, h3⟩ := Oper.apart_spec hap
  have ej : ∀ (t : Tr), execOp (t.on oi.dst a).eval oj = execOp a.eval oj := fun t => exec_on t _ _ oj hsj h3
  have wj : ∀ (t : Tr), Region.wanted oj (yielded ops (t.on oi.dst a).tmps) = Region.wanted oj (yielded ops a.tmps) := fun t => wanted_on t _ _ oj h3
  have ei : ∀ (t : Tr), execOp (t.on oj.dst a).eval oi = execOp a.eval oi := fun t => exec_on t _ _ oi hsi h1
  have wi : ∀ (t : Tr), Region.wanted oi (yielded ops (t.on oj.dst a).tmps) = Region.wanted oi (yielded ops a.tmps) := fun t => wanted_on t _ _ oi h1
  have cm : ∀ (ti tj : Tr), ((∃ v, ti = .put v) ∨ ∃ v, tj = .put v) → ti.on oi.dst (tj.on oj.dst a) = tj.on oj.dst (ti.on oi.dst a) := fun ti tj hh => on_comm hh _ _ a (fun d e1 e2 => h2 d e2 e1)
  unfold stepM at h ⊢
  by_cases wa : Region.wanted oj (yielded ops a.tmps) = true
  · by_cases wb' : Region.wanted oi (yielded ops a.tmps) = true
    · rw [if_pos wa] at h
      rw [if_pos wb']
      simp only [wi, if_pos wb', ei] at h
      simp only [wj, if_pos wa, ej]
      have hs := stepF_swap hk (H := fun tj ti w2 => K (ti.on oi.dst (tj.on oj.dst a)) w2) h
      refine stepF_mono (fun ti w1 hti hk1 => stepF_mono (fun tj w2 htj hk2 => ?_) hk1) hs
      rw [← cm ti tj ?_]
      · exact hk2
      · rcases swapK_put hk with ⟨n1, n2, n3⟩ | ⟨n1, n2, n3⟩
        · exact .inr (((htj.resolve_left n1).resolve_left n2).resolve_left n3)
        · exact .inl (((hti.resolve_left n1).resolve_left n2).resolve_left n3)
    · rw [if_pos wa] at h
      rw [if_neg wb']
      simp only [wi, if_neg wb'] at h
      simp only [wj, if_pos wa, ej]
      refine stepF_mono (fun tj w2 htj hk2 => ?_) h
      rw [← cm (.put undef) tj (.inl ⟨_, rfl⟩)]
      exact hk2
  · rw [if_neg wa] at h
    simp only [wi, ei] at h
    simp only [wj, if_neg wa]
    by_cases wb' : Region.wanted oi (yielded ops a.tmps) = true
    · rw [if_pos wb'] at h ⊢
      refine stepF_mono (fun ti w2 hti hk2 => ?_) h
      rw [← cm ti (.put undef) (.inr ⟨_, rfl⟩)]
      exact hk2
    · rw [if_neg wb'] at h ⊢
      rw [← cm (.put undef) (.put undef) (.inr ⟨_, rfl⟩)]
      exact h

theorem wpOp_of_stepM {i : Nat} {k : Ck} {o : Oper} (hi : ops[i]? = some o) {K : Act → World → Prop} {Q : Exit → Act → World → Prop} {a : Act} {w : World} (hs : stepM S P ops wb k o K a w) : wpOp P ops Q i K a w := by
  unfold stepM at hs
  unfold wpOp
  simp only [hi]
  split
  · rename_i hw
    rw [if_pos hw] at hs
    exact .inl (wp_of_outc (outc_of_stepF hs))
  · rename_i hw
    rw [if_neg hw] at hs
    exact hs

def kop : Op → Ck
  | .move _ => .p
  | .assign _ => .p
  | .pick .. => .p
  | .nilCheck _ => .p
  | .binOp .. => .p
  | .unOp .. => .p
  | .convert .. => .p
  | .fieldAddr .. => .p
  | .field .. => .p
  | .indexAddr .. => .p
  | .index .. => .p
  | .extract .. => .p
  | .slice .. => .p
  | .build .. => .p
  | .makeFunc .. => .p
  | .load .. => .re
  | .alloc _ => .m
  | .box .. => .m
  | .buildSlice .. => .m
  | .makeSlice .. => .m
  | .call c => match c.callee with
    | .builtin .len => .p
    | .builtin .append => .e
    | .builtin .cap => .p
    | .builtin .max => .p
    | .builtin .min => .p
    | .value _ => .c
    | _ => .a
  | _ => .a

def dat (ops : Array Oper) : Nat → Nat → Bool
  | 0, _ => true
  | n + 1, i => match ops[i]? with
    | some o => o.after.toList.any fun e => decide (e.ground = .data) && ((match ops[e.on]? with | some oj => decide (kop oj.op = .m) || decide (kop oj.op = .c) || decide (kop oj.op = .e) | none => false) || dat ops n e.on)
    | none => false

def kat (ops : Array Oper) (B : Array Nat) (i : Nat) (o : Oper) : Ck :=
  match kop o.op with
  | .p => .p
  | .a => .a
  | k => if (List.range i).any (fun j => match ops[j]? with | some oj => decide (kop oj.op = .a) | none => false) then .a
    else match k with
      | .re => if (List.range i).any (fun j => (B.getD i 0).testBit j && match ops[j]? with | some oj => decide (kop oj.op = .m) || decide (kop oj.op = .c) || decide (kop oj.op = .e) | none => false) && dat ops (i + 1) i then .rl else .re
      | k => k
def katV (V : List (Nat × Ck)) (ops : Array Oper) (B : Array Nat) (i : Nat) (o : Oper) : Ck :=
  match V.lookup i with
  | some k => k
  | none => kat ops B i o

def runM (V : List (Nat × Ck)) (S : Nat → Prop) (P : Program) (ops : Array Oper) (wb : World) (B : Array Nat) (Q : Act → World → Prop) : List Nat → Act → World → Prop
  | [], a, w => Q a w
  | i :: r, a, w => match ops[i]? with
    | some o => stepM S P ops wb (katV V ops B i o) o (runM V S P ops wb B Q r) a w
    | none => runM V S P ops wb B Q r a w

def orderedOrSwapsM (V : List (Nat × Ck)) (ops : Array Oper) (B : Array Nat) (j i : Nat) : Bool :=
  (B.getD i 0).testBit j || match ops[j]?, ops[i]? with
    | some oj, some oi => oj.apart ops oi && swapK (katV V ops B j oj) (katV V ops B i oi)
    | _, _ => false

def mixB (V : List (Nat × Ck)) (ops : Array Oper) (B : Array Nat) : Bool :=
  Region.noSelect ops && (List.range ops.size).all fun i =>
    (match ops[i]? with
      | some o => o.after.toList.all (fun e => !Region.binds .any e || decide (e.on < i)) && ((B.getD i 0 ||| upOf B o) == upOf B o)
      | none => true) && (List.range i).all fun j => orderedOrSwapsM V ops B j i

theorem mixB_row {B : Array Nat} (h : mixB V ops B = true) {i : Nat} {o : Oper} (hi : ops[i]? = some o) :
    (∀ e ∈ o.after, Region.binds .any e = true → e.on < i) ∧ (∀ j, (B.getD i 0).testBit j = true → ∃ e ∈ o.after, Region.binds .any e = true ∧ (e.on = j ∨ (B.getD e.on 0).testBit j = true)) ∧ ∀ j, j < i → orderedOrSwapsM V ops B j i = true := by
  have hlt : i < ops.size := (Array.getElem?_eq_some_iff.1 hi).1
  simp only [mixB, Bool.and_eq_true, List.all_eq_true, List.mem_range] at h
  have h1 := h.2 i hlt
  rw [hi] at h1
  simp only [Bool.and_eq_true, List.all_eq_true, Bool.or_eq_true, Bool.not_eq_true', decide_eq_true_eq, beq_iff_eq] at h1
  obtain ⟨⟨h2, h3⟩, h4⟩ := h1
  refine ⟨fun e he hb => ?_, fun j hj => ?_, h4⟩
  · rcases h2 e (by simpa using he) with h | h
    · rw [hb] at h; cases h
    · exact h
  · refine upOf_bit ?_
    rw [← h3, Nat.testBit_or, hj, Bool.true_or]

theorem bits_listedM {B : Array Nat} (hB : mixB V ops B = true) {listed : Array Bool} (hs : Txt.Shut ops listed) : ∀ (m i : Nat), i ≤ m → ∀ o, ops[i]? = some o → (∀ e ∈ o.after, Region.binds .any e = true → listed.getD e.on false = true) →
    ∀ j, (B.getD i 0).testBit j = true → listed.getD j false = true := by
  intro m
  induction m with
  | zero =>
    intro i hi o ho hd j hj
    obtain ⟨h1, h2, _⟩ := mixB_row hB ho
    obtain ⟨e, he, hb, _⟩ := h2 j hj
    have := h1 e he hb
    omega
  | succ m ih =>
    intro i hi o ho hd j hj
    obtain ⟨h1, h2, _⟩ := mixB_row hB ho
    obtain ⟨e, he, hb, hj⟩ := h2 j hj
    have hlt := h1 e he hb
    have hl := hd e he hb
    rcases hj with rfl | hj
    · exact hl
    · have hsz : i < ops.size := (Array.getElem?_eq_some_iff.1 ho).1
      have hoe : ops[e.on]? = some ops[e.on] := Array.getElem?_eq_getElem (by omega)
      exact ih e.on (by omega) _ hoe (fun e' he' hb' => hs _ _ hoe hl e' he' hb') j hj

theorem runM_front {B : Array Nat} {Q : Act → World → Prop} {i : Nat} {oi : Oper} (hi : ops[i]? = some oi) (hsel : ∀ (j : Nat) (o : Oper) cs b, ops[j]? = some o → o.op ≠ .select cs b) :
    ∀ (l1 l2 : List Nat) (a : Act) (w : World),
      (∀ j ∈ l1, ∃ oj, ops[j]? = some oj ∧ oj.apart ops oi = true ∧ swapK (katV V ops B j oj) (katV V ops B i oi) = true) →
      runM V S P ops wb B Q (l1 ++ i :: l2) a w → stepM S P ops wb (katV V ops B i oi) oi (runM V S P ops wb B Q (l1 ++ l2)) a w := by
  intro l1
  induction l1 with
  | nil =>
    intro l2 a w _ h
    simp only [List.nil_append, runM, hi] at h
    exact h
  | cons j r ih =>
    intro l2 a w hl h
    obtain ⟨oj, hj, hap, hc⟩ := hl j List.mem_cons_self
    simp only [List.cons_append, runM, hj] at h
    have h' : stepM S P ops wb (katV V ops B j oj) oj (stepM S P ops wb (katV V ops B i oi) oi (runM V S P ops wb B Q (r ++ l2))) a w := stepM_mono (fun b w' hb => ih l2 b w' (fun k hk => hl k (List.mem_cons_of_mem _ hk)) hb) h
    have h'' := stepM_swap hap (fun cs b => hsel i oi cs b hi) (fun cs b => hsel j oj cs b hj) hc h'
    refine stepM_mono (fun b w' hb => ?_) h''
    simp only [List.cons_append, runM, hj]
    exact hb

theorem wpAny_of_runM {B : Array Nat} (hB : mixB V ops B = true) {Q : Exit → Act → World → Prop} : ∀ (fuel : Nat) (listed : Array Bool) (a : Act) (w : World), listed.size = ops.size → Txt.Shut ops listed → (rest ops.size listed).length = fuel →
    runM V S P ops wb B (fun a w => Q .normal a w) (rest ops.size listed) a w → wpAny P .any ops Q fuel listed a w := by
  have hsel := Region.noSelect_spec (by simp only [mixB, Bool.and_eq_true] at hB; exact hB.1)
  intro fuel
  induction fuel with
  | zero =>
    intro listed a w hn hs hl h
    have hnil := List.eq_nil_of_length_eq_zero hl
    rw [hnil] at h
    refine ⟨?_, h⟩
    refine List.eq_nil_iff_forall_not_mem.2 fun i hi => ?_
    obtain ⟨h0, o, ho, _⟩ := mem_ready.1 hi
    have hlt : i < ops.size := (Array.getElem?_eq_some_iff.1 ho).1
    have : i ∈ rest ops.size listed := by
      unfold rest
      rw [List.mem_filter, List.mem_range]
      exact ⟨hlt, by rw [h0]; rfl⟩
    rw [hnil] at this
    cases this
  | succ fuel ih =>
    intro listed a w hn hs hl h
    refine ⟨fun hr => ?_, fun i hi => ?_⟩
    · exfalso
      cases hrest : rest ops.size listed with
      | nil => rw [hrest] at hl; simp at hl
      | cons x r =>
        have hx : x ∈ rest ops.size listed := by rw [hrest]; exact List.mem_cons_self
        have hex : ∀ k, (∃ i, i ≤ k ∧ i ∈ rest ops.size listed) → ∃ i, i ∈ rest ops.size listed ∧ ∀ j, j < i → j ∉ rest ops.size listed := by
          intro k
          induction k with
          | zero =>
            rintro ⟨i, h1, h2⟩
            exact ⟨i, h2, fun j hj => by omega⟩
          | succ k ihk =>
            rintro ⟨i, h1, h2⟩
            by_cases hlow : ∃ j, j ≤ k ∧ j ∈ rest ops.size listed
            · exact ihk hlow
            · exact ⟨i, h2, fun j hj hm => hlow ⟨j, by omega, hm⟩⟩
        obtain ⟨i, him, hmin⟩ := hex x ⟨x, Nat.le_refl _, hx⟩
        have him' := him
        unfold rest at him'
        rw [List.mem_filter, List.mem_range] at him'
        have ho : ops[i]? = some ops[i] := Array.getElem?_eq_getElem him'.1
        have : i ∈ Region.ready .any ops listed := by
          refine mem_ready.2 ⟨by simpa using him'.2, _, ho, fun e he hb => ?_⟩
          have hlt := (mixB_row hB ho).1 e he hb
          have hno := hmin e.on hlt
          unfold rest at hno
          rw [List.mem_filter, List.mem_range] at hno
          have hsz : e.on < listed.size := by omega
          have e1 : listed.getD e.on true = listed.getD e.on false := by simp [hsz]
          cases hb2 : listed.getD e.on false with
          | true => rfl
          | false =>
            rw [hb2] at e1
            exact absurd ⟨by omega, by rw [e1]; rfl⟩ hno
        rw [hr] at this
        cases this
    · obtain ⟨h0, oi, ho, hd⟩ := mem_ready.1 hi
      have hlt : i < ops.size := (Array.getElem?_eq_some_iff.1 ho).1
      obtain ⟨l1, l2, e1, e2, hl1⟩ := rest_split hn hlt h0
      rw [e1] at h
      have hfront := runM_front ho hsel l1 l2 a w (fun j hj => by
        obtain ⟨hji, hju⟩ := hl1 j hj
        have hsw := (mixB_row hB ho).2.2 j hji
        have hoj : ops[j]? = some ops[j] := Array.getElem?_eq_getElem (by omega)
        unfold orderedOrSwapsM at hsw
        rw [Bool.or_eq_true] at hsw
        rcases hsw with hsw | hsw
        · have := bits_listedM hB hs i i (Nat.le_refl _) oi ho hd j hsw
          have hsz : j < listed.size := by omega
          have e3 : listed.getD j true = listed.getD j false := by simp [hsz]
          rw [hju, this] at e3
          cases e3
        · rw [hoj, ho] at hsw
          simp only [Bool.and_eq_true] at hsw
          exact ⟨_, hoj, hsw.1, hsw.2⟩) h
      refine wpOp_of_stepM ho (stepM_mono (fun b w' hb => ih _ b w' (by simpa using hn) ?_ ?_ (by rw [e2]; exact hb)) hfront)
      · intro k o hk hkl e he hb
        rw [getD_set _ _ _ _ (by omega)] at hkl
        by_cases hik : i = k
        · subst hik
          rw [ho] at hk
          injection hk with hk
          subst hk
          exact getD_set_true (hd e he hb)
        · rw [if_neg hik] at hkl
          exact getD_set_true (hs k o hk hkl e he hb)
      · rw [e2]
        rw [e1] at hl
        simp only [List.length_append, List.length_cons] at hl ⊢
        omega

def mixD (V : List (Nat × Ck)) (S : Nat → Prop) (P : Program) (ops : Array Oper) (wb : World) (B : Array Nat) (Q : Act → World → Prop) : Nat → List Oper → Act → World → Prop
  | _, [], a, w => Q a w
  | i, o :: r, a, w => stepM S P ops wb (katV V ops B i o) o (mixD V S P ops wb B Q (i + 1) r) a w

theorem runM_of_mix {B : Array Nat} {Q : Act → World → Prop} (l : List Oper) : ∀ k, (∀ j, l[j]? = ops[k + j]?) → ∀ a w, mixD V S P ops wb B Q k l a w → runM V S P ops wb B Q (List.range' k l.length) a w := by
  induction l with
  | nil => intro k _ a w h; exact h
  | cons o l ih =>
    intro k h a w hw
    have h0 : ops[k]? = some o := by simpa using (h 0).symm
    simp only [List.length_cons, List.range'_succ, runM, h0]
    exact stepM_mono (fun b w' hb => ih (k + 1) (fun j => by have := h (j + 1); simpa [Nat.add_assoc, Nat.add_comm 1 j] using this) b w' hb) hw

structure wpMix (V : List (Nat × Ck)) (S : Nat → Prop) (P : Program) (ops : Array Oper) (wb : World) (Q : Act → World → Prop) (i : Nat) (l : List Oper) (a : Act) (w : World) : Prop where
  mk :: (out : mixD V S P ops wb (Region.before ops) Q i l a w)

theorem wp_region_mix {id : Nat} {Q : Exit → Act → World → Prop} {a : Act} {w : World} {l : List Oper} (hm : P.follows .mixedOrders = true) (hB : mixB V l.toArray (Region.before l.toArray) = true)
    (h : Kx S w.drew w.drew w.drew → wpMix V S P l.toArray w.drew (fun a w => Q .normal a w) 0 l a w.drew) : (Code.region id l.toArray true).wp P Q a w := by
  refine wp_region_any hm ?_
  have h1 := runM_of_mix (ops := l.toArray) l 0 (by simp) a _ (h (Kx.refl _ _ _)).out
  refine wpAny_of_runM (V := V) (S := S) (wb := w.drew) hB _ _ _ _ (by simp) ?_ ?_ ?_
  · intro k o hk hl
    by_cases hlt : k < l.length
    · simp [hlt] at hl
    · simp [hlt] at hl
  · rw [rest_none]; simp
  · rw [rest_none]
    rw [List.range_eq_range']
    simpa using h1

variable {Q : Act → World → Prop} {r : List Oper} {o : Oper} {a : Act} {w : World} {i : Nat}

theorem mix_nil (h : Q a w) : wpMix V S P ops wb Q i [] a w := ⟨h⟩

theorem mix_pass {ts : List Value} {ds : List Deferred} {d : Nat} (hd : o.dst = some d) (hw : Region.wanted o (yielded ops ts.toArray) = false) (h : wpMix V S P ops wb Q (i + 1) r ⟨(ts.set d undef).toArray, ds⟩ w) : wpMix V S P ops wb Q i (o :: r) ⟨ts.toArray, ds⟩ w := by
  refine ⟨?_⟩
  show stepM S P ops wb (katV V ops _ i o) o (mixD V S P ops wb _ Q (i + 1) r) _ w
  unfold stepM
  rw [hw, hd]
  have := h.out
  simpa [Act.put, Tr.on] using this

theorem mix_p (hw : Region.wanted o (yielded ops a.tmps) = true) (hc : cl o.op = .p) (hk : katV V ops (Region.before ops) i o = .p) (h : ∀ K : Act → Prop, (∀ a', wpMix V S P ops wb Q (i + 1) r a' w → K a') → o.quiet P a (fun _ => True) K) : wpMix V S P ops wb Q i (o :: r) a w := by
  obtain ⟨v, h1, h2⟩ := h (fun a' => wpMix V S P ops wb Q (i + 1) r a' w) (fun _ h => h)
  refine ⟨?_⟩
  show stepM S P ops wb (katV V ops _ i o) o (mixD V S P ops wb _ Q (i + 1) r) a w
  unfold stepM
  rw [if_pos hw, hk]
  refine ⟨v, fun w' => ?_, h2.out⟩
  have h3 := h1 w' trivial
  unfold Oper.quietAt at h3
  cases hr : (execOp a.eval o).run P w' with
  | halt x w1 => rw [hr] at h3; exact h3.elim
  | ok n w1 =>
    obtain ⟨u, rfl⟩ := value_of_cl (by rw [hc]; decide) hr
    rw [hr] at h3
    obtain ⟨e1, e2⟩ := h3
    rw [e1, e2]

theorem load_keeps {wr w1 : World} {t : TypeId} {x : Operand} {ad : Addr} {v : Value} (ho : o.op = .load t x) (hx : a.eval x = .pointer (some ad)) (hc : (wr.cell? ad).isSome = true) (hr : (execOp a.eval o).run P wr = .ok (.value v) wr) (hb : ad.block < wr.heap.size → w1.heap[ad.block]? = wr.heap[ad.block]?) : (execOp a.eval o).run P w1 = .ok (.value v) w1 := by
  obtain ⟨u, hu⟩ := Option.isSome_iff_exists.1 hc
  have hlt := World.block_lt_of_cell? wr ad hu
  have hcells : ∃ cs t fr, wr.heap[ad.block]? = some (.cells cs t fr) := by
    unfold World.cell? at hu
    split at hu
    · rename_i c e f hh
      exact ⟨_, _, _, hh⟩
    · cases hu
  have hs : execOp a.eval o = (do let y ← Go.loadVar t ad; pure (Next.value y) : Sem Next) := by
    obtain ⟨dst, op, type, pos, after, guard⟩ := o
    simp only at ho
    subst ho
    simp only [execOp, hx]
    rfl
  rw [hs] at hr ⊢
  exact near_bind (near_var t ad).1 (near_var t ad).2 (fun y => near_pure _) P wr w1 wr _ (hb hlt) hcells hr
theorem mix_re {t : TypeId} {x : Operand} {ad : Addr} (hw : Region.wanted o (yielded ops a.tmps) = true) (hk : katV V ops (Region.before ops) i o = .re ∨ katV V ops (Region.before ops) i o = .rl) (ho : o.op = .load t x) (hx : a.eval x = .pointer (some ad)) (hc : (wb.cell? ad).isSome = true) (hn : ¬ S ad.block) (hB : Kx S wb wb w)
    (h : ∀ K : Act → Prop, (∀ a', wpMix V S P ops wb Q (i + 1) r a' w → K a') → o.quiet P a (fun w' => w' = wb) K) : wpMix V S P ops wb Q i (o :: r) a w := by
  obtain ⟨v, h1, h2⟩ := quiet_run (C := fun w' => w' = wb) (wr := wb) (by rw [ho]; exact fun hh => by cases hh) rfl (h (fun a' => wpMix V S P ops wb Q (i + 1) r a' w) (fun _ h => h))
  refine ⟨?_⟩
  show stepM S P ops wb (katV V ops _ i o) o (mixD V S P ops wb _ Q (i + 1) r) a w
  unfold stepM
  rw [if_pos hw]
  rcases hk with hk | hk
  · rw [hk]
    exact ⟨hB, v, fun w1 hb => load_keeps ho hx hc h1 (fun hl => hb.block _ hl (fun hh => hn hh.1)), h2.out⟩
  · rw [hk]
    exact ⟨hB, v, fun w1 hb => load_keeps ho hx hc h1 (fun hl => (hB.then_ hb).block _ hl (fun hh => hn hh.1)), h2.out⟩

theorem mix_rl {t : TypeId} {x : Operand} {ad : Addr} (hw : Region.wanted o (yielded ops a.tmps) = true) (hk : katV V ops (Region.before ops) i o = .rl) (ho : o.op = .load t x) (hx : a.eval x = .pointer (some ad)) (hc : (w.cell? ad).isSome = true) (hB : Kx S wb wb w)
    (h : ∀ K : Act → Prop, (∀ a', wpMix V S P ops wb Q (i + 1) r a' w → K a') → o.quiet P a (fun w' => w' = w) K) : wpMix V S P ops wb Q i (o :: r) a w := by
  obtain ⟨v, h1, h2⟩ := quiet_run (C := fun w' => w' = w) (wr := w) (by rw [ho]; exact fun hh => by cases hh) rfl (h (fun a' => wpMix V S P ops wb Q (i + 1) r a' w) (fun _ h => h))
  refine ⟨?_⟩
  show stepM S P ops wb (katV V ops _ i o) o (mixD V S P ops wb _ Q (i + 1) r) a w
  unfold stepM
  rw [if_pos hw, hk]
  exact ⟨hB, v, fun w1 hb => load_sure ho hx hc h1 hb, h2.out⟩

theorem mix_r (hw : Region.wanted o (yielded ops a.tmps) = true) (hc : cl o.op ≠ .a) (hk : katV V ops (Region.before ops) i o = .r)
    (h : ∀ K : Act → Prop, (∀ a', wpMix V S P ops wb Q (i + 1) r a' w → K a') → o.quiet P a (fun w' => w' = w) K) : wpMix V S P ops wb Q i (o :: r) a w := by
  obtain ⟨v, h1, h2⟩ := quiet_run (C := fun w' => w' = w) (wr := w) hc rfl (h (fun a' => wpMix V S P ops wb Q (i + 1) r a' w) (fun _ h => h))
  refine ⟨?_⟩
  show stepM S P ops wb (katV V ops _ i o) o (mixD V S P ops wb _ Q (i + 1) r) a w
  unfold stepM
  rw [if_pos hw, hk]
  exact ⟨v, h1, h2.out⟩

theorem mix_m (mk : Nat → Value) (obj : Obj) (hw : Region.wanted o (yielded ops a.tmps) = true) (hk : katV V ops (Region.before ops) i o = .m) (hr : ∀ w1, (execOp a.eval o).run P w1 = .ok (.value (mk w1.heap.size)) (w1.alloc obj)) (hB : Kx S wb wb w)
    (h : ∀ g w', Bw w w' → wb.heap.size ≤ g → w'.heap[g]? = some obj → wpMix V S P ops wb Q (i + 1) r (a.put o.dst (mk g)) w') : wpMix V S P ops wb Q i (o :: r) a w := by
  refine ⟨?_⟩
  show stepM S P ops wb (katV V ops _ i o) o (mixD V S P ops wb _ Q (i + 1) r) a w
  unfold stepM
  rw [if_pos hw, hk]
  exact ⟨hB, mk, obj, hr, fun g w' h1 h2 h3 => (h g w' h1 h2 h3).out⟩

theorem mix_c (hw : Region.wanted o (yielded ops a.tmps) = true) (hk : katV V ops (Region.before ops) i o = .c) (hB : Kx S wb wb w)
    (h : ∀ w1, Bw w w1 → ∀ K : Act → World → Prop, (∀ a' w', Bw w1 w' ∧ wpMix V S P ops wb Q (i + 1) r a' w' → K a' w') → o.wp P a w1 K NoQ) : wpMix V S P ops wb Q i (o :: r) a w := by
  refine ⟨?_⟩
  show stepM S P ops wb (katV V ops _ i o) o (mixD V S P ops wb _ Q (i + 1) r) a w
  unfold stepM
  rw [if_pos hw, hk]
  refine ⟨hB, fun w1 hw1 => ?_⟩
  exact outc_mono (fun t w' hk => ⟨hk.1, hk.2.out⟩) (outc_of_wp (h w1 hw1 (fun a' w' => Bw w1 w' ∧ wpMix V S P ops wb Q (i + 1) r a' w') (fun _ _ h => h)))

theorem mix_a (hw : Region.wanted o (yielded ops a.tmps) = true) (hk : katV V ops (Region.before ops) i o = .a) (h : ∀ K : Act → World → Prop, (∀ a' w', wpMix V S P ops wb Q (i + 1) r a' w' → K a' w') → o.wp P a w K NoQ) : wpMix V S P ops wb Q i (o :: r) a w := by
  refine ⟨?_⟩
  show stepM S P ops wb (katV V ops _ i o) o (mixD V S P ops wb _ Q (i + 1) r) a w
  unfold stepM
  rw [if_pos hw, hk]
  exact outc_mono (fun t w' hk => hk.out) (outc_of_wp (h _ fun _ _ h => h))
theorem mix_e (hw : Region.wanted o (yielded ops a.tmps) = true) (hk : katV V ops (Region.before ops) i o = .e) (hB : Kx S wb wb w)
    (h : ∀ w1, Bw w w1 → ∀ K : Act → World → Prop, (∀ a' w', Kx S wb w1 w' ∧ wpMix V S P ops wb Q (i + 1) r a' w' → K a' w') → o.wp P a w1 K NoQ) : wpMix V S P ops wb Q i (o :: r) a w := by
  refine ⟨?_⟩
  show stepM S P ops wb (katV V ops _ i o) o (mixD V S P ops wb _ Q (i + 1) r) a w
  unfold stepM
  rw [if_pos hw, hk]
  refine ⟨hB, fun w1 hw1 => ?_⟩
  exact outc_mono (fun t w' hk => ⟨hk.1, hk.2.out⟩) (outc_of_wp (h w1 hw1 (fun a' w' => Kx S wb w1 w' ∧ wpMix V S P ops wb Q (i + 1) r a' w') (fun _ _ h => h)))
end
end Go.Txt3

namespace Go.Proofs.Ytfgabafbcephaaa.My
open Go.RowKit Pa Go.Proofs.YtfgabafbcephaaaW.PrintWords
set_option linter.unusedSimpArgs false
structure QW (w0 w : World) (g r : Nat) (bs : List Int) (n : Nat) (F R : Nat → Prop) (L : List S36) : Prop where
  p : QP w0 w F R g r bs L L
  len : L.length ≤ n
theorem rdA_at {w : World} {A : Option Addr} {xs : List S36} {i : Nat} (h : RdA w A xs) (hi : i < xs.length) : ∃ b o, A = some ⟨b, o, none⟩ ∧ b < w.heap.size ∧ AccAt w b (o + i * 13) (xs.getD i z36) := by
  obtain ⟨b, o, e, hb, hc⟩ := h (by omega)
  exact ⟨b, o, e, hb, hc i hi⟩
set_option maxHeartbeats 16000000 in
set_option maxRecDepth 100000 in
theorem queues_any (A : Option Addr) (bs : List Int) (c : Nat) (A2 : Option Addr) (xs : List S36) (c2 : Nat) (A3 : Option Addr) (l : List Int) (c3 : Nat) (w : World) (hA : RdI w A bs) (hc : bs.length ≤ c) (hbl : bs.length ≤ 17592186044415) (hX : RdA w A2 xs) (hc2 : xs.length ≤ c2) (hx : xs.length ≤ 1172812402960) (hh : ∀ x ∈ xs, x.f6.length ≤ 17592186044415) (hB : RdI w A3 l) (hc3 : l.length ≤ c3) (hl : l.length ≤ 17592186044415) :
    Calls Try.prog 3 #[.slice A bs.length c, .slice A2 xs.length c2, .slice A3 l.length c3] w fun e w' => e = .returned (.bool true) ∧ Below w.heap.size w w' := by
  have HA := Lib.hid (And.intro hA (And.intro hc hbl))
  have HX := Lib.hid (And.intro hX (And.intro hc2 (And.intro hx hh)))
  have HL := Lib.hid (And.intro hB (And.intro hc3 hl))
  clear hA hc hbl hX hc2 hx hh hB hc3 hl
  go_enter Try.func3, Try.ntmps3
  go_wp2_with fail
  refine (qsnew_any (w0 := w) bs A c (Below.refl _ _) HA.out.1 HA.out.2.1 HA.out.2.2).mono ?_
  rintro e w1 (⟨hbm, rfl, hb⟩ | ⟨hbm, g, F0, rfl, hq, -, hb⟩)
  · have HB := Lib.hid hb
    have HA1 := Lib.hid (RdI.below HA.out.1 hb)
    clear hb
    go_wp2_with fail
    refine (rlnew_any bs A c w1 HA1.out HA.out.2.1 HA.out.2.2).mono ?_
    rintro e w2 (⟨-, rfl, hb⟩ | ⟨h, _⟩)
    rotate_left 1
    · exact absurd h (by rw [hbm]; simp)
    have HB2 := Lib.hid (HB.out.trans (hb.mono HB.out.size))
    clear hb HB HA1
    go_wp2_with fail
    refine (num_any _ _).mono ?_
    rintro e w' ⟨rfl, rfl⟩
    go_wp2_with fail
    refine (awake17_any _).mono ?_
    rintro e w3 ⟨rfl, hb⟩
    go_wp2_with fail
    go_ret
    exact ⟨rfl, HB2.out.trans (hb.mono HB2.out.size)⟩
  · have HA1 := Lib.hid (RdI.below HA.out.1 hb)
    have Q1 := Lib.hid hq
    clear hq hb
    go_wp2_with fail
    refine (rlnew_any bs A c w1 HA1.out HA.out.2.1 HA.out.2.2).mono ?_
    rintro e w2 (⟨h, _⟩ | ⟨-, r, rfl, hr, hb⟩)
    · exact absurd h (by rw [hbm]; simp)
    have hlt := Q1.out.bel.size
    have hr2 : RL w2 (fun i => w1.heap.size ≤ i ∧ i < w2.heap.size) r bs [] := hr.mono (fun i hi hf => ⟨hf, hi⟩)
    have hqp : QP w w2 F0 (fun i => w1.heap.size ≤ i ∧ i < w2.heap.size) g r bs [] [] := ⟨Q1.out.quiet hb, hr2, fun i hi => ⟨by have := hi.1; omega, hi.2⟩, fun i hi h => by have := (Q1.out.new i hi).2; have := h.1; omega⟩
    have QQ := Lib.hid hqp
    clear hr hr2 hqp hlt hb HA1 Q1
    go_wp2_with fail
    refine (num_any _ _).mono ?_
    rintro e w' ⟨rfl, rfl⟩
    go_wp2_with fail
    go_loopw [11, 12] (fun t i wr => ∃ (k p : Nat) (F R : Nat → Prop) (L : List S36), t = .int .i64 p ∧ i = .int .i64 k ∧ k ≤ l.length ∧ k ≤ 60 ∧ p ≤ xs.length ∧ QW w wr g r bs k F R L) (fun _ i _ => l.length - (intOf i).toNat)
    case atStart => exact ⟨0, 0, _, _, [], rfl, rfl, by omega, by omega, by omega, QQ.out, by simp⟩
    case round =>
      obtain ⟨k, p, F, R, L, rfl, rfl, hk, hk6, hp, hw⟩ := hrel
      have W1 := Lib.hid hw
      clear hw
      by_cases hlt : k < l.length ∧ k < 60
      · obtain ⟨hk1, hk2⟩ := hlt
        have hd1 : decide ((k : Int) < l.length) = true := decide_eq_true (by omega)
        have hd2 : decide ((k : Int) < 60) = true := decide_eq_true (by omega)
        obtain ⟨ad, hA3, e0⟩ := RdI.at_ (RdI.below HL.out.1 W1.out.p.q.bel) hk1
        subst hA3
        have HK := Lib.hid (And.intro hk1 hk2)
        generalize l.getD k 0 = s at *
        by_cases hpop : bits .and .i64 s 3 = 0 ∨ p = xs.length
        case' pos =>
          by_cases hs : bits .and .i64 s 3 = 0
          case' pos => go_wp2_with fail
          case' neg =>
            have hsq : (bits .and .i64 s 3 == 0) = false := beq_eq_false_iff_ne.2 hs
            have hge : decide ((xs.length : Int) ≤ (p : Int)) = true := decide_eq_true (by
              have := hpop.resolve_left hs
              omega)
            go_wp2_with fail
            clear hsq hge
          all_goals (
            refine (qppop_any W1.out.p (by have := W1.out.len; omega)).mono ?_
            rintro e w3 ⟨v, F3, rfl, how, hvn, hqp⟩
            have hsh := popR_short W1.out.p.q.q.short.1
            have hlen := popR_len L
            obtain ⟨⟨x, er, L'⟩, hpr⟩ : ∃ z, popR L = z := ⟨_, rfl⟩
            rw [hpr] at how hqp hsh hlen ⊢
            simp only at how hqp hsh hlen
            obtain ⟨A4, c4, rfl, _, _⟩ := how.reads
            have hal : Below w3.heap.size w3 (w3.alloc (acO x (.slice A4 x.f6.length c4))) := (Below.refl _ _).alloc (Nat.le_refl _) _
            have P4 := Lib.hid (hqp.quiet hal)
            have VA := Lib.hid (heap_alloc_new w3 (acO x (.slice A4 x.f6.length c4)))
            have HO := Lib.hid (Own.below how hal)
            have FA := Lib.hid (show ¬ F3 w3.heap.size ∧ ¬ R w3.heap.size from ⟨fun h => by have := (hqp.q.new _ h).2; omega, fun h => by have := (hqp.newR _ h).2; omega⟩)
            have FO := Lib.hid hvn
            have SH := Lib.hid hsh
            have PR := Lib.hid hpr
            have LE := Lib.hid (And.intro W1.out.len (And.intro hlen (And.intro hk6 hp)))
            clear how hvn hqp hal hsh hlen hpr W1 e0 hs hd1 hd2 hpop
            simp only [acV]
            go_wp2_with fail
            change Calls _ _ _ (w3.alloc (acO x (.slice A4 x.f6.length c4))) _
            generalize w3.alloc (acO x (.slice A4 x.f6.length c4)) = w4 at *
            generalize w3.heap.size = ab at *
            refine (qprpop_any P4.out (by have := LE.out.1; omega)).mono ?_
            rintro e w5 ⟨v, R5, rfl, how, hqp, hR, hc⟩
            rw [PR.out] at how hqp ⊢
            simp only at how hqp ⊢
            obtain ⟨A5, c5, rfl, _, _⟩ := how.reads
            have hal : Below w5.heap.size w5 (w5.alloc (acO x (.slice A5 x.f6.length c5))) := (Below.refl _ _).alloc (Nat.le_refl _) _
            have hab := blk_lt VA.out
            have P6 := Lib.hid (hqp.quiet hal)
            have VB := Lib.hid (heap_alloc_new w5 (acO x (.slice A5 x.f6.length c5)))
            have RB := Lib.hid (own_rd (Own.below how hal))
            have VA6 := Lib.hid (blk_below (hc.obj VA.out FA.out.2) hal)
            have FO6 := Lib.hid (show ∀ j, (Value.slice A4 x.f6.length c4).ownBlock = some j → ¬ F3 j ∧ ¬ R5 j from fun j hj => ⟨(FO.out j hj).1, fun h => (hR _ h).elim (FO.out j hj).2 (fun h => by have := own_lt HO.out j hj; omega)⟩)
            have HO6 := Lib.hid ((HO.out.keep hc (fun j hj => (FO.out j hj).2)).below hal)
            clear how hqp hR hc hal hab P4 VA HO FA FO PR
            simp only [acV]
            go_wp2_with (refine at_load 13 rfl ?_)
            change AtOp _ _ _ _ _ (w5.alloc (acO x (.slice A5 x.f6.length c5)))
            generalize w5.alloc (acO x (.slice A5 x.f6.length c5)) = w6 at *
            generalize w5.heap.size = bb at *
            obtain ⟨y0, y1, y2, y3, y4, y5, y6, y7, y8, y9, y10, y11, y12, yl⟩ := acO_facts VA6.out
            obtain ⟨z0, z1, z2, z3, z4, z5, z6, z7, z8, z9, z10, z11, z12, zl⟩ := acO_facts VB.out
            refine ⟨?_⟩
            go_wp2_with fail
            have hrd := own_rd HO6.out
            refine (same_yes x A4 A5 c4 c5 w6 hrd.2 hrd.1 RB.out.2 RB.out.1 (by have := SH.out; omega)).mono ?_
            rintro e w7 ⟨rfl, hb⟩
            have P7 := Lib.hid (P6.out.quiet hb)
            have VA7 := Lib.hid (blk_below VA6.out hb)
            have HO7 := Lib.hid (HO6.out.below hb)
            clear hrd hb P6 VA6 HO6 RB VB z0 z1 z2 z3 z4 z5 z6 z7 z8 z9 z10 z11 z12 zl y0 y1 y2 y3 y4 y5 y6 y7 y8 y9 y10 y11 y12 yl
            go_wp2_with fail
            refine (num_any _ _).mono ?_
            rintro e w' ⟨rfl, rfl⟩
            obtain ⟨y0, y1, y2, y3, y4, y5, y6, y7, y8, y9, y10, y11, y12, yl⟩ := acO_facts VA7.out
            go_wp2_with fail
            refine (qpspoil_any P7.out (.slice A4 x.f6.length c4) x.f6 HO7.out FO6.out (by have := SH.out; omega)).mono ?_
            rintro e w9 ⟨rfl, hqp⟩
            obtain ⟨Fz, Rz, PF, FP⟩ : ∃ F R, Hid (QP w w9 F R g r bs L' L') ∧ True := ⟨_, _, Lib.hid hqp, trivial⟩
            clear hqp P7 VA7 HO7 FO6 y0 y1 y2 y3 y4 y5 y6 y7 y8 y9 y10 y11 y12 yl
            go_wp2_with fail
            obtain ⟨p', hp'⟩ : ∃ p', p' = p := ⟨_, rfl⟩
            rw [← hp']
            have LF := Lib.hid (show p' ≤ xs.length ∧ L'.length ≤ k + 1 ∧ k < 60 ∧ k < l.length from ⟨by omega, by have := LE.out; omega, HK.out.2, HK.out.1⟩)
            clear hp' LE)
        case' neg =>
          have hs : ¬ bits .and .i64 s 3 = 0 := fun h => hpop (.inl h)
          have hpl : p < xs.length := by
            have : ¬ p = xs.length := fun h => hpop (.inr h)
            omega
          clear hpop
          have hsq : (bits .and .i64 s 3 == 0) = false := beq_eq_false_iff_ne.2 hs
          have hge : decide ((xs.length : Int) ≤ (p : Int)) = false := decide_eq_false (by omega)
          obtain ⟨b, o, rfl, _, hat⟩ := rdA_at (HX.out.1.below W1.out.p.q.bel) hpl
          have hfl := HX.out.2.2.2 _ (getD_mem28 hpl)
          have HAT := Lib.hid (show ∀ W, Below w.heap.size w W → AccAt W b (o + p * 13) (xs.getD p z36) from fun W hW => by
            obtain ⟨b', o', e, _, h⟩ := rdA_at (HX.out.1.below hW) hpl
            injection e with e
            injection e with e1 e2
            subst e1 e2
            exact h)
          generalize xs.getD p z36 = x at *
          obtain ⟨Ah, ch, a0, a1, a2, a3, a4, a5, a6, a7, a8, a9, a10, a11, a12, hlh, hrh⟩ := hat
          have HRH := Lib.hid (And.intro hlh (And.intro hrh hfl))
          clear hlh hrh hfl
          go_wp2_with fail
          refine (lcopy_any x Ah ch wr HRH.out.2.1 HRH.out.1 HRH.out.2.2).mono ?_
          rintro e w3 ⟨v, rfl, how, hb⟩
          obtain ⟨A4, c4, rfl, _, _⟩ := how.reads
          have hal : Below w3.heap.size w3 (w3.alloc (acO x (.slice A4 x.f6.length c4))) := (Below.refl _ _).alloc (Nat.le_refl _) _
          have W4 := Lib.hid ((W1.out.p.quiet hb).quiet hal)
          have VA := Lib.hid (heap_alloc_new w3 (acO x (.slice A4 x.f6.length c4)))
          have HO := Lib.hid (Own.below how hal)
          have FA := Lib.hid (show ¬ F w3.heap.size ∧ ¬ R w3.heap.size from ⟨fun h => by have := ((W1.out.p.quiet hb).q.new _ h).2; omega, fun h => by have := ((W1.out.p.quiet hb).newR _ h).2; omega⟩)
          have FO := Lib.hid (show ∀ j, (Value.slice A4 x.f6.length c4).ownBlock = some j → ¬ F j ∧ ¬ R j ∧ j < w3.heap.size from fun j hj => ⟨fun h => by have := (W1.out.p.q.new _ h).2; have := own_base how j hj; omega, fun h => by have := (W1.out.p.newR _ h).2; have := own_base how j hj; omega, own_lt how j hj⟩)
          have HRH4 := Lib.hid (RdI.below HRH.out.2.1 (hb.trans (hal.mono hb.size)))
          have HWR := Lib.hid W1.out.p.q.bel.size
          have LE := Lib.hid (And.intro W1.out.len (And.intro hk6 hp))
          clear a0 a1 a2 a3 a4 a5 a6 a7 a8 a9 a10 a11 a12 hsq hge e0 hd1 hd2 hb how hal W1
          simp only [acV]
          go_wp2_with fail
          change Calls _ _ _ (w3.alloc (acO x (.slice A4 x.f6.length c4))) _
          generalize w3.alloc (acO x (.slice A4 x.f6.length c4)) = w4 at *
          generalize w3.heap.size = cb at *
          refine (qppush_any W4.out (by have := LE.out.1; omega) x A4 c4 (own_zero HO.out)).mono ?_
          rintro e w5 ⟨F5, rfl, hqp, hF, hc⟩
          obtain ⟨⟨er, L'⟩, hpr⟩ : ∃ z, pushR bs L x = z := ⟨_, rfl⟩
          rw [hpr] at hqp ⊢
          have hlen := pushR_len bs L x
          rw [hpr] at hlen
          have PR := Lib.hid hpr
          have P5 := Lib.hid hqp
          have LE5 := Lib.hid (show L'.length ≤ k + 1 from by have := LE.out.1; simp only at hlen; omega)
          have VA5 := Lib.hid (hc.obj VA.out FA.out.1)
          have hcb := blk_lt VA.out
          have FA5 := Lib.hid (show ¬ F5 cb ∧ ¬ R cb from ⟨fun h => (hF _ h).elim FA.out.1 (fun h => by omega), FA.out.2⟩)
          have HO5 := Lib.hid (HO.out.keep hc (fun j hj => (FO.out j hj).1))
          have FO5 := Lib.hid (show ∀ j, (Value.slice A4 x.f6.length c4).ownBlock = some j → ¬ F5 j ∧ ¬ R j from fun j hj => ⟨fun h => (hF _ h).elim (FO.out j hj).1 (fun h => by have := (FO.out j hj).2.2; omega), (FO.out j hj).2.1⟩)
          have hat5 := HAT.out w5 P5.out.q.bel
          clear hqp hF hc hpr hlen hcb W4 VA FA HO FO HRH4
          simp only
          obtain ⟨Ah5, ch5, a0, a1, a2, a3, a4, a5, a6, a7, a8, a9, a10, a11, a12, hlh, hrh⟩ := hat5
          obtain ⟨y0, y1, y2, y3, y4, y5, y6, y7, y8, y9, y10, y11, y12, yl⟩ := acO_facts VA5.out
          have HRH5 := Lib.hid (And.intro hlh hrh)
          clear hlh hrh
          go_wp2_with fail
          refine Txt3.wp_region_mix (V := [(7, .a), (10, .r), (14, .r), (15, .a)]) (S := fun _ => False) (by kernel_rfl) (by kernel_rfl) (fun HB => ?_)
          repeat (first
            | (refine Txt3.mix_p (by rfl) rfl (by decide +kernel) (fun K hK => ?_); go_big_quiet_op; refine hK _ ?_; clear hK K)
            | (refine Txt3.mix_re (by rfl) (by decide +kernel) (by rfl) (by rfl) (by go_simp) (by first | exact HS1.out | exact HS2.out | exact id) HB (fun K hK => ?_); go_big_quiet_op; refine hK _ ?_; clear hK K)
            | (refine Txt3.mix_r (by rfl) (by decide) (by decide +kernel) (fun K hK => ?_); go_big_quiet_op; refine hK _ ?_; clear hK K)
            | (refine Txt3.mix_pass (by rfl) (by rfl) ?_; simp only [List.set_cons_succ, List.set_cons_zero]))
          refine Txt3.mix_c (by rfl) (by decide +kernel) HB ?_
          intro w6 hw6 K hK
          have hb6 : Below w5.heap.size w5 w6 := Txt.Bw.undrew hw6
          replace HB := HB.then_ hw6
          clear hw6
          go_wp2_with fail
          refine (num_any _ _).mono ?_
          rintro e w' ⟨rfl, rfl⟩
          refine hK _ _ ⟨Txt.Bw.refl _, ?_⟩
          clear hK K
          repeat (first
            | (refine Txt3.mix_p (by rfl) rfl (by decide +kernel) (fun K hK => ?_); go_big_quiet_op; refine hK _ ?_; clear hK K)
            | (refine Txt3.mix_re (by rfl) (by decide +kernel) (by rfl) (by rfl) (by go_simp) (by first | exact HS1.out | exact HS2.out | exact id) HB (fun K hK => ?_); go_big_quiet_op; refine hK _ ?_; clear hK K)
            | (refine Txt3.mix_r (by rfl) (by decide) (by decide +kernel) (fun K hK => ?_); go_big_quiet_op; refine hK _ ?_; clear hK K)
            | (refine Txt3.mix_pass (by rfl) (by rfl) ?_; simp only [List.set_cons_succ, List.set_cons_zero]))
          refine Txt3.mix_a (by rfl) (by decide +kernel) (fun K hK => ?_)
          go_wp2_with fail
          refine (qprpush_any (P5.out.quiet hb6) (by have := LE.out.1; omega) x Ah5 ch5 (RdI.below HRH5.out.2 hb6) HRH5.out.1).mono ?_
          rintro e w7 ⟨R7, rfl, hqp, hR, hc⟩
          rw [PR.out] at hqp ⊢
          have hcb := blk_lt VA5.out
          have hsz := hb6.size
          have P7 := Lib.hid hqp
          have VA7 := Lib.hid (hc.obj (blk_below VA5.out hb6) FA5.out.2)
          have FA7 := Lib.hid (show ¬ F5 cb ∧ ¬ R7 cb from ⟨FA5.out.1, fun h => (hR _ h).elim FA5.out.2 (fun h => by omega)⟩)
          have HO7 := Lib.hid ((HO5.out.below hb6).keep hc (fun j hj => (FO5.out j hj).2))
          have FO7 := Lib.hid (show ∀ j, (Value.slice A4 x.f6.length c4).ownBlock = some j → ¬ F5 j ∧ ¬ R7 j from fun j hj => ⟨(FO5.out j hj).1, fun h => (hR _ h).elim (FO5.out j hj).2 (fun h => by have := own_lt HO5.out j hj; omega)⟩)
          clear hqp hR hc hcb hsz P5 VA5 FA5 HO5 FO5 HRH5 HB hb6 a0 a1 a2 a3 a4 a5 a6 a7 a8 a9 a10 a11 a12 y0 y1 y2 y3 y4 y5 y6 y7 y8 y9 y10 y11 y12 yl PR
          simp only
          obtain ⟨Ah7, ch7, a0, a1, a2, a3, a4, a5, a6, a7, a8, a9, a10, a11, a12, hlh, hrh⟩ := HAT.out w7 P7.out.q.bel
          obtain ⟨y0, y1, y2, y3, y4, y5, y6, y7, y8, y9, y10, y11, y12, yl⟩ := acO_facts VA7.out
          have HRH7 := Lib.hid (And.intro hlh hrh)
          clear hlh hrh
          refine hK _ _ ?_
          clear hK K
          repeat (first
            | (refine Txt3.mix_p (by rfl) rfl (by decide +kernel) (fun K hK => ?_); go_big_quiet_op; refine hK _ ?_; clear hK K)
            | (refine Txt3.mix_re (by rfl) (by decide +kernel) (by rfl) (by rfl) (by go_simp) (by first | exact HS1.out | exact HS2.out | exact id) HB (fun K hK => ?_); go_big_quiet_op; refine hK _ ?_; clear hK K)
            | (refine Txt3.mix_r (by rfl) (by decide) (by decide +kernel) (fun K hK => ?_); go_big_quiet_op; refine hK _ ?_; clear hK K)
            | (refine Txt3.mix_pass (by rfl) (by rfl) ?_; simp only [List.set_cons_succ, List.set_cons_zero]))
          refine Txt3.mix_a (by rfl) (by decide +kernel) (fun K hK => ?_)
          go_wp2_with fail
          have hrd := own_rd HO7.out
          refine (same_yes x A4 Ah7 c4 ch7 w7 hrd.2 hrd.1 HRH7.out.2 HRH7.out.1 HRH.out.2.2).mono ?_
          rintro e w8 ⟨rfl, hb⟩
          have P8 := Lib.hid (P7.out.quiet hb)
          have VA8 := Lib.hid (blk_below VA7.out hb)
          have HO8 := Lib.hid (HO7.out.below hb)
          clear hrd hb P7 VA7 FA7 HO7 HRH7 a0 a1 a2 a3 a4 a5 a6 a7 a8 a9 a10 a11 a12 y0 y1 y2 y3 y4 y5 y6 y7 y8 y9 y10 y11 y12 yl
          refine hK _ _ ?_
          clear hK K
          repeat (first
            | (refine Txt3.mix_p (by rfl) rfl (by decide +kernel) (fun K hK => ?_); go_big_quiet_op; refine hK _ ?_; clear hK K)
            | (refine Txt3.mix_re (by rfl) (by decide +kernel) (by rfl) (by rfl) (by go_simp) (by first | exact HS1.out | exact HS2.out | exact id) HB (fun K hK => ?_); go_big_quiet_op; refine hK _ ?_; clear hK K)
            | (refine Txt3.mix_r (by rfl) (by decide) (by decide +kernel) (fun K hK => ?_); go_big_quiet_op; refine hK _ ?_; clear hK K)
            | (refine Txt3.mix_pass (by rfl) (by rfl) ?_; simp only [List.set_cons_succ, List.set_cons_zero]))
          refine Txt3.mix_nil ?_
          obtain ⟨y0, y1, y2, y3, y4, y5, y6, y7, y8, y9, y10, y11, y12, yl⟩ := acO_facts VA8.out
          go_wp2_with fail
          refine (qpspoil_any P8.out (.slice A4 x.f6.length c4) x.f6 (own_weaken HO8.out HWR.out) FO7.out HRH.out.2.2).mono ?_
          rintro e w9 ⟨rfl, hqp⟩
          obtain ⟨Fz, Rz, PF, FP⟩ : ∃ F R, Hid (QP w w9 F R g r bs L' L') ∧ True := ⟨_, _, Lib.hid hqp, trivial⟩
          clear hqp P8 VA8 HO8 FO7 HRH HWR HAT y0 y1 y2 y3 y4 y5 y6 y7 y8 y9 y10 y11 y12 yl
          go_wp2_with fail
          have hpp : (p : Int) + 1 = ((p + 1 : Nat) : Int) := by omega
          rw [hpp]
          obtain ⟨p', hp'⟩ : ∃ p', p' = p + 1 := ⟨_, rfl⟩
          rw [← hp']
          have LF := Lib.hid (show p' ≤ xs.length ∧ L'.length ≤ k + 1 ∧ k < 60 ∧ k < l.length from ⟨by omega, LE5.out, HK.out.2, HK.out.1⟩)
          clear hpp hp' hp hpl LE LE5
        all_goals (
          refine (qltotal_any PF.out.q.q (by have := LF.out; omega)).mono ?_
          rintro e v1 ⟨v, rfl, how, hb⟩
          have hsh := PF.out.q.q.short.2
          obtain ⟨T, hT⟩ : ∃ T, T = (joinRes bs L').1 := ⟨_, rfl⟩
          rw [← hT] at how hsh ⊢
          have HT := Lib.hid hT
          have SHT := Lib.hid hsh
          obtain ⟨A6, c6, rfl, _, _⟩ := how.reads
          have hal : Below v1.heap.size v1 (v1.alloc (acO T (.slice A6 T.f6.length c6))) := (Below.refl _ _).alloc (Nat.le_refl _) _
          have PG := Lib.hid ((PF.out.quiet hb).quiet hal)
          have VT := Lib.hid (heap_alloc_new v1 (acO T (.slice A6 T.f6.length c6)))
          have HOT := Lib.hid (Own.below how hal)
          have FOT := Lib.hid (show ∀ j, (Value.slice A6 T.f6.length c6).ownBlock = some j → ¬ Fz j ∧ ¬ Rz j from fun j hj => ⟨fun h => by have := (PF.out.q.new _ h).2; have := own_base how j hj; omega, fun h => by have := (PF.out.newR _ h).2; have := own_base how j hj; omega⟩)
          have HWZ := Lib.hid PF.out.q.bel.size
          clear how hsh hb hal hT PF FP
          simp only [acV]
          go_wp2_with fail
          change Code.wp _ _ _ _ (v1.alloc (acO T (.slice A6 T.f6.length c6)))
          generalize v1.alloc (acO T (.slice A6 T.f6.length c6)) = v2 at *
          generalize v1.heap.size = tb at *
          obtain ⟨y0, y1, y2, y3, y4, y5, y6, y7, y8, y9, y10, y11, y12, yl⟩ := acO_facts VT.out
          obtain ⟨bvr, A7, c7, hrb⟩ := PG.out.r.all
          obtain ⟨q0, q1, ql⟩ := rO_facts hrb
          clear hrb q0
          refine Txt.wp_region_mix (by kernel_rfl) (by kernel_rfl) (fun HB => ?_)
          repeat (first
            | (refine Txt.mix_p (by rfl) rfl rfl (fun K hK => ?_); go_big_quiet_op; refine hK _ ?_; clear hK K)
            | (refine Txt.mix_re (by rfl) (by decide +kernel) (by rfl) (by rfl) (by go_simp) HB (fun K hK => ?_); go_big_quiet_op; refine hK _ ?_; clear hK K)
            | (refine Txt.mix_rl (by rfl) (by decide +kernel) (by rfl) (by rfl) (by go_simp) HB (fun K hK => ?_); go_big_quiet_op; refine hK _ ?_; clear hK K)
            | (refine Txt.mix_pass (by rfl) (by rfl) ?_; simp only [List.set_cons_succ, List.set_cons_zero]))
          refine Txt.mix_c (by rfl) (by decide +kernel) HB ?_
          intro v3 hw3 K hK
          replace HB := HB.trans hw3
          clear hw3
          go_wp2_with fail
          refine (rltotal_any (PG.out.r.below HB.undrew) (by have := LF.out; omega)).mono ?_
          rintro e v4 ⟨v, rfl, how, hb⟩
          rw [← HT.out] at how ⊢
          refine hK _ _ ⟨hb, ?_⟩
          obtain ⟨A8, c8, rfl, hl8, hr8⟩ := how.reads
          have RT := Lib.hid (And.intro hl8 hr8)
          replace HB := HB.trans hb
          clear hK K hb how hl8 hr8
          simp only [acV]
          repeat (first
            | (refine Txt.mix_p (by rfl) rfl rfl (fun K hK => ?_); go_big_quiet_op; refine hK _ ?_; clear hK K)
            | (refine Txt.mix_re (by rfl) (by decide +kernel) (by rfl) (by rfl) (by go_simp) HB (fun K hK => ?_); go_big_quiet_op; refine hK _ ?_; clear hK K)
            | (refine Txt.mix_rl (by rfl) (by decide +kernel) (by rfl) (by rfl) (by go_simp) HB (fun K hK => ?_); go_big_quiet_op; refine hK _ ?_; clear hK K)
            | (refine Txt.mix_pass (by rfl) (by rfl) ?_; simp only [List.set_cons_succ, List.set_cons_zero]))
          refine Txt.mix_c (by rfl) (by decide +kernel) HB ?_
          intro v5 hw5 K hK
          replace HB := HB.trans hw5
          replace RT := Lib.hid (And.intro RT.out.1 (RdI.below RT.out.2 hw5))
          clear hw5
          go_wp2_with fail
          have hrd := own_rd (Own.below HOT.out HB.undrew)
          refine (same_yes T A6 A8 c6 c8 v5 hrd.2 hrd.1 RT.out.2 RT.out.1 (by have := SHT.out; omega)).mono ?_
          rintro e v6 ⟨rfl, hb⟩
          refine hK _ _ ⟨hb, ?_⟩
          replace HB := HB.trans hb
          clear hK K hb hrd RT
          repeat (first
            | (refine Txt.mix_p (by rfl) rfl rfl (fun K hK => ?_); go_big_quiet_op; refine hK _ ?_; clear hK K)
            | (refine Txt.mix_re (by rfl) (by decide +kernel) (by rfl) (by rfl) (by go_simp) HB (fun K hK => ?_); go_big_quiet_op; refine hK _ ?_; clear hK K)
            | (refine Txt.mix_rl (by rfl) (by decide +kernel) (by rfl) (by rfl) (by go_simp) HB (fun K hK => ?_); go_big_quiet_op; refine hK _ ?_; clear hK K)
            | (refine Txt.mix_pass (by rfl) (by rfl) ?_; simp only [List.set_cons_succ, List.set_cons_zero]))
          refine Txt.mix_c (by rfl) (by decide +kernel) HB ?_
          intro v7 hw7 K hK
          replace HB := HB.trans hw7
          clear hw7
          go_wp2_with fail
          refine (qllen_any (PG.out.q.q.below HB.undrew) (by have := LF.out; omega)).mono ?_
          rintro e v8 ⟨rfl, hb⟩
          refine hK _ _ ⟨hb, ?_⟩
          replace HB := HB.trans hb
          clear hK K hb
          repeat (first
            | (refine Txt.mix_p (by rfl) rfl rfl (fun K hK => ?_); go_big_quiet_op; refine hK _ ?_; clear hK K)
            | (refine Txt.mix_re (by rfl) (by decide +kernel) (by rfl) (by rfl) (by go_simp) HB (fun K hK => ?_); go_big_quiet_op; refine hK _ ?_; clear hK K)
            | (refine Txt.mix_rl (by rfl) (by decide +kernel) (by rfl) (by rfl) (by go_simp) HB (fun K hK => ?_); go_big_quiet_op; refine hK _ ?_; clear hK K)
            | (refine Txt.mix_pass (by rfl) (by rfl) ?_; simp only [List.set_cons_succ, List.set_cons_zero]))
          refine Txt.mix_nil ?_
          have PH := Lib.hid (PG.out.quiet HB.undrew)
          have VTH := Lib.hid (blk_below VT.out HB.undrew)
          have HOH := Lib.hid (Own.below HOT.out HB.undrew)
          clear HB PG VT HOT q1 ql y0 y1 y2 y3 y4 y5 y6 y7 y8 y9 y10 y11 y12 yl
          obtain ⟨y0, y1, y2, y3, y4, y5, y6, y7, y8, y9, y10, y11, y12, yl⟩ := acO_facts VTH.out
          go_wp2_with fail
          refine (qpspoil_any PH.out (.slice A6 T.f6.length c6) T.f6 (own_weaken HOH.out HWZ.out) FOT.out (by have := SHT.out; omega)).mono ?_
          rintro e v9 ⟨rfl, hqp⟩
          have PI := Lib.hid (show QW w v9 g r bs (k + 1) Fz Rz L' from ⟨hqp, LF.out.2.1⟩)
          clear hqp PH VTH HOH FOT y0 y1 y2 y3 y4 y5 y6 y7 y8 y9 y10 y11 y12 yl
          go_wp2_with fail
          have hlf := LF.out
          have hxl := HX.out.2.2.1
          exact ⟨⟨k + 1, p', Fz, Rz, L', by first | rfl | (rw [show wrap64 (p' : Int) = (p' : Int) from by unfold wrap64; omega]), by go_num, by omega, by omega, by omega, PI.out⟩, by simp [intOf]; omega⟩)
      · have hk5 : (k = l.length ∨ k = 60) := by omega
        rcases hk5 with hk5 | hk5
        · have hd : decide (k < l.length) = false := decide_eq_false (by omega)
          go_wp2_with fail
          refine (awake17_any _).mono ?_
          rintro e w3 ⟨rfl, hb⟩
          go_wp2_with fail
          go_ret
          exact ⟨rfl, (W1.out.p.quiet hb).q.bel⟩
        · by_cases hk6 : k < l.length
          · have hd : decide (k < l.length) = true := decide_eq_true hk6
            have hd2 : decide (k < 60) = false := decide_eq_false (by omega)
            go_wp2_with fail
            refine (awake17_any _).mono ?_
            rintro e w3 ⟨rfl, hb⟩
            go_wp2_with fail
            go_ret
            exact ⟨rfl, (W1.out.p.quiet hb).q.bel⟩
          · have hd : decide (k < l.length) = false := decide_eq_false (by omega)
            go_wp2_with fail
            refine (awake17_any _).mono ?_
            rintro e w3 ⟨rfl, hb⟩
            go_wp2_with fail
            go_ret
            exact ⟨rfl, (W1.out.p.quiet hb).q.bel⟩
theorem queues_walk (A : Option Addr) (bs : List Int) (c : Nat) (A2 : Option Addr) (xs : List S36) (c2 : Nat) (A3 : Option Addr) (l : List Int) (c3 : Nat) (w : World) (hA : RdI w A bs) (hc : bs.length ≤ c) (hbl : bs.length * 8 ≤ 140737488351232) (hX : RdA w A2 xs) (hc2 : xs.length ≤ c2) (hx : xs.length * 120 ≤ 140737488351232) (hh : ∀ x ∈ xs, x.f6.length ≤ 17592186044415) (hB : RdI w A3 l) (hc3 : l.length ≤ c3) (hl : l.length * 8 ≤ 140737488351232) :
    Calls Try.prog 3 #[.slice A bs.length c, .slice A2 xs.length c2, .slice A3 l.length c3] w fun e w' => e = .returned (.bool true) ∧ Below w.heap.size w w' := queues_any A bs c A2 xs c2 A3 l c3 w hA hc (by omega) hX hc2 (by omega) hh hB hc3 (by omega)
end Go.Proofs.Ytfgabafbcephaaa.My

namespace Go.Proofs.Ytfgabafbcephaaa.My
open Go.RowKit Pa Go.Proofs.YtfgabafbcephaaaW.PrintWords

theorem rd_of_row {w : World} {x : Addr} {len cap : Nat} {zs : List Int} (hl : len ≤ cap) (hm : cap ≤ maxLen) (hz : zs.length = cap)
    (hc : ∀ i, i < zs.length → w.cell? (x.add i) = some (.int .i64 (zs.getD i 0))) (hw : ∀ n ∈ zs, (Lit.int .i64 n).wf = true) :
    ∃ l : List Int, len = l.length ∧ RdI w (some x) l ∧ ∀ n ∈ l, (Lit.int .i64 n).wf = true := by
  refine ⟨zs.take len, by rw [List.length_take]; omega, ⟨rfl, ?_, fun _ => ⟨x, rfl, fun j p hp => ⟨[.int .i64 p], rfl, rfl, fun i u hu => ?_⟩⟩⟩, fun n hn => hw n (List.mem_of_mem_take hn)⟩
  · rw [List.length_take]
    have h : maxLen = 9223372036854775807 := by simp [maxLen]
    omega
  · rw [show j * (Kd.int .i64).sz + i = j + i by rw [show (Kd.int .i64).sz = 1 from rfl, Nat.mul_one]]
    cases i with
    | zero =>
      simp at hu
      subst hu
      have hj := (List.getElem?_eq_some_iff.1 hp).1
      rw [List.length_take] at hj
      have h1 := hc j (by omega)
      rw [List.getElem?_take] at hp
      split at hp
      · rw [List.getD_eq_getElem?_getD, hp] at h1
        exact h1
      · cases hp
    | succ i => simp at hu
end Go.Proofs.Ytfgabafbcephaaa.My

namespace Go.Proofs.Ytfgabafbcephaaa.My
open Go.RowKit Go.ChangeShapes Go.WideShapes Go.Deep Go.Joins Pa Go.Proofs.YtfgabafbcephaaaW.PrintWords

section
variable {H : Type} {enc : TypeId × Value → H} {W : World} {fuel base : Nat} {spare : Nat → Bool} {held : Bool} {x : DataW H × List MemPlace}

theorem open_int {cs : List Value} (h : DataW.trod enc Try.prog W base spare held fuel 3 cs = some x) : ∃ n, cs = [.int .i64 n] ∧ (Lit.int .i64 n).wf = true := by
  obtain ⟨n, e, _, hw⟩ := DataW.trod_int Try.underlying3 h
  exact ⟨n, e, hw⟩
def Wf26 (a : S34) : Prop := (Lit.int .i64 a.f0).wf = true ∧ (Lit.int .i64 a.f1).wf = true ∧ (Lit.int .i64 a.f2).wf = true ∧ (Lit.int .i64 a.f3).wf = true
theorem one_cell {cs : List Value} {k : Nat} {v : Value} (h : (cs.drop k).take 1 = [v]) : cs[k]? = some v := by
  have e : ((cs.drop k).take 1)[0]? = some v := by rw [h]; rfl
  rw [List.getElem?_take, if_pos (by decide), List.getElem?_drop] at e
  simpa using e
theorem list4 {cs : List Value} {a b c d : Value} (hl : cs.length = 4) (h0 : cs[0]? = some a) (h1 : cs[1]? = some b) (h2 : cs[2]? = some c) (h3 : cs[3]? = some d) : cs = [a, b, c, d] := by
  match cs, hl with
  | [_, _, _, _], _ => simp_all
theorem open_item {cs : List Value} (h : DataW.trod enc Try.prog W base spare held fuel 34 cs = some x) : ∃ a : S34, cs = [.int .i64 a.f0, .int .i64 a.f1, .int .i64 a.f2, .int .i64 a.f3] ∧ Wf26 a := by
  obtain ⟨y0, y1, y2, y3, n', _, hcl, t0, t1, t2, t3⟩ := trod_struct4 Try.underlying34 h
  obtain ⟨z0, e0, w0⟩ := open_int t0
  obtain ⟨z1, e1, w1⟩ := open_int t1
  obtain ⟨z2, e2, w2⟩ := open_int t2
  obtain ⟨z3, e3, w3⟩ := open_int t3
  have hc4 : Try.prog.cellsOf 34 = 4 := by kernel_rfl
  have hci : Try.prog.cellsOf 3 = 1 := by kernel_rfl
  rw [hc4] at hcl
  simp only [hci] at e0 e1 e2 e3
  exact ⟨⟨z0, z1, z2, z3⟩, list4 hcl (one_cell e0) (one_cell e1) (one_cell e2) (one_cell e3), w0, w1, w2, w3⟩
theorem open_row {A : Option Addr} {len cap : Nat} (h : DataW.trod enc Try.prog W base spare held fuel 22 [.slice A len cap] = some x) : ∃ l : List Int, len = l.length ∧ RdI W A l ∧ len ≤ cap ∧ ∀ n ∈ l, (Lit.int .i64 n).wf = true := by
  rcases open_ints Try.underlying22 Try.underlying3 (by kernel_rfl) h with ⟨hcs, _⟩ | ⟨x, l, c, zs, hcs, _, hl, hm, hz, _, hcell, hwz⟩
  · simp at hcs
    obtain ⟨rfl, rfl, rfl⟩ := hcs
    exact ⟨[], rfl, rdI_nil _, Nat.le_refl _, by simp⟩
  · simp at hcs
    obtain ⟨rfl, rfl, rfl⟩ := hcs
    have hzl : len ≤ zs.length := by rw [hz]; split <;> omega
    have hzc : zs.length ≤ cap := by rw [hz]; split <;> omega
    obtain ⟨l, e, hr, hw⟩ := rd_of_row hzl (Nat.le_trans hzc hm) rfl hcell hwz
    exact ⟨l, e, hr, hl, hw⟩
end
end Go.Proofs.Ytfgabafbcephaaa.My

namespace Go.Proofs.Ytfgabafbcephaaa.My
open Go.RowKit Pa Go.Proofs.YtfgabafbcephaaaW.PrintWords
set_option linter.unusedSimpArgs false

theorem spot_none {w : World} {a : Addr} {v : Value} (h : w.cell? a = some v) : a.spot = none := by
  unfold World.cell? at h
  split at h
  · split at h
    · cases h
    · rename_i hs
      cases e : a.spot with
      | none => rfl
      | some s => rw [e] at hs; exact absurd rfl hs
  · cases h
end Go.Proofs.Ytfgabafbcephaaa.My

namespace Go.Proofs.Ytfgabafbcephaaa.My
open Go.RowKit Go.ChangeShapes Go.WideShapes Go.Deep Go.Joins Pa Go.Proofs.YtfgabafbcephaaaW.PrintWords

theorem add_none (b o k : Nat) : (⟨b, o, none⟩ : Addr).add k = ⟨b, o + k, none⟩ := by unfold Addr.add; split <;> simp_all
theorem weightsAll_mem {H : Type} {P : Program} {e : TypeId} : ∀ {ds : List (DataW H)} {d : DataW H}, d ∈ ds → ∀ n ∈ d.weights P e, n ∈ DataW.weightsAll P e ds
  | a :: r, d, hd, n, hn => by
    simp only [DataW.weightsAll, List.mem_append]
    rcases List.mem_cons.1 hd with rfl | h
    · exact .inl hn
    · exact .inr (weightsAll_mem h n hn)
theorem trod_struct7 {H : Type} {enc : TypeId × Value → H} {P : Program} {w : World} {base : Nat} {spare : Nat → Bool} {held : Bool} {t : TypeId} {f0 f1 f2 f3 f4 f5 f6 : Field} {fuel : Nat} {cs : List Value} {x : DataW H × List MemPlace} (ht : P.underlying t = some (.struct #[f0, f1, f2, f3, f4, f5, f6])) (h : DataW.trod enc P w base spare held fuel t cs = some x) :
    ∃ y0 y1 y2 y3 y4 y5 y6 n, x.1 = .agg [y0.1, y1.1, y2.1, y3.1, y4.1, y5.1, y6.1] ∧ cs.length = P.cellsOf t ∧ DataW.trod enc P w base spare held n f0.type ((cs.drop f0.offset).take (P.cellsOf f0.type)) = some y0 ∧
      DataW.trod enc P w base spare held n f1.type ((cs.drop f1.offset).take (P.cellsOf f1.type)) = some y1 ∧ DataW.trod enc P w base spare held n f2.type ((cs.drop f2.offset).take (P.cellsOf f2.type)) = some y2 ∧
      DataW.trod enc P w base spare held n f3.type ((cs.drop f3.offset).take (P.cellsOf f3.type)) = some y3 ∧ DataW.trod enc P w base spare held n f4.type ((cs.drop f4.offset).take (P.cellsOf f4.type)) = some y4 ∧
      DataW.trod enc P w base spare held n f5.type ((cs.drop f5.offset).take (P.cellsOf f5.type)) = some y5 ∧ DataW.trod enc P w base spare held n f6.type ((cs.drop f6.offset).take (P.cellsOf f6.type)) = some y6 := by
  obtain ⟨xs, n, _, rfl, hl, hlen, hf⟩ := DataW.trod_struct ht h
  match xs, hlen with
  | [y0, y1, y2, y3, y4, y5, y6], _ => exact ⟨y0, y1, y2, y3, y4, y5, y6, n, by simp, hl, by simpa using hf 0 f0 rfl, by simpa using hf 1 f1 rfl, by simpa using hf 2 f2 rfl, by simpa using hf 3 f3 rfl, by simpa using hf 4 f4 rfl, by simpa using hf 5 f5 rfl, by simpa using hf 6 f6 rfl⟩
theorem four_cells {cs : List Value} {k : Nat} {a b c d : Value} (h : (cs.drop k).take 4 = [a, b, c, d]) : cs[k]? = some a ∧ cs[k + 1]? = some b ∧ cs[k + 2]? = some c ∧ cs[k + 3]? = some d := by
  have e : ∀ j, j < 4 → cs[k + j]? = [a, b, c, d][j]? := fun j hj => by rw [← h, List.getElem?_take, if_pos hj, List.getElem?_drop]
  exact ⟨e 0 (by decide), e 1 (by decide), e 2 (by decide), e 3 (by decide)⟩
section
variable {H : Type} {enc : TypeId × Value → H} {W : World} {fuel base : Nat} {spare : Nat → Bool} {held : Bool} {x : DataW H × List MemPlace}

theorem open_acc {cs : List Value} (h : DataW.trod enc Try.prog W base spare held fuel 36 cs = some x) (hw : ∀ n ∈ x.1.weights Try.prog 36, n ≤ reachBytes) :
    ∃ (a : S36) (A : Option Addr) (c : Nat), a.f6.length ≤ c ∧ RdI W A a.f6 ∧ a.f6.length ≤ 17592186044415 ∧ cs.length = 13 ∧ ∀ j, j < 13 → cs[j]? = (accC a (.slice A a.f6.length c))[j]? := by
  obtain ⟨y0, y1, y2, y3, y4, y5, y6, n', hx, hcl, t0, t1, t2, t3, t4, t5, t6⟩ := trod_struct7 Try.underlying36 h
  obtain ⟨z0, e0, _⟩ := open_int t0
  obtain ⟨z1, e1, _⟩ := open_int t1
  obtain ⟨z2, e2, _⟩ := open_int t2
  obtain ⟨z3, e3, _⟩ := open_int t3
  obtain ⟨i4, e4, _⟩ := open_item t4
  obtain ⟨i5, e5, _⟩ := open_item t5
  have hci : Try.prog.cellsOf 3 = 1 := by kernel_rfl
  have hc4 : Try.prog.cellsOf 34 = 4 := by kernel_rfl
  have hcs : Try.prog.cellsOf 22 = 1 := by kernel_rfl
  have hca : Try.prog.cellsOf 36 = 13 := by kernel_rfl
  simp only [hci] at e0 e1 e2 e3
  simp only [hc4] at e4 e5
  rw [hca] at hcl
  obtain ⟨A, len, cap, e6, elems, spare', hy6, hel⟩ : ∃ A len cap, (cs.drop 12).take (Try.prog.cellsOf 22) = [.slice A len cap] ∧ ∃ elems spare', (y6.1 = .nil ∧ len = 0 ∨ y6.1 = DataW.slice elems spare') ∧ (y6.1 = DataW.slice elems spare' → elems.length = len) := by
    rcases open_slice Try.underlying22 t6 with ⟨e, e'⟩ | ⟨q, l, c, m, n, D, Pl, e, _, _, _, _, e', _⟩
    · exact ⟨none, 0, 0, e, [], [], .inl ⟨by rw [e'], rfl⟩, fun h => by rw [e'] at h; cases h⟩
    · exact ⟨some q, l, c, e, _, _, .inr (by rw [e']), fun h => by simp⟩
  have t6' : DataW.trod enc Try.prog W base spare held n' 22 [.slice A len cap] = some y6 := by rw [← e6]; exact t6
  obtain ⟨l, hl, hr, hcap, _⟩ := open_row t6'
  have hb : len ≤ 17592186044415 := by
    rcases hy6 with ⟨_, h0⟩ | hy
    · omega
    · have h1 := hw ((elems.length + spare'.length) * Try.prog.bytesOf 3) (by
        rw [hx]
        have hu := Try.underlying36
        have hu2 := Try.underlying22
        simp only [DataW.weights, hu]
        refine DataW.weights_mem_each (j := 6) (t := 22) (d := y6.1) rfl rfl _ ?_
        rw [hy]
        simp [DataW.weights, hu2])
      rw [show Try.prog.bytesOf 3 = 8 from by kernel_rfl, hel hy, show reachBytes = 140737488351232 from rfl] at h1
      omega
  subst hl
  obtain ⟨c4, c5, c6, c7⟩ := four_cells e4
  obtain ⟨c8, c9, c10, c11⟩ := four_cells e5
  rw [hcs] at e6
  have c0 := one_cell (k := 0) e0
  have c1 := one_cell (k := 1) e1
  have c2 := one_cell (k := 2) e2
  have c3 := one_cell (k := 3) e3
  have c12 := one_cell (k := 12) e6
  refine ⟨⟨z0, z1, z2, z3, i4, i5, l⟩, A, cap, hcap, hr, hb, hcl, fun j hj => ?_⟩
  match j, hj with
  | 0, _ => exact c0
  | 1, _ => exact c1
  | 2, _ => exact c2
  | 3, _ => exact c3
  | 4, _ => exact c4
  | 5, _ => exact c5
  | 6, _ => exact c6
  | 7, _ => exact c7
  | 8, _ => exact c8
  | 9, _ => exact c9
  | 10, _ => exact c10
  | 11, _ => exact c11
  | 12, _ => exact c12
theorem open_accs {A : Option Addr} {len cap : Nat} (h : DataW.trod enc Try.prog W base spare held fuel 23 [.slice A len cap] = some x) (hw : ∀ n ∈ x.1.weights Try.prog 23, n ≤ reachBytes) :
    ∃ l : List S36, len = l.length ∧ RdA W A l ∧ len ≤ cap ∧ (∀ y ∈ l, y.f6.length ≤ 17592186044415) ∧ len * 120 ≤ 140737488351232 := by
  rcases open_slice Try.underlying23 h with ⟨hcs, _⟩ | ⟨q, l, c, m, n, D, Pl, hcs, _, hl, hm, hme, hx, hel⟩
  · simp at hcs
    obtain ⟨rfl, rfl, rfl⟩ := hcs
    exact ⟨[], rfl, rdA_nil _ _, Nat.le_refl _, by simp, by simp⟩
  · simp at hcs
    obtain ⟨rfl, rfl, rfl⟩ := hcs
    have hlm : len ≤ m := by rw [hme]; split <;> omega
    have hu := Try.underlying23
    have hca : Try.prog.cellsOf 36 = 13 := by kernel_rfl
    rw [hca] at hel
    have hsz : len * 120 ≤ 140737488351232 := by
      have h1 := hw ((((List.range len).map D).length + ((List.range (m - len)).map fun j => D (len + j)).length) * Try.prog.bytesOf 36) (by
        rw [hx]
        simp [DataW.weights, hu])
      rw [show Try.prog.bytesOf 36 = 120 from by kernel_rfl, show reachBytes = 140737488351232 from rfl] at h1
      simp only [List.length_map, List.length_range] at h1
      exact Nat.le_trans (Nat.mul_le_mul_right _ (Nat.le_add_right _ _)) h1
    have hone : ∀ i, i < len → ∃ z : S36, z.f6.length ≤ 17592186044415 ∧ ∃ (A : Option Addr) (c : Nat), z.f6.length ≤ c ∧ RdI W A z.f6 ∧ ∀ j u, (accC z (.slice A z.f6.length c))[j]? = some u → W.cell? ((q.add (i * 13)).add j) = some u := fun i hi => by
      obtain ⟨cs, h1, h2⟩ := hel i (by omega)
      obtain ⟨z, A, c, hlc, hr, hb, hlen, hj⟩ := open_acc h2 (fun n hn => hw n (by
        rw [hx]
        simp only [DataW.weights, hu, List.mem_cons, List.mem_append]
        refine .inr (.inl (weightsAll_mem (d := D i) ?_ n hn))
        exact List.mem_map.2 ⟨i, List.mem_range.2 hi, rfl⟩))
      obtain ⟨_, _, hc⟩ := World.cells?_some h1
      refine ⟨z, hb, A, c, hlc, hr, fun j u hu => ?_⟩
      have hjl : j < 13 := by
        have := (List.getElem?_eq_some_iff.1 hu).1
        rwa [accC_len] at this
      exact (hc j hjl).trans ((hj j hjl).trans hu)
    have : Inhabited S36 := ⟨z36⟩
    obtain ⟨Z, hZ⟩ := choose_lt hone
    refine ⟨(List.range len).map Z, by simp, fun hp => ?_, hl, fun y hy => ?_, hsz⟩
    · have hlen : ((List.range len).map Z).length = len := by simp
      rw [hlen] at hp
      obtain ⟨_, A0, c0, _, _, h0⟩ := hZ 0 (by omega)
      have h00 := h0 0 _ rfl
      have hs : q.spot = none := by
        have := spot_none h00
        simpa [Addr.add] using this
      obtain ⟨b, o, sp⟩ := q
      simp only at hs
      subst hs
      refine ⟨b, o, rfl, by have := block_lt_of_cell h00; simpa [Addr.add] using this, fun i hi => ?_⟩
      rw [hlen] at hi
      obtain ⟨_, Ai, ci, hlc, hr, hc⟩ := hZ i hi
      have e : ((List.range len).map Z).getD i z36 = Z i := by simp [List.getD_eq_getElem?_getD, hi]
      rw [e]
      have ha : ∀ j, ((⟨b, o, none⟩ : Addr).add (i * 13)).add j = ⟨b, o + i * 13 + j, none⟩ := fun j => by rw [add_none, add_none]
      simp only [ha] at hc
      exact ⟨Ai, ci, hc 0 _ rfl, hc 1 _ rfl, hc 2 _ rfl, hc 3 _ rfl, hc 4 _ rfl, hc 5 _ rfl, hc 6 _ rfl, hc 7 _ rfl, hc 8 _ rfl, hc 9 _ rfl, hc 10 _ rfl, hc 11 _ rfl, hc 12 _ rfl, hlc, hr⟩
    · obtain ⟨i, hi, rfl⟩ := List.mem_map.1 hy
      exact (hZ i (List.mem_range.1 hi)).1
end
end Go.Proofs.Ytfgabafbcephaaa.My
