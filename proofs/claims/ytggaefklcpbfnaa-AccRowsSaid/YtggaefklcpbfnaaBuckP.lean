/- Into which bucket: what AccBuckets' items are together, in plain Lean. No statement of the seed is proved here. -/
import Derived.Test.YtggaefklcpbfnaaAccN
import Derived.Test.YtggaefklcpbfnaaAccH
namespace Go.Proofs.Ytggaefklcpbfnaa.My
open Go.RowKit Pa Go.Proofs.YtggaefklcpbfnaaW.PrintWords
set_option linter.unusedSimpArgs false

theorem allm_like {bs : List Int} (hb : bmay bs = true) {s : Int} : ∀ {xs : List S28} {f : Int}, (∀ x ∈ xs, May1 bs x ∧ x.f4.f0 = s) → (f = -1 ∨ f = s) → allm bs f xs = true
  | [], _, _, _ => hb
  | x :: r, f, h, hf => by
    have hx := h x (List.mem_cons_self ..)
    unfold allm
    rw [if_pos hx.1.amay, if_pos (show 0 < x.f0 from by have := hx.1.c; omega)]
    rw [if_neg (by rcases hf with rfl | rfl
                   · simp
                   · rw [hx.2]; simp)]
    exact allm_like hb (fun y hy => h y (List.mem_cons_of_mem _ hy)) (.inr hx.2)
theorem cnt_append (xs : List S28) (y : S28) : cnt (xs ++ [y]) = cnt xs + y.f0 := by
  unfold cnt
  rw [List.map_append, List.sum_append]
  simp
theorem joinA_append (bs : List Int) (xs : List S28) (y : S28) : joinA bs (xs ++ [y]) = stepA (joinA bs xs) y := by
  unfold joinA
  rw [List.foldl_append]
  rfl

def bb : List Int := [-50, 0, 20, 300]
theorem bmay_bb : bmay bb = true := by decide +kernel
/-- Into which bucket. -/
def kB (v : Int) : Nat := if 300 < v then 4 else if 20 < v then 3 else if 0 < v then 2 else if -50 < v then 1 else 0
theorem bucket_bb (v : Int) : bucket bb v = kB v := by
  unfold bucket kB
  show bkt bb v 4 0 = _
  simp only [bkt, bb, List.getD_cons_zero, List.getD_cons_succ]
  repeat' split
  all_goals first | rfl | omega
def bv (n : Int) : Int := bits .and .i64 n 1023 - 500
def bk (i v : Int) : S28 := one ⟨0, i, i + 1, v⟩ bb
theorem one_bk {i v : Int} (hi : 0 ≤ i) (hi2 : i ≤ 40) (h1 : -500 ≤ v) (h2 : v ≤ 523) : oneRes ⟨0, i, i + 1, v⟩ bb = (bk i v, 0) ∧ May1 bb (bk i v) := by
  have hm : imay ⟨0, i, i + 1, v⟩ = true := by
    unfold imay
    rw [decide_eq_true_eq]
    simp only []
    omega
  refine ⟨?_, may1_one hm bmay_bb⟩
  unfold oneRes
  rw [hm, bmay_bb]
  rfl
/-- So many items of the row. -/
def bks (l : List Int) : Nat → List S28
  | 0 => []
  | k + 1 => bks l k ++ [bk k (bv (l.getD k 0))]
theorem bks_len (l : List Int) : ∀ k, (bks l k).length = k
  | 0 => rfl
  | k + 1 => by
    show (bks l k ++ _).length = _
    rw [List.length_append, bks_len l k]
    rfl
theorem bks_may {l : List Int} (hl : ∀ k, -500 ≤ bv (l.getD k 0) ∧ bv (l.getD k 0) ≤ 523) : ∀ k, k ≤ 40 → ∀ x ∈ bks l k, May1 bb x ∧ x.f4.f0 = 0
  | 0, _, x, hx => by cases hx
  | k + 1, hk, x, hx => by
    have hx : x ∈ bks l k ++ [bk k (bv (l.getD k 0))] := hx
    rcases List.mem_append.1 hx with hx | hx
    · exact bks_may hl k (by omega) x hx
    · rw [List.mem_singleton.1 hx]
      exact ⟨(one_bk (by omega) (by omega) (hl k).1 (hl k).2).2, rfl⟩
theorem bks_cnt (l : List Int) : ∀ k, cnt (bks l k) = k
  | 0 => rfl
  | k + 1 => by
    show cnt (bks l k ++ _) = _
    rw [cnt_append, bks_cnt l k]
    show (k : Int) + 1 = _
    omega
theorem bks_join {l : List Int} (hl : ∀ k, -500 ≤ bv (l.getD k 0) ∧ bv (l.getD k 0) ≤ 523) {k : Nat} (hk : k ≤ 40) : joinRes bb (bks l k) = (joinA bb (bks l k), 0) := by
  unfold joinRes
  rw [if_pos (allm_like bmay_bb (s := 0) (bks_may hl k hk) (.inl rfl)), if_neg (by rw [bks_cnt]; omega)]
/-- How many of each bucket. -/
def wnt (l : List Int) (k : Nat) : List Int := (joinA bb (bks l k)).f6
theorem wnt_zero (l : List Int) : wnt l 0 = [0, 0, 0, 0, 0] := by
  show (join0 bb).f6 = _
  decide +kernel
theorem wnt_succ (l : List Int) (k : Nat) : wnt l (k + 1) = hadd (wnt l k) ((List.replicate 5 0).set (kB (bv (l.getD k 0))) 1) := by
  unfold wnt
  show (joinA bb (bks l k ++ [bk k (bv (l.getD k 0))])).f6 = _
  rw [joinA_append]
  unfold stepA
  rw [if_pos (show 0 < (bk k (bv (l.getD k 0))).f0 from by show (0 : Int) < 1; decide), (addA_f0 _ _).2.2]
  show hadd _ ((List.replicate 5 0).set (bucket bb (bv (l.getD k 0))) 1) = _
  rw [bucket_bb]
/-- Five numbers, none above so many. -/
def Five (l : List Int) (k : Nat) (h0 h1 h2 h3 h4 : Int) : Prop := wnt l k = [h0, h1, h2, h3, h4] ∧ 0 ≤ h0 ∧ 0 ≤ h1 ∧ 0 ≤ h2 ∧ 0 ≤ h3 ∧ 0 ≤ h4 ∧ h0 ≤ k ∧ h1 ≤ k ∧ h2 ≤ k ∧ h3 ≤ k ∧ h4 ≤ k
theorem five_zero (l : List Int) : Five l 0 0 0 0 0 0 := ⟨wnt_zero l, by decide⟩
theorem five_4 {l : List Int} {k : Nat} {h0 h1 h2 h3 h4 : Int} (h : Five l k h0 h1 h2 h3 h4) (hk : kB (bv (l.getD k 0)) = 4) : Five l (k + 1) h0 h1 h2 h3 (h4 + 1) := by
  obtain ⟨e, hb⟩ := h
  exact ⟨by rw [wnt_succ, e, hk]; simp [hadd], by omega⟩
theorem five_3 {l : List Int} {k : Nat} {h0 h1 h2 h3 h4 : Int} (h : Five l k h0 h1 h2 h3 h4) (hk : kB (bv (l.getD k 0)) = 3) : Five l (k + 1) h0 h1 h2 (h3 + 1) h4 := by
  obtain ⟨e, hb⟩ := h
  exact ⟨by rw [wnt_succ, e, hk]; simp [hadd], by omega⟩
theorem five_2 {l : List Int} {k : Nat} {h0 h1 h2 h3 h4 : Int} (h : Five l k h0 h1 h2 h3 h4) (hk : kB (bv (l.getD k 0)) = 2) : Five l (k + 1) h0 h1 (h2 + 1) h3 h4 := by
  obtain ⟨e, hb⟩ := h
  exact ⟨by rw [wnt_succ, e, hk]; simp [hadd], by omega⟩
theorem five_1 {l : List Int} {k : Nat} {h0 h1 h2 h3 h4 : Int} (h : Five l k h0 h1 h2 h3 h4) (hk : kB (bv (l.getD k 0)) = 1) : Five l (k + 1) h0 (h1 + 1) h2 h3 h4 := by
  obtain ⟨e, hb⟩ := h
  exact ⟨by rw [wnt_succ, e, hk]; simp [hadd], by omega⟩
theorem five_0 {l : List Int} {k : Nat} {h0 h1 h2 h3 h4 : Int} (h : Five l k h0 h1 h2 h3 h4) (hk : kB (bv (l.getD k 0)) = 0) : Five l (k + 1) (h0 + 1) h1 h2 h3 h4 := by
  obtain ⟨e, hb⟩ := h
  exact ⟨by rw [wnt_succ, e, hk]; simp [hadd], by omega⟩
end Go.Proofs.Ytggaefklcpbfnaa.My
