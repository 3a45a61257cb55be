/- AccRows' items, in plain Lean. No statement of the seed is proved here. -/
import Derived.Test.YtggaefklcpbfnaaRowsQ
import Derived.Test.YtggaefklcpbfnaaAccFormsP
namespace Go.Proofs.Ytggaefklcpbfnaa.My
open Go.RowKit Pa Go.Proofs.YtggaefklcpbfnaaW.PrintWords
set_option linter.unusedSimpArgs false

def tv (n : Int) : Int := bits .and .i64 (n / 256) 7 - 3
def vv (n : Int) : Int := bits .and .i64 n 255 - 100
theorem tv_b (n : Int) : -3 ≤ tv n ∧ tv n ≤ 4 := by
  have h := and_bound (n / 256) 7 (by decide)
  have e : bits .and .i64 (n / 256) ((7 : Nat) : Int) = bits .and .i64 (n / 256) 7 := rfl
  rw [e] at h
  unfold tv
  omega
theorem vv_b (n : Int) : -100 ≤ vv n ∧ vv n ≤ 155 := by
  have h := and_bound n 255 (by decide)
  have e : bits .and .i64 n ((255 : Nat) : Int) = bits .and .i64 n 255 := rfl
  rw [e] at h
  unfold vv
  omega
def rit (n k : Int) : S26 := ⟨3, tv n, k + 1, vv n⟩
theorem rit_may {n k : Int} (h0 : 0 ≤ k) (h1 : k ≤ 20) : imay (rit n k) = true := by
  have := tv_b n
  have := vv_b n
  unfold imay rit
  rw [decide_eq_true_eq]
  simp only []
  omega
def rits (l : List Int) : Nat → List S26
  | 0 => []
  | k + 1 => rits l k ++ [rit (l.getD k 0) k]
theorem rits_len (l : List Int) : ∀ k, (rits l k).length = k
  | 0 => rfl
  | k + 1 => by
    show (rits l k ++ _).length = _
    rw [List.length_append, rits_len l k]
    rfl
theorem rits_mem {l : List Int} : ∀ {k : Nat} {x : S26}, x ∈ rits l k → ∃ i, i < k ∧ x = rit (l.getD i 0) i
  | 0, x, hx => by cases hx
  | k + 1, x, hx => by
    have hx : x ∈ rits l k ++ [rit (l.getD k 0) k] := hx
    rcases List.mem_append.1 hx with h | h
    · obtain ⟨i, hi, e⟩ := rits_mem h
      exact ⟨i, by omega, e⟩
    · exact ⟨k, by omega, List.mem_singleton.1 h⟩
theorem rits_ok {l : List Int} {k : Nat} (hk : k ≤ 20) : ∀ x ∈ rits l k, imay x = true ∧ x.f0 = 3 := fun x hx => by
  obtain ⟨i, hi, rfl⟩ := rits_mem hx
  exact ⟨rit_may (by omega) (by omega), rfl⟩
theorem ord_zero {a b : S26} (h : ord a b = 0) : a.f2 = b.f2 := by
  unfold ord at h
  (repeat' split at h) <;> omega
theorem rits_dis (l : List Int) (k : Nat) : Dis (rits l k) := fun a ha b hb h => by
  obtain ⟨i, hi, rfl⟩ := rits_mem ha
  obtain ⟨j, hj, rfl⟩ := rits_mem hb
  have e := ord_zero h
  have e2 : (i : Int) + 1 = (j : Int) + 1 := e
  obtain rfl : i = j := by omega
  rfl
theorem one_rit {n k : Int} {bs : List Int} (hb : bmay bs = true) (h0 : 0 ≤ k) (h1 : k ≤ 20) : oneRes (rit n k) bs = (one (rit n k) bs, 0) := by
  unfold oneRes
  rw [rit_may h0 h1, hb]
  rfl
/-- All that is put together, and how it meets. -/
theorem rows_meet {bs : List Int} (hb : bmay bs = true) (l : List Int) {k at_ : Nat} (hk : k ≤ 20) (ha : at_ ≤ k) : ∃ a c d : S28,
    joinRes bs ((rits l k).map (fun x => one x bs)) = (a, 0) ∧ joinRes bs ((rits l k).reverse.map (fun x => one x bs)) = (a, 0) ∧
    joinRes bs (((rits l k).take at_).map (fun x => one x bs)) = (c, 0) ∧ joinRes bs (((rits l k).drop at_).map (fun x => one x bs)) = (d, 0) ∧ joinRes bs [d, c] = (a, 0) ∧ a.f0 = k := by
  have hL := rits_ok (l := l) hk
  have hn : (rits l k).length = k := rits_len l k
  have hd := rits_dis l k
  generalize rits l k = L at *
  obtain ⟨a, ja, ra⟩ := join_items hb hL (by omega)
  obtain ⟨b, jb, rb⟩ := join_items (L := L.reverse) hb (s := 3) (fun x hx => hL x (List.mem_reverse.1 hx)) (by simp; omega)
  obtain ⟨c, jc, rc⟩ := join_items (L := L.take at_) hb (s := 3) (fun x hx => hL x (List.mem_of_mem_take hx)) (by simp; omega)
  obtain ⟨d, jd, rd⟩ := join_items (L := L.drop at_) hb (s := 3) (fun x hx => hL x (List.mem_of_mem_drop hx)) (by simp; omega)
  obtain ⟨x, jx, rx⟩ := join_pair hb rd rc (fun x hx => by
    rcases List.mem_append.1 hx with h | h
    · exact (hL x (List.mem_of_mem_drop h)).2
    · exact (hL x (List.mem_of_mem_take h)).2) (by simp; omega)
  have eb : a = b := rz_same ra rb (List.reverse_perm L).symm hd
  have ex : a = x := rz_same ra rx (by
    have h1 : (L.take at_ ++ L.drop at_).Perm (L.drop at_ ++ L.take at_) := List.perm_append_comm
    rwa [List.take_append_drop] at h1) hd
  subst eb ex
  exact ⟨a, c, d, ja, jb, jc, jd, jx, by rw [rz_count ra, hn]⟩
end Go.Proofs.Ytggaefklcpbfnaa.My
