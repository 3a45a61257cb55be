/- Of like stamps the first argument's first, the last one's last: in plain Lean. No statement of the seed is proved here. -/
import Derived.Test.YtggaefklcpbfnaaAccMany
namespace Go.Proofs.Ytggaefklcpbfnaa
open Go.RowKit PAccs Go.Proofs.YtggaefklcpbfnaaW.PrintWords
set_option linter.unusedSimpArgs false

/-- One item's, of the one stamp. -/
def tie (v : Int) : S28 := ⟨1, v, v, v, ⟨4, 7, 9, v⟩, ⟨4, 7, 9, v⟩, [1]⟩
theorem imay_tie {v : Int} (h1 : 0 ≤ v) (h2 : v ≤ 255) : imay ⟨4, 7, 9, v⟩ = true := by
  unfold imay
  rw [decide_eq_true_eq]
  simp only []
  omega
theorem one_tie {v : Int} (h1 : 0 ≤ v) (h2 : v ≤ 255) : oneRes ⟨4, 7, 9, v⟩ [] = (tie v, 0) := by
  unfold oneRes
  rw [imay_tie h1 h2]
  rfl
theorem amay_tie {v : Int} (h1 : 0 ≤ v) (h2 : v ≤ 255) : amay (tie v) [] = true := by
  have hi : imay ⟨4, 7, 9, v⟩ = true := imay_tie h1 h2
  have hk : iok (tie v) ⟨4, 7, 9, v⟩ = true := by
    unfold iok
    rw [hi]
    simp [tie]
  have he : emay (tie v) = true := by
    unfold emay
    show (iok (tie v) ⟨4, 7, 9, v⟩ && (iok (tie v) ⟨4, 7, 9, v⟩ && (decide ((4 : Int) = 4) && decide (ord ⟨4, 7, 9, v⟩ ⟨4, 7, 9, v⟩ ≤ 0)))) = true
    rw [hk, ord_self]
    rfl
  have hw : wm v = true := by
    unfold wm
    rw [decide_eq_true_eq]
    omega
  unfold amay
  show (bmay [] && (decide (1 ≤ 0 + 1) && (hmay [1] 0 1 && (decide ((0 : Int) ≤ 1) && (decide ((1 : Int) ≤ 8192) && (if (1 : Int) = 0 then bareB (tie v) else wm v && (wm v && (decide (v ≤ v) && (emay (tie v) && (decide (1 * v ≤ v) && decide (v ≤ 1 * v))))))))))) = true
  rw [he, hw, if_neg (by decide), Int.one_mul, decide_eq_true (Int.le_refl v)]
  rfl
theorem allm_tie : ∀ {vs : List Int} {f : Int}, (∀ v ∈ vs, 0 ≤ v ∧ v ≤ 255) → (f = -1 ∨ f = 4) → allm [] f (vs.map tie) = true
  | [], _, _, _ => rfl
  | v :: r, f, h, hf => by
    have hv := h v (List.mem_cons_self ..)
    show allm [] f (tie v :: r.map tie) = true
    unfold allm
    rw [if_pos (amay_tie hv.1 hv.2), if_pos (show 0 < (tie v).f0 from by show (0 : Int) < 1; decide)]
    rw [if_neg (by rcases hf with rfl | rfl <;> simp [tie])]
    exact allm_tie (fun y hy => h y (List.mem_cons_of_mem _ hy)) (.inr rfl)
theorem cnt_tie (vs : List Int) : cnt (vs.map tie) = vs.length := by
  unfold cnt
  induction vs with
  | nil => rfl
  | cons v r ih =>
    simp only [List.map_cons, List.sum_cons, List.length_cons] at *
    rw [ih]
    simp [tie]
    omega
/-- As far as it has come: of so many, the first one, the last one. -/
def Tied (o : S28) (h l j : Int) : Prop := o.f0 = j ∧ 0 < j ∧ o.f4 = ⟨4, 7, 9, h⟩ ∧ o.f5 = ⟨4, 7, 9, l⟩
theorem ord_tie (a b : Int) : ord ⟨4, 7, 9, a⟩ ⟨4, 7, 9, b⟩ = 0 := by
  unfold ord
  simp
theorem tied_first (v : Int) : Tied (stepA (join0 []) (tie v)) v v 1 := by
  unfold stepA
  rw [if_pos (show 0 < (tie v).f0 from by show (0 : Int) < 1; decide)]
  unfold Tied addA fst_ add3 add4 add5 add6 join0 tie
  simp [ord_tie]
theorem tied_step {o : S28} {h l j : Int} (ht : Tied o h l j) (v : Int) : Tied (stepA o (tie v)) h v (j + 1) := by
  obtain ⟨h0, hj, h4, h5⟩ := ht
  obtain ⟨o0, o1, o2, o3, o4, o5, o6⟩ := o
  simp only at h0 h4 h5
  subst h0 h4 h5
  have hz : ¬ o0 = 0 := by omega
  unfold stepA
  rw [if_pos (show 0 < (tie v).f0 from by show (0 : Int) < 1; decide)]
  unfold Tied addA fst_ add3 add4 add5 add6 tie
  simp [ord_tie, hz]
  omega
theorem tied_fold : ∀ (vs : List Int) {o : S28} {h l j : Int}, Tied o h l j → Tied ((vs.map tie).foldl stepA o) h (vs.getLastD l) (j + vs.length)
  | [], _, _, _, _, ht => by simpa using ht
  | v :: r, o, h, l, j, ht => by
    have h1 := tied_fold r (tied_step ht v)
    have e : (v :: r).getLastD l = r.getLastD v := by
      cases r with
      | nil => rfl
      | cons a r => simp [List.getLastD]
    rw [e, List.length_cons]
    have e2 : j + 1 + (r.length : Int) = j + ((r.length + 1 : Nat) : Int) := by omega
    rw [← e2]
    exact h1
theorem join_tie (v : Int) (r : List Int) : Tied (joinA [] ((v :: r).map tie)) v (r.getLastD v) (1 + r.length) := tied_fold r (tied_first v)
end Go.Proofs.Ytggaefklcpbfnaa
