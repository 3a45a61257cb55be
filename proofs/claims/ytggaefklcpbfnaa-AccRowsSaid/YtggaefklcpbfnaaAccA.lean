/- What is known of one item: the bounds, the order, One. No statement of the seed is proved here. -/
import Derived.Test.YtggaefklcpbfnaaPaLeaf
import Derived.Test.YtggaefklcpbfnaaPaEq0
import Derived.Test.YtggaefklcpbfnaaText
import Derived.Test.YtggaefklcpbfnaaMix
import Derived.BigQuiet
import Derived.Deep.LoopGhost
import Derived.Lib.Hide
namespace Go.Proofs.Ytggaefklcpbfnaa.My
open Go.RowKit Pa Go.Proofs.YtggaefklcpbfnaaW.PrintWords

/-- May an item be? -/
def imay (x : S26) : Bool := decide (0 ≤ x.f0 ∧ x.f0 ≤ 1048575 ∧ -1099511627776 ≤ x.f1 ∧ x.f1 ≤ 1099511627776 ∧ 1 ≤ x.f2 ∧ x.f2 ≤ 1073741823 ∧ -1099511627776 ≤ x.f3 ∧ x.f3 ≤ 1099511627776)
/-- The items' row. -/
def ord (a b : S26) : Int := if a.f1 < b.f1 then -1 else if b.f1 < a.f1 then 1 else if a.f2 < b.f2 then -1 else if b.f2 < a.f2 then 1 else 0
def wm (x : Int) : Bool := decide (-1099511627776 ≤ x ∧ x ≤ 1099511627776)
def bok (bs : List Int) (i : Nat) : Bool := wm (bs.getD i 0) && (decide (i = 0) || decide (bs.getD (i - 1) 0 < bs.getD i 0))
def ball (bs : List Int) : Nat → Nat → Bool
  | 0, _ => true
  | n + 1, i => bok bs i && ball bs n (i + 1)
/-- May bounds be? -/
def bmay (bs : List Int) : Bool := decide (bs.length ≤ 8) && ball bs bs.length 0
def bkt (bs : List Int) (v : Int) : Nat → Nat → Nat
  | 0, i => i
  | n + 1, i => if v ≤ bs.getD i 0 then i else bkt bs v n (i + 1)
/-- Into which bucket a value falls. -/
def bucket (bs : List Int) (v : Int) : Nat := bkt bs v bs.length 0
def one (x : S26) (bs : List Int) : S28 := ⟨1, x.f3, x.f3, x.f3, x, x, (List.replicate (bs.length + 1) 0).set (bucket bs x.f3) 1⟩
def oneRes (x : S26) (bs : List Int) : S28 × Int := if imay x && bmay bs then (one x bs, 0) else (z28, 100)
def itV (x : S26) : Value := .agg #[.int .i64 x.f0, .int .i64 x.f1, .int .i64 x.f2, .int .i64 x.f3]
/-- An aggregate as a value, its buckets at v. -/
def acV (a : S28) (v : Value) : Value := .agg #[.int .i64 a.f0, .int .i64 a.f1, .int .i64 a.f2, .int .i64 a.f3, .int .i64 a.f4.f0, .int .i64 a.f4.f1, .int .i64 a.f4.f2, .int .i64 a.f4.f3, .int .i64 a.f5.f0, .int .i64 a.f5.f1, .int .i64 a.f5.f2, .int .i64 a.f5.f3, v]

theorem bkt_le (bs : List Int) (v : Int) : ∀ n i, bkt bs v n i ≤ i + n
  | 0, i => by simp [bkt]
  | n + 1, i => by
    unfold bkt
    split
    · omega
    · have := bkt_le bs v n (i + 1)
      omega
theorem bucket_le (bs : List Int) (v : Int) : bucket bs v ≤ bs.length := by
  have := bkt_le bs v bs.length 0
  unfold bucket
  omega
theorem bmay_len {bs : List Int} (h : bmay bs = true) : bs.length ≤ 8 := by
  unfold bmay at h
  rw [Bool.and_eq_true, decide_eq_true_eq] at h
  exact h.1

theorem imay_f (x : S26) : acc_ItemMay.f x.f0 x.f1 x.f2 x.f3 = some (imay x) := by
  unfold acc_ItemMay.f acc_within.f imay
  have e : wrap64 (-1099511627776) = -1099511627776 := by unfold wrap64; rfl
  simp only [e]
  by_cases h1 : x.f0 ≥ 0 <;> by_cases h2 : x.f0 ≤ 1048575 <;> by_cases h3 : x.f1 ≥ -1099511627776 <;> by_cases h4 : x.f1 ≤ 1099511627776 <;> by_cases h5 : x.f2 ≥ 1 <;> by_cases h6 : x.f2 ≤ 1073741823 <;> by_cases h7 : x.f3 ≥ -1099511627776 <;> by_cases h8 : x.f3 ≤ 1099511627776 <;> simp [h1, h2, h3, h4, h5, h6, h7, h8] <;> omega
theorem wm_f (x : Int) : acc_within.f x 1099511627776 = some (wm x) := by
  unfold acc_within.f wm
  have e : wrap64 (-1099511627776) = -1099511627776 := by unfold wrap64; rfl
  simp only [e]
  by_cases h3 : x ≥ -1099511627776 <;> by_cases h4 : x ≤ 1099511627776 <;> simp [h3, h4] <;> omega
theorem wrap_up {i : Nat} (h : i ≤ 4398046511104) : wrap64 ((i : Int) + 1) = ((i + 1 : Nat) : Int) := by unfold wrap64; omega
theorem bm_loop (l : List Int) (hl : l.length ≤ 8) : ∀ n i k, i + n = l.length → n < k → acc_BoundsMay.l0 k l l l.length i = some (ball l n i)
  | 0, i, 0, _, hk => absurd hk (by omega)
  | 0, i, k + 1, h, _ => by
    unfold acc_BoundsMay.l0 ball
    rw [if_neg (by omega)]
  | n + 1, i, 0, _, hk => absurd hk (by omega)
  | n + 1, i, k + 1, h, hk => by
    have ih := bm_loop l hl n (i + 1) k (by omega) (by omega)
    unfold acc_BoundsMay.l0 ball
    rw [if_pos (by omega), if_pos (by omega), if_pos (by omega), wm_f]
    simp only [Option.bind_some]
    rw [wrap_up (by omega), ih]
    unfold bok
    have e1 : rd l (i : Int) = l.getD i 0 := by simp [rd]
    rw [e1]
    by_cases h1 : wm (l.getD i 0) = true
    · rw [if_pos h1, h1]
      by_cases h0 : i = 0
      · subst h0
        simp
      · rw [if_pos (by omega)]
        have e2 : wrap64 ((i : Int) - 1) = ((i - 1 : Nat) : Int) := by unfold wrap64; omega
        rw [e2, if_pos (by omega), if_pos (by omega)]
        have e3 : rd l ((i - 1 : Nat) : Int) = l.getD (i - 1) 0 := by simp [rd]
        rw [e3]
        by_cases h2 : l.getD (i - 1) 0 ≥ l.getD i 0
        · rw [if_pos h2, decide_eq_false h0, decide_eq_false (by omega)]
          simp
        · rw [if_neg h2, decide_eq_false h0, decide_eq_true (by omega)]
          simp
    · have h1' : wm (l.getD i 0) = false := by
        cases h' : wm (l.getD i 0)
        · rfl
        · exact absurd h' h1
      rw [if_neg h1, h1']
      rfl
theorem bmay_f (l : List Int) : acc_BoundsMay.f 9 l = some (bmay l) := by
  unfold acc_BoundsMay.f bmay
  by_cases h : (l.length : Int) > 8
  · rw [if_pos h, decide_eq_false (by omega)]
    simp
  · rw [if_neg h, decide_eq_true (by omega)]
    have := bm_loop l (by omega) l.length 0 9 (by omega) (by omega)
    simpa using this
theorem bk_loop (l : List Int) (v : Int) (hl : l.length ≤ 8) : ∀ n i k, i + n = l.length → n < k → acc_bucket.l0 k l v l l.length i = some ((bkt l v n i : Nat) : Int)
  | 0, i, 0, _, hk => absurd hk (by omega)
  | 0, i, k + 1, h, _ => by
    unfold acc_bucket.l0 bkt
    rw [if_neg (by omega)]
    simp only [Option.some.injEq]
    omega
  | n + 1, i, 0, _, hk => absurd hk (by omega)
  | n + 1, i, k + 1, h, hk => by
    have ih := bk_loop l v hl n (i + 1) k (by omega) (by omega)
    unfold acc_bucket.l0 bkt
    rw [if_pos (by omega), if_pos (by omega), if_pos (by omega), wrap_up (by omega), ih]
    have e1 : rd l (i : Int) = l.getD i 0 := by simp [rd]
    rw [e1]
    split <;> rfl
theorem bucket_f (l : List Int) (v : Int) (hl : l.length ≤ 8) : acc_bucket.f 9 l v = some ((bucket l v : Nat) : Int) := bk_loop l v hl l.length 0 9 (by omega) (by omega)
theorem bm_any (bs : List Int) (A : Option Addr) (c : Nat) (w : World) (hr : Kd.C (Kd.int .i64) w A bs.length bs) (hc : bs.length ≤ c) :
    Calls Try.prog 46 #[.slice A bs.length c] w fun e w' => e = .returned (.bool (bmay bs)) ∧ Below w.heap.size w w' :=
  (acc_BoundsMay.calls 9 A c bs _ w hr hc (bmay_f bs)).mono fun _ _ h => ⟨h.1, h.2.below⟩
theorem im_any (x : S26) (w : World) :
    Calls Try.prog 45 #[.agg #[.int .i64 x.f0, .int .i64 x.f1, .int .i64 x.f2, .int .i64 x.f3]] w fun e w' => e = .returned (.bool (imay x)) ∧ Below w.heap.size w w' :=
  acc_ItemMay.calls _ _ _ _ _ w (imay_f x)
theorem bucket_any (bs : List Int) (v : Int) (A : Option Addr) (c : Nat) (w : World) (hr : Kd.C (Kd.int .i64) w A bs.length bs) (hc : bs.length ≤ c) (hl : bs.length ≤ 8) :
    Calls Try.prog 47 #[.slice A bs.length c, .int .i64 v] w fun e w' => e = .returned (.int .i64 (bucket bs v : Nat)) ∧ Below w.heap.size w w' :=
  (acc_bucket.calls 9 A c bs v _ w hr hc (bucket_f bs v hl)).mono fun _ _ h => ⟨h.1, h.2.below⟩
theorem wm_any (x : Int) (w : World) :
    Calls Try.prog 56 #[.int .i64 x, .int .i64 1099511627776] w fun e w' => e = .returned (.bool (wm x)) ∧ Below w.heap.size w w' :=
  (acc_within.calls x 1099511627776 _ w (wm_f x)).mono fun _ _ h => ⟨h.1, h.2.below⟩
theorem ite3 (a b : Int) : cmp_Compare_int.f a b = some (if a < b then -1 else if b < a then 1 else 0) := by
  unfold cmp_Compare_int.f cmp_isNaN_int.f
  by_cases h1 : a < b
  · simp [h1]
  · by_cases h2 : b < a <;> simp [h1, h2]
theorem or2 (a b : Int) : cmp_Or_int.f 9 [a, b] = some (if a = 0 then b else a) := by
  unfold cmp_Or_int.f
  by_cases h1 : a = 0 <;> by_cases h2 : b = 0 <;> simp [cmp_Or_int.l0, rd, h1, h2, wrap64]
theorem ord_f (a b : S26) : acc_Order.f 9 a.f0 a.f1 a.f2 a.f3 b.f0 b.f1 b.f2 b.f3 = some (ord a b) := by
  unfold acc_Order.f ord
  simp only [ite3, or2, Option.bind_some, Option.some.injEq]
  split <;> (try split) <;> (try split) <;> (try split) <;> (try split) <;> omega
theorem ord_any (a b : S26) (w : World) :
    Calls Try.prog 68 #[.agg #[.int .i64 a.f0, .int .i64 a.f1, .int .i64 a.f2, .int .i64 a.f3], .agg #[.int .i64 b.f0, .int .i64 b.f1, .int .i64 b.f2, .int .i64 b.f3]] w fun e w' => e = .returned (.int .i64 (ord a b)) ∧ Below w.heap.size w w' :=
  acc_Order.calls 9 _ _ _ _ _ _ _ _ _ w (ord_f a b)
end Go.Proofs.Ytggaefklcpbfnaa.My
