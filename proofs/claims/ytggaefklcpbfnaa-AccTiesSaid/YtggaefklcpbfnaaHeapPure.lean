/- The plain law of a heap of items, as lists: pushing and popping by sifting keeps the heap's order and what is in it; the first one is the least. No program in sight. -/
import Derived.Below
namespace Go.Proofs.Ytggaefklcpbfnaa.HP

/-- An item: series, time, number, value. -/
structure It where
  s : Int
  t : Int
  q : Int
  v : Int
  deriving DecidableEq

def z0 : It := ⟨0, 0, 0, 0⟩
/-- By time, number, series, value. -/
def lt (a b : It) : Bool := decide (a.t < b.t ∨ (a.t = b.t ∧ (a.q < b.q ∨ (a.q = b.q ∧ (a.s < b.s ∨ (a.s = b.s ∧ a.v < b.v))))))
theorem lt_iff {a b : It} : lt a b = true ↔ (a.t < b.t ∨ (a.t = b.t ∧ (a.q < b.q ∨ (a.q = b.q ∧ (a.s < b.s ∨ (a.s = b.s ∧ a.v < b.v)))))) := by simp [lt]
theorem lt_irrefl (a : It) : lt a a = false := by
  cases h : lt a a with
  | false => rfl
  | true => rw [lt_iff] at h; omega
theorem lt_trans {a b c : It} (h1 : lt a b = true) (h2 : lt b c = true) : lt a c = true := by
  rw [lt_iff] at *
  omega
theorem nlt_iff {a b : It} : lt a b = false ↔ ¬ (a.t < b.t ∨ (a.t = b.t ∧ (a.q < b.q ∨ (a.q = b.q ∧ (a.s < b.s ∨ (a.s = b.s ∧ a.v < b.v)))))) := by
  rw [← lt_iff]
  cases lt a b <;> simp
/-- Not less, either way: one and the same. -/
theorem eq_of_nlt {a b : It} (h1 : lt a b = false) (h2 : lt b a = false) : a = b := by
  rw [nlt_iff] at *
  obtain ⟨s, t, q, v⟩ := a
  obtain ⟨s', t', q', v'⟩ := b
  simp only at *
  have e1 : t = t' := by omega
  have e2 : q = q' := by omega
  have e3 : s = s' := by omega
  have e4 : v = v' := by omega
  rw [e1, e2, e3, e4]
/-- Not below: over a chain. -/
theorem nlt_trans {a b c : It} (h1 : lt b a = false) (h2 : lt c b = false) : lt c a = false := by
  rw [nlt_iff] at *
  omega
theorem nlt_of_lt {a b : It} (h : lt a b = true) : lt b a = false := by
  rw [lt_iff] at h
  rw [nlt_iff]
  omega

def at_ (xs : List It) (i : Nat) : It := xs.getD i z0
theorem at_eq {xs : List It} {i : Nat} (h : i < xs.length) : at_ xs i = xs[i] := by simp [at_, h]
theorem at_set {xs : List It} {i j : Nat} {x : It} (h : i < xs.length) : at_ (xs.set i x) j = if i = j then x else at_ xs j := by
  unfold at_
  rw [List.getD_eq_getElem?_getD, List.getD_eq_getElem?_getD, List.getElem?_set]
  by_cases hij : i = j
  · subst hij; simp [h]
  · simp [hij]

def swap (xs : List It) (i j : Nat) : List It := (xs.set i (at_ xs j)).set j (at_ xs i)
theorem swap_length (xs : List It) (i j : Nat) : (swap xs i j).length = xs.length := by simp [swap]
theorem at_swap {xs : List It} {i j k : Nat} (hi : i < xs.length) (hj : j < xs.length) : at_ (swap xs i j) k = if k = j then at_ xs i else if k = i then at_ xs j else at_ xs k := by
  unfold swap
  rw [at_set (by simpa using hj), at_set hi]
  by_cases h1 : k = j
  · rw [if_pos h1, if_pos h1.symm]
  · rw [if_neg h1, if_neg (fun e => h1 e.symm)]
    by_cases h2 : k = i
    · rw [if_pos h2, if_pos h2.symm]
    · rw [if_neg h2, if_neg (fun e => h2 e.symm)]
theorem swap_perm {xs : List It} {i j : Nat} (hi : i < xs.length) (hj : j < xs.length) : (swap xs i j).Perm xs := by
  unfold swap
  rw [at_eq hi, at_eq hj]
  by_cases h : i = j
  · subst h
    simp
  · have := List.set_set_perm (as := xs) hi hj
    exact this

/-- An item rises. -/
def up (xs : List It) (i : Nat) : List It :=
  if h : 0 < i ∧ lt (at_ xs i) (at_ xs ((i - 1) / 2)) = true then up (swap xs i ((i - 1) / 2)) ((i - 1) / 2) else xs
termination_by i
decreasing_by omega
theorem up_go {xs : List It} {i : Nat} (h0 : 0 < i) (h : lt (at_ xs i) (at_ xs ((i - 1) / 2)) = true) : up xs i = up (swap xs i ((i - 1) / 2)) ((i - 1) / 2) := by rw [up, dif_pos ⟨h0, h⟩]
theorem up_end {xs : List It} {i : Nat} (h : ¬ (0 < i ∧ lt (at_ xs i) (at_ xs ((i - 1) / 2)) = true)) : up xs i = xs := by rw [up, dif_neg h]

/-- The lesser child's place. -/
def kid (xs : List It) (i : Nat) : Nat := if 2 * i + 1 + 1 < xs.length ∧ lt (at_ xs (2 * i + 1 + 1)) (at_ xs (2 * i + 1)) = true then 2 * i + 1 + 1 else 2 * i + 1
theorem kid_two (xs : List It) (i : Nat) : kid xs i = 2 * i + 1 ∨ kid xs i = 2 * i + 2 := by unfold kid; split <;> omega
/-- An item sinks. -/
def down (xs : List It) (i : Nat) : List It :=
  if _h : kid xs i < xs.length ∧ lt (at_ xs (kid xs i)) (at_ xs i) = true then down (swap xs i (kid xs i)) (kid xs i) else xs
termination_by xs.length - i
decreasing_by
  have := kid_two xs i
  rw [swap_length]
  omega
theorem down_go {xs : List It} {i : Nat} (h0 : kid xs i < xs.length) (h : lt (at_ xs (kid xs i)) (at_ xs i) = true) : down xs i = down (swap xs i (kid xs i)) (kid xs i) := by rw [down, dif_pos ⟨h0, h⟩]
theorem down_end {xs : List It} {i : Nat} (h : ¬ (kid xs i < xs.length ∧ lt (at_ xs (kid xs i)) (at_ xs i) = true)) : down xs i = xs := by rw [down, dif_neg h]

/-- No item is below the one over it. -/
def Heap (xs : List It) : Prop := ∀ i, 0 < i → i < xs.length → lt (at_ xs i) (at_ xs ((i - 1) / 2)) = false
/-- But for place k, which may be below the one over it; those under it are not below that one. -/
def HeapUp (xs : List It) (k : Nat) : Prop := (∀ i, 0 < i → i < xs.length → i ≠ k → lt (at_ xs i) (at_ xs ((i - 1) / 2)) = false) ∧ ∀ i, 0 < i → i < xs.length → (i - 1) / 2 = k → 0 < k → lt (at_ xs i) (at_ xs ((k - 1) / 2)) = false
/-- But for place k, under which some may be below it; those are not below the one over it. -/
def HeapDown (xs : List It) (k : Nat) : Prop := (∀ i, 0 < i → i < xs.length → (i - 1) / 2 ≠ k → lt (at_ xs i) (at_ xs ((i - 1) / 2)) = false) ∧ ∀ i, 0 < i → i < xs.length → (i - 1) / 2 = k → 0 < k → lt (at_ xs i) (at_ xs ((k - 1) / 2)) = false

theorem up_spec : ∀ (n i : Nat) (xs : List It), i ≤ n → i < xs.length → HeapUp xs i → Heap (up xs i) ∧ (up xs i).Perm xs := by
  intro n
  induction n with
  | zero =>
    intro i xs hi hl h
    rw [up_end (by omega)]
    exact ⟨fun j h0 hj => h.1 j h0 hj (by omega), List.Perm.refl _⟩
  | succ n ih =>
    intro i xs hi hl h
    by_cases hc : 0 < i ∧ lt (at_ xs i) (at_ xs ((i - 1) / 2)) = true
    · obtain ⟨h0, hlt⟩ := hc
      have hp : (i - 1) / 2 < xs.length := by omega
      have hne : i ≠ (i - 1) / 2 := by omega
      rw [up_go h0 hlt]
      have hs := ih ((i - 1) / 2) (swap xs i ((i - 1) / 2)) (by omega) (by rw [swap_length]; exact hp) ?_
      · exact ⟨hs.1, hs.2.trans (swap_perm hl hp)⟩
      · refine ⟨fun j j0 hj hjp => ?_, fun j j0 hj hjp hp0 => ?_⟩
        · rw [swap_length] at hj
          rw [at_swap hl hp, at_swap hl hp, if_neg hjp]
          by_cases hji : j = i
          · subst hji
            rw [if_pos rfl, if_pos rfl]
            exact nlt_of_lt hlt
          · rw [if_neg hji]
            by_cases h1 : (j - 1) / 2 = (i - 1) / 2
            · rw [if_pos h1]
              have h2 := h.1 j j0 hj hji
              rw [h1] at h2
              exact nlt_trans (nlt_of_lt hlt) h2
            · rw [if_neg h1]
              by_cases h2 : (j - 1) / 2 = i
              · rw [if_pos h2]
                exact h.2 j j0 hj h2 h0
              · rw [if_neg h2]
                exact h.1 j j0 hj hji
        · rw [swap_length] at hj
          rw [at_swap hl hp, at_swap hl hp]
          have hpp : ((i - 1) / 2 - 1) / 2 ≠ (i - 1) / 2 := by omega
          have hpi : ((i - 1) / 2 - 1) / 2 ≠ i := by omega
          rw [if_neg hpp, if_neg hpi]
          have hj' : j ≠ (i - 1) / 2 := by omega
          rw [if_neg hj']
          have hpar := h.1 ((i - 1) / 2) hp0 hp (by omega)
          by_cases hji : j = i
          · rw [if_pos hji]
            exact hpar
          · rw [if_neg hji]
            have h2 := h.1 j j0 hj hji
            rw [hjp] at h2
            exact nlt_trans hpar h2
    · rw [up_end hc]
      refine ⟨fun j h0 hj => ?_, List.Perm.refl _⟩
      by_cases hji : j = i
      · subst hji
        cases hb : lt (at_ xs j) (at_ xs ((j - 1) / 2)) with
        | false => rfl
        | true => exact absurd ⟨h0, hb⟩ hc
      · exact h.1 j h0 hj hji

theorem down_spec : ∀ (n i : Nat) (xs : List It), xs.length - i ≤ n → i < xs.length → HeapDown xs i → Heap (down xs i) ∧ (down xs i).Perm xs := by
  intro n
  induction n with
  | zero => intro i xs hi hl h; omega
  | succ n ih =>
    intro i xs hi hl h
    have hk2 := kid_two xs i
    by_cases hc : kid xs i < xs.length ∧ lt (at_ xs (kid xs i)) (at_ xs i) = true
    · obtain ⟨hk, hlt⟩ := hc
      have hpar : (kid xs i - 1) / 2 = i := by omega
      rw [down_go hk hlt]
      have hs := ih (kid xs i) (swap xs i (kid xs i)) (by rw [swap_length]; omega) (by rw [swap_length]; exact hk) ?_
      · exact ⟨hs.1, hs.2.trans (swap_perm hl hk)⟩
      · refine ⟨fun j j0 hj hjp => ?_, fun j j0 hj hjp hp0 => ?_⟩
        · rw [swap_length] at hj
          rw [at_swap hl hk, at_swap hl hk, if_neg (show (j - 1) / 2 ≠ kid xs i from hjp)]
          by_cases hjk : j = kid xs i
          · rw [if_pos hjk]
            have e1 : (j - 1) / 2 = i := by omega
            rw [if_pos e1]
            exact nlt_of_lt hlt
          · rw [if_neg hjk]
            by_cases hji : j = i
            · rw [if_pos hji]
              have e1 : (j - 1) / 2 ≠ i := by omega
              rw [if_neg e1]
              have h2 := h.2 (kid xs i) (by omega) hk hpar (by omega)
              rw [hji]
              exact h2
            · rw [if_neg hji]
              by_cases h1 : (j - 1) / 2 = i
              · rw [if_pos h1]
                -- the other child
                by_cases hb : 2 * i + 1 + 1 < xs.length ∧ lt (at_ xs (2 * i + 1 + 1)) (at_ xs (2 * i + 1)) = true
                · have e2 : kid xs i = 2 * i + 1 + 1 := by unfold kid; rw [if_pos hb]
                  have e3 : j = 2 * i + 1 := by omega
                  rw [e2, e3]
                  exact nlt_of_lt hb.2
                · have e2 : kid xs i = 2 * i + 1 := by unfold kid; rw [if_neg hb]
                  have e3 : j = 2 * i + 1 + 1 := by omega
                  rw [e2, e3]
                  cases hb2 : lt (at_ xs (2 * i + 1 + 1)) (at_ xs (2 * i + 1)) with
                  | false => rfl
                  | true => exact absurd ⟨by omega, hb2⟩ hb
              · rw [if_neg h1]
                exact h.1 j j0 hj h1
        · rw [swap_length] at hj
          rw [at_swap hl hk, at_swap hl hk]
          have hjk : j ≠ kid xs i := by omega
          have hji : j ≠ i := by omega
          rw [if_neg hjk, if_neg hji, hpar, if_neg (show i ≠ kid xs i by omega), if_pos rfl]
          have h2 := h.1 j j0 hj (by omega)
          rw [hjp] at h2
          exact h2
    · rw [down_end hc]
      refine ⟨fun j h0 hj => ?_, List.Perm.refl _⟩
      by_cases hji : (j - 1) / 2 = i
      · rw [hji]
        by_cases hb : 2 * i + 1 + 1 < xs.length ∧ lt (at_ xs (2 * i + 1 + 1)) (at_ xs (2 * i + 1)) = true
        · have e2 : kid xs i = 2 * i + 1 + 1 := by unfold kid; rw [if_pos hb]
          have h3 : lt (at_ xs (kid xs i)) (at_ xs i) = false := by
            cases hb2 : lt (at_ xs (kid xs i)) (at_ xs i) with
            | false => rfl
            | true => exact absurd ⟨by omega, hb2⟩ hc
          rw [e2] at h3
          have h4 : j = 2 * i + 1 ∨ j = 2 * i + 1 + 1 := by omega
          rcases h4 with rfl | rfl
          · exact nlt_trans h3 (nlt_of_lt hb.2)
          · exact h3
        · have e2 : kid xs i = 2 * i + 1 := by unfold kid; rw [if_neg hb]
          have h3 : lt (at_ xs (kid xs i)) (at_ xs i) = false := by
            cases hb2 : lt (at_ xs (kid xs i)) (at_ xs i) with
            | false => rfl
            | true => exact absurd ⟨by omega, hb2⟩ hc
          rw [e2] at h3
          have h4 : j = 2 * i + 1 ∨ j = 2 * i + 1 + 1 := by omega
          rcases h4 with rfl | rfl
          · exact h3
          · have h5 : lt (at_ xs (2 * i + 1 + 1)) (at_ xs (2 * i + 1)) = false := by
              cases hb2 : lt (at_ xs (2 * i + 1 + 1)) (at_ xs (2 * i + 1)) with
              | false => rfl
              | true => exact absurd ⟨by omega, hb2⟩ hb
            exact nlt_trans h3 h5
      · exact h.1 j h0 hj hji

theorem at_snoc_lt {xs : List It} {x : It} {i : Nat} (h : i < xs.length) : at_ (xs ++ [x]) i = at_ xs i := by
  rw [at_eq (by simp; omega), at_eq h, List.getElem_append_left h]
theorem at_snoc {xs : List It} {x : It} : at_ (xs ++ [x]) xs.length = x := by
  rw [at_eq (by simp)]
  simp

/-- One more. -/
def push (xs : List It) (x : It) : List It := up (xs ++ [x]) xs.length
theorem push_spec {xs : List It} (h : Heap xs) (x : It) : Heap (push xs x) ∧ (push xs x).Perm (x :: xs) := by
  have hs := up_spec xs.length xs.length (xs ++ [x]) (Nat.le_refl _) (by simp) ⟨fun i h0 hi hne => ?_, fun i h0 hi hp h1 => ?_⟩
  · exact ⟨hs.1, hs.2.trans (List.perm_append_singleton x xs)⟩
  · have hi' : i < xs.length := by simp at hi; omega
    rw [at_snoc_lt hi', at_snoc_lt (by omega)]
    exact h i h0 hi'
  · simp at hi
    omega

/-- What is left behind the first one is taken. -/
def pop (xs : List It) : List It := down ((xs.set 0 (at_ xs (xs.length - 1))).take (xs.length - 1)) 0
theorem take_at {xs : List It} {i n : Nat} (h : i < n) : at_ (xs.take n) i = at_ xs i := by
  unfold at_
  rw [List.getD_eq_getElem?_getD, List.getD_eq_getElem?_getD, List.getElem?_take, if_pos h]
theorem down_nil (i : Nat) : down [] i = [] := down_end (by simp)
theorem pop_base {xs : List It} (hl : 0 < xs.length) : (at_ xs 0 :: (xs.set 0 (at_ xs (xs.length - 1))).take (xs.length - 1)).Perm xs := by
  cases xs with
  | nil => simp at hl
  | cons y ys =>
    have e0 : at_ (y :: ys) 0 = y := rfl
    rw [e0]
    cases hys : ys.reverse with
    | nil =>
      have : ys = [] := by simpa using hys
      subst this
      simp
    | cons z r =>
      have hy : ys = r.reverse ++ [z] := by
        have := congrArg List.reverse hys
        simpa using this
      subst hy
      have e1 : at_ (y :: (r.reverse ++ [z])) ((y :: (r.reverse ++ [z])).length - 1) = z := by
        rw [at_eq (by simp)]
        simp
      rw [e1]
      have e2 : ((y :: (r.reverse ++ [z])).set 0 z).take ((y :: (r.reverse ++ [z])).length - 1) = z :: r.reverse := by
        simp
      rw [e2]
      exact (List.Perm.cons y ((List.perm_append_singleton z r.reverse).symm))
theorem pop_spec {xs : List It} (h : Heap xs) (hl : 0 < xs.length) : Heap (pop xs) ∧ (at_ xs 0 :: pop xs).Perm xs := by
  unfold pop
  by_cases h1 : xs.length = 1
  · have e : (xs.set 0 (at_ xs (xs.length - 1))).take (xs.length - 1) = [] := by rw [h1]; rfl
    have hb := pop_base hl
    rw [e] at hb ⊢
    rw [down_nil]
    exact ⟨fun i _ hi => by simp at hi, hb⟩
  · have hlen : ((xs.set 0 (at_ xs (xs.length - 1))).take (xs.length - 1)).length = xs.length - 1 := by simp
    have hs := down_spec (xs.length) 0 ((xs.set 0 (at_ xs (xs.length - 1))).take (xs.length - 1)) (by omega) (by omega) ⟨fun i h0 hi hp => ?_, fun i h0 hi hp hp0 => by omega⟩
    · exact ⟨hs.1, (List.Perm.cons _ hs.2).trans (pop_base hl)⟩
    · rw [hlen] at hi
      rw [take_at hi, take_at (by omega), at_set hl, at_set hl, if_neg (by omega), if_neg (by omega)]
      exact h i h0 (by omega)

/-- The first one is the least. -/
theorem heap_least {xs : List It} (h : Heap xs) : ∀ (n i : Nat), i ≤ n → i < xs.length → lt (at_ xs i) (at_ xs 0) = false := by
  intro n
  induction n with
  | zero =>
    intro i hi hl
    have : i = 0 := by omega
    subst this
    exact lt_irrefl _
  | succ n ih =>
    intro i hi hl
    by_cases h0 : i = 0
    · subst h0; exact lt_irrefl _
    · exact nlt_trans (ih ((i - 1) / 2) (by omega) (by omega)) (h i (by omega) hl)
theorem heap_head_le {xs : List It} (h : Heap xs) {x : It} (hx : x ∈ xs) : lt x (at_ xs 0) = false := by
  obtain ⟨i, hi, rfl⟩ := List.getElem_of_mem hx
  rw [← at_eq hi]
  exact heap_least h i i (Nat.le_refl _) hi
theorem push_length (xs : List It) (h : Heap xs) (x : It) : (push xs x).length = xs.length + 1 := by
  have := (push_spec h x).2.length_eq
  simpa using this
theorem heap_nil : Heap [] := fun i _ hi => by simp at hi

/-- In a row without a fall. -/
def Sorted (xs : List It) : Prop := xs.Pairwise fun a b => lt b a = false
theorem sorted_head {xs : List It} {x : It} (h : Sorted (x :: xs)) {y : It} (hy : y ∈ x :: xs) : lt y x = false := by
  rcases List.mem_cons.1 hy with rfl | hy
  · exact lt_irrefl _
  · exact (List.pairwise_cons.1 h).1 y hy
/-- A heap and a sorted row of the same: their first ones are one and the same. -/
theorem heads {xs ys : List It} {y : It} (hx : Heap xs) (hy : Sorted (y :: ys)) (hp : xs.Perm (y :: ys)) : at_ xs 0 = y := by
  have hl : 0 < xs.length := by rw [hp.length_eq]; simp
  have hm : at_ xs 0 ∈ y :: ys := hp.mem_iff.1 (by rw [at_eq hl]; exact List.getElem_mem hl)
  exact eq_of_nlt (sorted_head hy hm) (heap_head_le hx (hp.mem_iff.2 List.mem_cons_self))
theorem pops {xs ys : List It} {y : It} (hx : Heap xs) (hy : Sorted (y :: ys)) (hp : xs.Perm (y :: ys)) : (pop xs).Perm ys := by
  have hl : 0 < xs.length := by rw [hp.length_eq]; simp
  have h1 := (pop_spec hx hl).2.trans hp
  rw [heads hx hy hp] at h1
  exact List.Perm.cons_inv h1

/-- With one more, by its row: ahead of those behind which it does not stand. -/
def place (xs : List It) (x : It) : Nat → Nat
  | 0 => 0
  | k + 1 => if lt x (at_ xs k) = true then place xs x k else k + 1
def insert (xs : List It) (x : It) : List It := xs.take (place xs x xs.length) ++ x :: xs.drop (place xs x xs.length)
theorem place_le (xs : List It) (x : It) : ∀ k, place xs x k ≤ k
  | 0 => Nat.le_refl _
  | k + 1 => by
    unfold place
    split
    · exact Nat.le_succ_of_le (place_le xs x k)
    · exact Nat.le_refl _
theorem place_after (xs : List It) (x : It) : ∀ k i, place xs x k ≤ i → i < k → lt x (at_ xs i) = true
  | 0, i, _, h => by omega
  | k + 1, i, h1, h2 => by
    unfold place at h1
    split at h1
    · rename_i h
      by_cases hik : i = k
      · subst hik; exact h
      · exact place_after xs x k i h1 (by omega)
    · omega
theorem place_before (xs : List It) (x : It) : ∀ k, 0 < place xs x k → lt x (at_ xs (place xs x k - 1)) = false
  | 0, h => by simp [place] at h
  | k + 1, h => by
    unfold place at h ⊢
    split at h
    · rename_i hb
      rw [if_pos hb]
      exact place_before xs x k h
    · rename_i hb
      rw [if_neg hb]
      simpa using hb
theorem insert_perm (xs : List It) (x : It) : (insert xs x).Perm (x :: xs) := by
  unfold insert
  refine (List.perm_middle).trans ?_
  rw [List.take_append_drop]
theorem insert_sorted {xs : List It} (h : Sorted xs) (x : It) : Sorted (insert xs x) := by
  unfold insert Sorted
  have hle := place_le xs x xs.length
  have hpw : ∀ i j, i < j → j < xs.length → lt (at_ xs j) (at_ xs i) = false := fun i j hij hj => by
    have := List.pairwise_iff_getElem.1 h i j (by omega) hj hij
    rw [at_eq hj, at_eq (by omega)]
    exact this
  have hbefore : ∀ y ∈ xs.take (place xs x xs.length), lt x y = false := by
    intro y hy
    obtain ⟨i, hi, rfl⟩ := List.getElem_of_mem hy
    have hi' : i < place xs x xs.length := by simp at hi; omega
    rw [List.getElem_take]
    have h1 := place_before xs x xs.length (by omega)
    rw [← at_eq (by omega)]
    by_cases he : i = place xs x xs.length - 1
    · rw [he]; exact h1
    · exact nlt_trans (hpw i (place xs x xs.length - 1) (by omega) (by omega)) h1
  have hafter : ∀ y ∈ xs.drop (place xs x xs.length), lt y x = false := by
    intro y hy
    obtain ⟨i, hi, rfl⟩ := List.getElem_of_mem hy
    rw [List.getElem_drop]
    simp at hi
    rw [← at_eq (by omega)]
    exact nlt_of_lt (place_after xs x xs.length _ (by omega) (by omega))
  rw [List.pairwise_append]
  refine ⟨List.Pairwise.sublist (List.take_sublist _ _) h, List.pairwise_cons.2 ⟨hafter, List.Pairwise.sublist (List.drop_sublist _ _) h⟩, fun a ha b hb => ?_⟩
  rcases List.mem_cons.1 hb with rfl | hb
  · exact hbefore a ha
  · exact nlt_trans (hbefore a ha) (hafter b hb)
end Go.Proofs.Ytggaefklcpbfnaa.HP
