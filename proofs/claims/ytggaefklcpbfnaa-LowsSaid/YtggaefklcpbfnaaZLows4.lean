/- Lemmas, contracts of functions and plain laws, part 4: what the row's proof uses. No statement of the seed is proved here. -/
import Derived.Test.YtggaefklcpbfnaaZLows3
import Derived.Test.YtggaefklcpbfnaaZLows2
import Derived.Test.YtggaefklcpbfnaaYPaBourneref1copyAcc
import Derived.Test.YtggaefklcpbfnaaYPaInts
import Derived.Test.YtggaefklcpbfnaaZLows1
import Derived.SizedLaws
import Derived.Lib.SmallJoins
import Derived.Test.YtggaefklcpbfnaaYPaBournelaw0SameAccs
import Derived.Deep.Slices
namespace Go.Proofs.Ytggaefklcpbfnaa.My
open Go.RowKit Pa Go.Proofs.YtggaefklcpbfnaaW.PrintWords

def accC (x : S28) (v : Value) : List Value := [.int .i64 x.f0, .int .i64 x.f1, .int .i64 x.f2, .int .i64 x.f3, .int .i64 x.f4.f0, .int .i64 x.f4.f1, .int .i64 x.f4.f2, .int .i64 x.f4.f3, .int .i64 x.f5.f0, .int .i64 x.f5.f1, .int .i64 x.f5.f2, .int .i64 x.f5.f3, v]
structure RowA (w : World) (v : Value) (xs : List S28) (cs : List Value) : Prop where
  own : w.ownsRow 0 28 13 v xs.length cs
  el : ∀ i, i < xs.length → ∃ u, Own w 0 u (xs.getD i z28).f6 ∧ ∀ j, j < 13 → cs[i * 13 + j]? = (accC (xs.getD i z28) u)[j]?
theorem RowA.nil (w : World) : RowA w (.slice none 0 0) [] [] := ⟨World.ownsRow_nil _ _ _ _, fun i hi => absurd hi (by simp)⟩
theorem RowA.below {w w1 : World} {v : Value} {xs : List S28} {cs : List Value} (h : RowA w v xs cs) (hb : Below w.heap.size w w1) : RowA w1 v xs cs :=
  ⟨row_keep (S := fun _ => False) h.own (Chg.of_below hb) (fun _ _ h => h), fun i hi => by
    obtain ⟨u, h1, h2⟩ := h.el i hi
    exact ⟨u, h1.below hb, h2⟩⟩
theorem RowA.reads {w : World} {v : Value} {xs : List S28} {cs : List Value} (h : RowA w v xs cs) : ∃ A c, v = .slice A xs.length c ∧ RdA w A xs := by
  rcases h.own.2 with ⟨e, h0⟩ | ⟨b, cap, cur, e, hb, hcur, _⟩
  · refine ⟨none, 0, by rw [e, h0], fun hp => absurd hp (by omega)⟩
  · refine ⟨_, cap, e, fun _ => ⟨b, 0, rfl, blk_lt hcur, fun i hi => ?_⟩⟩
    obtain ⟨u, h1, h2⟩ := h.el i hi
    obtain ⟨A, c, hu, hl, hr⟩ := h1.reads
    subst hu
    have hc : ∀ j, j < 13 → ∀ x, (accC (xs.getD i z28) (.slice A (xs.getD i z28).f6.length c))[j]? = some x → w.cell? ⟨b, 0 + i * 13 + j, none⟩ = some x := fun j hj x hx => by
      have h3 := h.own.cells (g := b) (by rw [e]; rfl) (i * 13 + j) x ((h2 j hj).trans hx)
      rwa [add_plain, show i * 13 + j = 0 + i * 13 + j by omega] at h3
    exact ⟨A, c, hc 0 (by omega) _ rfl, hc 1 (by omega) _ rfl, hc 2 (by omega) _ rfl, hc 3 (by omega) _ rfl, hc 4 (by omega) _ rfl, hc 5 (by omega) _ rfl, hc 6 (by omega) _ rfl, hc 7 (by omega) _ rfl, hc 8 (by omega) _ rfl, hc 9 (by omega) _ rfl, hc 10 (by omega) _ rfl, hc 11 (by omega) _ rfl, hc 12 (by omega) _ rfl, hl, hr⟩
theorem info_acc : (Try.prog.info? 28).map (fun i => (i.zero, i.size, i.bytes)) = some (some (.agg #[.int .i64 0, .int .i64 0, .int .i64 0, .int .i64 0, .int .i64 0, .int .i64 0, .int .i64 0, .int .i64 0, .int .i64 0, .int .i64 0, .int .i64 0, .int .i64 0, .slice none 0 0]), 13, 120) := by kernel_rfl
def AtAppend (P : Program) (ops : Array Oper) (Q : Exit → Act → World → Prop) (o : Oper) (rest : List Oper) (a : Act) (w : World) : Prop := wpList P ops Q (o :: rest) a w
theorem accC_len (x : S28) (u : Value) : (accC x u).length = 13 := rfl
theorem Own.grown {w w1 : World} {u v : Value} {h : List Int} {n : Nat} {cs : List Value} (ho : Own w 0 u h) (hr : w.ownsRow 0 28 13 v n cs) (hg : w.grownBy w1 v.ownBlock) : Own w1 0 u h := by
  rcases own_type_ne ho hr (by decide) with hn | hn
  · exact ho.keep (S := fun k => some k = v.ownBlock) ((Chg.refl _ w).grown hg (fun k hk => .inl hk.symm)) (fun k hk => by rw [hn] at hk; cases hk)
  · exact ho.keep (S := fun k => some k = v.ownBlock) ((Chg.refl _ w).grown hg (fun k hk => .inl hk.symm)) (fun k hk e => hn (hk.trans e))
theorem RowA.snoc {w w1 : World} {v v1 : Value} {xs : List S28} {cs : List Value} (L : RowA w v xs cs) (y : S28) (u : Value) (hu : Own w 0 u y.f6) (hr : w1.ownsRow 0 28 13 v1 (xs.length + 1) (cs ++ accC y u)) (hg : w.grownBy w1 v.ownBlock) : RowA w1 v1 (xs ++ [y]) (cs ++ accC y u) := by
  have hcl : cs.length = xs.length * 13 := L.own.1
  refine ⟨by rw [List.length_append]; exact hr, fun i hi => ?_⟩
  rw [List.length_append, List.length_singleton] at hi
  by_cases hlt : i < xs.length
  · obtain ⟨u1, h1, h2⟩ := L.el i hlt
    have e : (xs ++ [y]).getD i z28 = xs.getD i z28 := by
      rw [List.getD_eq_getElem?_getD, List.getD_eq_getElem?_getD, List.getElem?_append_left hlt]
    rw [e]
    exact ⟨u1, h1.grown L.own hg, fun j hj => by rw [List.getElem?_append_left (by omega)]; exact h2 j hj⟩
  · obtain rfl : i = xs.length := by omega
    have e : (xs ++ [y]).getD xs.length z28 = y := by
      rw [List.getD_eq_getElem?_getD, List.getElem?_append_right (Nat.le_refl _), Nat.sub_self]
      rfl
    rw [e]
    exact ⟨u, hu.grown L.own hg, fun j hj => by rw [List.getElem?_append_right (by omega), show xs.length * 13 + j - cs.length = j by omega]⟩
theorem RowA.append {ops : Array Oper} {Q : Exit → Act → World → Prop} {o : Oper} {rest : List Oper} {a : Act} {w : World} {v : Value} {xs : List S28} {cs : List Value} (s x : Operand)
    (hgd : o.guard = none) (ho : o.op = .call { callee := .builtin .append, args := #[s, x], argTypes := #[51, 51] })
    (L : RowA w v xs cs) (hs : a.eval s = v) (b : Nat) (y : S28) (u : Value) (c : Nat) (hx : a.eval x = .slice (some ⟨b, 0, none⟩) 1 c)
    (hb : w.heap[b]? = some (acO y u)) (hu : Own w 0 u y.f6) (hu1 : u.oneCell' = true) (hl : (xs.length + 1) * 120 ≤ 140737488355328)
    (h : ∀ v1 w1, RowA w1 v1 (xs ++ [y]) (cs ++ accC y u) → w.grownBy w1 v.ownBlock → (v1.ownBlock = v.ownBlock ∨ v1.ownBlock = some w.heap.size) → wpList Try.prog ops Q rest (a.put o.dst v1) w1) : AtAppend Try.prog ops Q o rest a w := by
  unfold AtAppend
  refine wpList_plain hgd fun K hK => ?_
  obtain ⟨i0, hi, hzz⟩ := Option.map_eq_some_iff.1 info_acc
  simp only [Prod.mk.injEq] at hzz
  obtain ⟨hz0, hz1, hz2⟩ := hzz
  have ha : ∀ j, (⟨b, 0, none⟩ : Addr).add j = ⟨b, j, none⟩ := fun j => add_plain b j
  obtain ⟨v1, w1, hr, h2, h3, _, h5⟩ := run_append_own_at (P := Try.prog) w 0 51 o.type 28 i0 _ 13 120 Try.underlying51 hi hz0 hz1 hz2 rfl (by decide) v xs.length cs L.own ⟨b, 0, none⟩ 1 c (accC y u) (accC_len y u) (fun j x hx => by
    rw [ha, blk_cell hb]
    exact (List.getElem?_toArray ..).trans hx) (fun x hx => by
    simp only [accC, List.mem_cons, List.not_mem_nil, or_false] at hx
    rcases hx with rfl | rfl | rfl | rfl | rfl | rfl | rfl | rfl | rfl | rfl | rfl | rfl | rfl <;> first | rfl | exact hu1) (by simp only [maxLen]; omega) hl (Nat.zero_le _)
  unfold Oper.wp execOp
  simp only [ho, resolve, invoke, builtin, Sem.run_bind, Sem.run_pure, Result.andThen_ok, List.map_toArray, List.map_cons, List.map_nil, hs, hx, hr]
  exact hK _ _ (h v1 w1 (L.snoc y u hu h2 h3) h3 h5)
end Go.Proofs.Ytggaefklcpbfnaa.My

namespace Go.Proofs.Ytggaefklcpbfnaa.My
open Go.RowKit Pa Go.Proofs.YtggaefklcpbfnaaW.PrintWords
set_option linter.unusedSimpArgs false

end Go.Proofs.Ytggaefklcpbfnaa.My

namespace Go.Proofs.Ytggaefklcpbfnaa.My
open Go.RowKit Pa Go.Proofs.YtggaefklcpbfnaaW.PrintWords
set_option linter.unusedSimpArgs false

end Go.Proofs.Ytggaefklcpbfnaa.My

namespace Go.Proofs.Ytggaefklcpbfnaa.My
open Go.RowKit Pa Go.Proofs.YtggaefklcpbfnaaW.PrintWords
set_option linter.unusedSimpArgs false

end Go.Proofs.Ytggaefklcpbfnaa.My

namespace Go.Proofs.Ytggaefklcpbfnaa.My
open Go.RowKit Pa Go.Proofs.YtggaefklcpbfnaaW.PrintWords
attribute [local go_sem high] eqA26
set_option linter.unusedSimpArgs false

structure CurA (w0 w : World) (g : Nat) (c : S28) (A : Option Addr) (cap : Nat) : Prop where
  blk : w.heap[g]? = some (acO c (.slice A c.f6.length cap))
  own : Own w w0.heap.size (.slice A c.f6.length cap) c.f6
  bel : Below w0.heap.size w0 w
  new : w0.heap.size ≤ g
theorem CurA.rd {w0 w : World} {g : Nat} {c : S28} {A : Option Addr} {cap : Nat} (h : CurA w0 w g c A cap) : c.f6.length ≤ cap ∧ RdI w A c.f6 := by
  obtain ⟨A', c', e, hl, hr⟩ := h.own.reads
  injection e with e1 e2 e3
  subst e1 e3
  exact ⟨hl, hr⟩
theorem CurA.below {w0 w w1 : World} {g : Nat} {c : S28} {A : Option Addr} {cap : Nat} (h : CurA w0 w g c A cap) (hb : Below w.heap.size w w1) : CurA w0 w1 g c A cap :=
  ⟨blk_below h.blk hb, h.own.below hb, h.bel.trans (hb.mono h.bel.size), h.new⟩
theorem CurA.put {w0 w w1 : World} {g : Nat} {c d : S28} {A B : Option Addr} {cap cb : Nat} (h : CurA w0 w g c A cap) (hb : Below w.heap.size w w1) (ho : Own w1 w.heap.size (.slice B d.f6.length cb) d.f6) : CurA w0 (putA w1 g d (.slice B d.f6.length cb)) g d B cb := by
  have hg := blk_below h.blk hb
  have hch := putA_chg w1 g d (.slice B d.f6.length cb)
  refine ⟨putA_blk hg, own_weaken (ho.keep hch (fun k hk e => own_no ho hg (by rw [hk, e]))) h.bel.size, ?_, h.new⟩
  exact Chg.base (h.bel.trans (hb.mono h.bel.size)) hch (Nat.le_trans h.bel.size hb.size) (fun i hi => by rw [hi]; exact h.new)

end Go.Proofs.Ytggaefklcpbfnaa.My

namespace Go.Proofs.Ytggaefklcpbfnaa.My
open Go.RowKit Pa Go.Proofs.YtggaefklcpbfnaaW.PrintWords
set_option linter.unusedSimpArgs false

def marks (l : List Int) : List Int := l ++ [-7777, -8888]
theorem marks_len (l : List Int) : (marks l).length = l.length + 2 := by simp [marks]
def Lent (w : World) (base b cap : Nat) (l : List Int) : Prop := Own w base (.slice (some ⟨b, 0, none⟩) (l.length + 2) cap) (marks l)
theorem Own.cap {w : World} {base b n cap : Nat} {l : List Int} (h : Own w base (.slice (some ⟨b, 0, none⟩) n cap) l) : l.length ≤ cap ∧ cap ≤ maxLen := by
  obtain ⟨A, c, e, _, _⟩ := h.reads
  injection e with e1 e2 e3
  subst e2
  exact row_cap h
theorem Lent.rd {w : World} {base b cap : Nat} {l : List Int} (h : Lent w base b cap l) : RdI w (some ⟨b, 0, none⟩) l ∧ l.length + 2 ≤ cap := by
  obtain ⟨A, c, e, hl, hr⟩ := Own.reads h
  injection e with e1 e2 e3
  subst e1 e3
  rw [marks_len] at hl
  refine ⟨⟨rfl, by have := hr.2.1; rw [marks_len] at this; omega, fun hp => ?_⟩, hl⟩
  obtain ⟨ad, e, hc⟩ := hr.2.2 (by rw [marks_len]; omega)
  refine ⟨ad, e, fun j p hj => hc j p ?_⟩
  have hjl := (List.getElem?_eq_some_iff.1 hj).1
  unfold marks
  rw [List.getElem?_append_left hjl]
  exact hj
theorem spoil_len : ∀ (l : List Int) (n k i : Nat), i + n = l.length → n < k → l.length ≤ 17592186044415 → ∃ r, bournelaw0_SpoilInts.l0 k l i = some r
  | l, 0, k, i, hi, hk, hl => by
    obtain ⟨k, rfl⟩ : ∃ m, k = m + 1 := ⟨k - 1, by omega⟩
    unfold bournelaw0_SpoilInts.l0
    rw [if_neg (by omega)]
    exact ⟨_, rfl⟩
  | l, n + 1, k, i, hi, hk, hl => by
    obtain ⟨k, rfl⟩ : ∃ m, k = m + 1 := ⟨k - 1, by omega⟩
    unfold bournelaw0_SpoilInts.l0
    rw [if_pos (by omega), if_pos (by omega), wrap_up (by omega)]
    exact spoil_len _ n k (i + 1) (by rw [List.length_set]; omega) (by omega) (by rw [List.length_set]; exact hl)
end Go.Proofs.Ytggaefklcpbfnaa.My

namespace Go.Proofs.Ytggaefklcpbfnaa.My
open Go.RowKit Pa Go.Proofs.YtggaefklcpbfnaaW.PrintWords
set_option linter.unusedSimpArgs false

theorem rank_loop (bs : List Int) (a : S28) (q : Qy) (hb : bs.length ≤ 8) (hlen : a.f6.length = bs.length + 1) (hh : ∀ i, i < a.f6.length → 0 ≤ a.f6.getD i 0 ∧ a.f6.getD i 0 ≤ 8192) : ∀ n i k m, i + n = bs.length → n < k → 0 < m → m ≤ 10000 →
    bourneref1_rank.l0 k m i q.k q.agg q.size q.slide bs q.rank a.f0 a.f1 a.f2 a.f3 a.f4.f0 a.f4.f1 a.f4.f2 a.f4.f3 a.f5.f0 a.f5.f1 a.f5.f2 a.f5.f3 a.f6 = some (rankGo a.f6 bs a.f3 n i m)
  | 0, i, k, m, hi, hk, h0, h1 => by
    obtain ⟨k, rfl⟩ : ∃ j, k = j + 1 := ⟨k - 1, by omega⟩
    unfold bourneref1_rank.l0 rankGo
    rw [if_neg (by omega)]
  | n + 1, i, k, m, hi, hk, h0, h1 => by
    obtain ⟨k, rfl⟩ : ∃ j, k = j + 1 := ⟨k - 1, by omega⟩
    have hx := hh i (by omega)
    have e : rd a.f6 (i : Int) = a.f6.getD i 0 := rfl
    have e2 : rd bs (i : Int) = bs.getD i 0 := rfl
    unfold bourneref1_rank.l0 rankGo
    rw [if_pos (by omega), if_pos (by omega), if_pos (by omega), e, e2]
    generalize a.f6.getD i 0 = x at *
    by_cases h : m - x ≤ 0
    · rw [if_pos (show x ≥ m by omega), if_pos h]
    · rw [if_neg (show ¬ x ≥ m by omega), if_neg h, wrap_up (by omega), show wrap64 (m - x) = m - x by unfold wrap64; omega]
      exact rank_loop bs a q hb hlen hh n (i + 1) k (m - x) (by omega) (by omega) (by omega) (by omega)
theorem rank_f (bs : List Int) (a : S28) (q : Qy) (hm : amay a bs = true) (h0 : 0 ≤ q.rank) (h1 : q.rank ≤ 1000) {k : Nat} (hk : 8 < k) :
    bourneref1_rank.f k q.k q.agg q.size q.slide bs q.rank a.f0 a.f1 a.f2 a.f3 a.f4.f0 a.f4.f1 a.f4.f2 a.f4.f3 a.f5.f0 a.f5.f1 a.f5.f2 a.f5.f3 a.f6 = some (rankGo a.f6 bs a.f3 bs.length 0 (rankK q.rank a.f0)) := by
  have hf := amay_fit hm
  have hb := bmay_len hf.bm
  obtain ⟨c0, c1⟩ := hf.c
  obtain ⟨r0, r1⟩ := rank_bound h0 h1 c0 c1
  have hmx : mx (wrap64 (Int.tdiv (wrap64 ((wrap64 (q.rank * a.f0)) + 999)) 1000)) 1 = rankK q.rank a.f0 := by
    unfold rankK
    generalize q.rank * a.f0 = p at *
    rw [show wrap64 p = p by unfold wrap64; omega, show wrap64 (p + 999) = p + 999 by unfold wrap64; omega, Int.tdiv_eq_ediv_of_nonneg (by omega), show wrap64 ((p + 999) / 1000) = (p + 999) / 1000 by unfold wrap64; omega, show p + 1000 - 1 = p + 999 by omega]
    unfold mx
    split <;> split <;> omega
  have hK : 0 < rankK q.rank a.f0 ∧ rankK q.rank a.f0 ≤ 10000 := by
    unfold rankK
    split <;> omega
  unfold bourneref1_rank.f
  rw [hmx]
  have := rank_loop bs a q hb hf.len (fun i hi => by have := hf.h i hi; omega) bs.length 0 k _ (by omega) (by omega) hK.1 hK.2
  simpa using this
theorem within_f (x : Int) : bourneref1_within.f x 1125899906842624 = some (!sumOver x) := by
  unfold bourneref1_within.f sumOver
  have e : wrap64 (-1125899906842624) = -1125899906842624 := by unfold wrap64; rfl
  simp only [e]
  by_cases h1 : x < -1125899906842624
  · rw [if_neg (by omega), decide_eq_true h1]; rfl
  · by_cases h2 : 1125899906842624 < x
    · rw [if_pos (by omega)]; simp [h1, h2]; try omega
    · rw [if_pos (by omega)]; simp [h1, h2]; try omega
theorem rval_f (q : Qy) (bs : List Int) (a : S28) (hl : a.f6.length ≤ 17592186044415) {k : Nat} (hk : 9 < k) :
    bourneref1_Value.f k q.k q.agg q.size q.slide bs q.rank a.f0 a.f1 a.f2 a.f3 a.f4.f0 a.f4.f1 a.f4.f2 a.f4.f3 a.f5.f0 a.f5.f1 a.f5.f2 a.f5.f3 a.f6 = some ((valRes q bs a).1.1, (valRes q bs a).1.2.1, (valRes q bs a).1.2.2, (valRes q bs a).2) := by
  obtain ⟨k, rfl⟩ : ∃ j, k = j + 1 := ⟨k - 1, by omega⟩
  have no : valMay q bs a = false → bourneref1_Value.j0 (k + 1) true q.k q.agg q.size q.slide bs q.rank a.f0 a.f1 a.f2 a.f3 a.f4.f0 a.f4.f1 a.f4.f2 a.f4.f3 a.f5.f0 a.f5.f1 a.f5.f2 a.f5.f3 a.f6 = some ((valRes q bs a).1.1, (valRes q bs a).1.2.1, (valRes q bs a).1.2.2, (valRes q bs a).2) := fun h => by
    unfold bourneref1_Value.j0 valRes
    simp only [if_true]
    rw [if_neg (by rw [h]; decide)]
  unfold bourneref1_Value.f bourneref1_AccMay.f
  by_cases h1 : q.agg < 0
  · rw [if_pos h1]
    exact no (by unfold valMay; rw [decide_eq_false (by omega)]; rfl)
  rw [if_neg h1]
  by_cases h2 : q.agg > 7
  · rw [if_pos h2]
    exact no (by unfold valMay; rw [decide_eq_false (show ¬ q.agg < 8 by omega)]; simp)
  rw [if_neg h2]
  by_cases h3 : q.rank < 0
  · rw [if_pos h3]
    exact no (by unfold valMay; rw [decide_eq_false (show ¬ 0 ≤ q.rank by omega)]; simp)
  rw [if_neg h3]
  by_cases h4 : q.rank > 1000
  · rw [if_pos h4]
    exact no (by unfold valMay; rw [decide_eq_false (show ¬ q.rank ≤ 1000 by omega)]; simp)
  rw [if_neg h4, Option.bind_some]
  by_cases h5 : amay a bs = true
  case neg =>
    rw [if_neg h5]
    exact no (by unfold valMay; rw [bne_ h5]; simp)
  rw [if_pos h5]
  by_cases h6 : a.f0 = 0
  · rw [if_pos h6]
    exact no (by unfold valMay; rw [decide_eq_true h6]; simp)
  rw [if_neg h6]
  have yes : ¬ (q.agg = 7 ∧ bs.length = 0) → bourneref1_Value.j0 (k + 1) false q.k q.agg q.size q.slide bs q.rank a.f0 a.f1 a.f2 a.f3 a.f4.f0 a.f4.f1 a.f4.f2 a.f4.f3 a.f5.f0 a.f5.f1 a.f5.f2 a.f5.f3 a.f6 = some ((valRes q bs a).1.1, (valRes q bs a).1.2.1, (valRes q bs a).1.2.2, (valRes q bs a).2) := fun h7 => by
    have hv : valMay q bs a = true := by
      unfold valMay
      rw [decide_eq_true (show 0 ≤ q.agg by omega), decide_eq_true (show q.agg < 8 by omega), decide_eq_true (show 0 ≤ q.rank by omega), decide_eq_true (show q.rank ≤ 1000 by omega), h5, decide_eq_false h6]
      by_cases h8 : q.agg = 7
      · rw [decide_eq_false (fun e => h7 ⟨h8, e⟩)]; simp
      · rw [decide_eq_false h8]; rfl
    unfold bourneref1_Value.j0 valRes
    simp only [Bool.false_eq_true, if_false]
    rw [if_pos hv]
    unfold lowOut
    by_cases g0 : q.agg = 0
    · rw [if_pos g0, if_pos g0]
    rw [if_neg g0, if_neg g0]
    by_cases g1 : q.agg = 1
    · rw [if_pos g1, if_pos g1, within_f, Option.bind_some]
      unfold sumVal
      cases sumOver a.f1 <;> rfl
    rw [if_neg g1, if_neg g1]
    by_cases g2 : q.agg = 2
    · rw [if_pos g2, if_pos g2]
    rw [if_neg g2, if_neg g2]
    by_cases g3 : q.agg = 3
    · rw [if_pos g3, if_pos g3]
    rw [if_neg g3, if_neg g3]
    by_cases g4 : q.agg = 4
    · rw [if_pos g4, if_pos g4]
    rw [if_neg g4, if_neg g4]
    by_cases g5 : q.agg = 5
    · rw [if_pos g5, if_pos g5]
    rw [if_neg g5, if_neg g5]
    by_cases g6 : q.agg = 6
    · rw [if_pos g6, if_pos g6, Option.bind_some, if_pos (by simp; omega)]
      rfl
    rw [if_neg g6, if_neg g6, rank_f bs a q h5 (by omega) (by omega) (by omega)]
    rfl
  by_cases h7 : q.agg = 7
  · rw [if_pos h7]
    by_cases h8 : bs.length = 0
    · rw [show ((bs.length : Int) == 0) = true from beq_iff_eq.2 (by omega)]
      exact no (by unfold valMay; rw [decide_eq_true h7, decide_eq_true h8]; simp)
    · rw [show ((bs.length : Int) == 0) = false from beq_eq_false_iff_ne.2 (by omega)]
      exact yes (fun h => h8 h.2)
  · rw [if_neg h7]
    exact yes (fun h => h7 h.1)
theorem sameA_k (a : S28) (hl : a.f6.length ≤ 17592186044415) {k : Nat} (hk : a.f6.length < k) : bournelaw0_SameAcc.f k a.f0 a.f1 a.f2 a.f3 a.f4.f0 a.f4.f1 a.f4.f2 a.f4.f3 a.f5.f0 a.f5.f1 a.f5.f2 a.f5.f3 a.f6 a.f0 a.f1 a.f2 a.f3 a.f4.f0 a.f4.f1 a.f4.f2 a.f4.f3 a.f5.f0 a.f5.f1 a.f5.f2 a.f5.f3 a.f6 = some true := by
  have hf : ∀ d, bournelaw0_SameAcc.f (a.f6.length + 1 + d) a.f0 a.f1 a.f2 a.f3 a.f4.f0 a.f4.f1 a.f4.f2 a.f4.f3 a.f5.f0 a.f5.f1 a.f5.f2 a.f5.f3 a.f6 a.f0 a.f1 a.f2 a.f3 a.f4.f0 a.f4.f1 a.f4.f2 a.f4.f3 a.f5.f0 a.f5.f1 a.f5.f2 a.f5.f3 a.f6 = some true := fun d => by
    induction d with
    | zero => exact same_f a hl
    | succ d ih => exact bournelaw0_SameAcc.mono _ _ _ _ _ _ _ _ _ _ _ _ _ _ _ _ _ _ _ _ _ _ _ _ _ _ _ _ ih
  have := hf (k - (a.f6.length + 1))
  rwa [show a.f6.length + 1 + (k - (a.f6.length + 1)) = k by omega] at this
theorem lowOut_len (q : Qy) (bs : List Int) (a : S28) : (valRes q bs a).1.2.2.length ≤ a.f6.length := by
  unfold valRes
  split
  · show (lowOut q bs a).2.2.length ≤ _
    unfold lowOut
    (repeat' split) <;> simp
  · simp
theorem lows_f (q : Qy) (bs : List Int) (a : S28) (hl : a.f6.length ≤ 17592186044415) :
    bournelaw2_Lows.f (a.f6.length + 20) q.k q.agg q.size q.slide bs q.rank a.f0 a.f1 a.f2 a.f3 a.f4.f0 a.f4.f1 a.f4.f2 a.f4.f3 a.f5.f0 a.f5.f1 a.f5.f2 a.f5.f3 a.f6 = some true := by
  have hc : bournelaw0_CopyAcc.f a.f0 a.f1 a.f2 a.f3 a.f4.f0 a.f4.f1 a.f4.f2 a.f4.f3 a.f5.f0 a.f5.f1 a.f5.f2 a.f5.f3 a.f6 = some (a.f0, a.f1, a.f2, a.f3, a.f4.f0, a.f4.f1, a.f4.f2, a.f4.f3, a.f5.f0, a.f5.f1, a.f5.f2, a.f5.f3, a.f6) := by
    unfold bournelaw0_CopyAcc.f
    rw [Option.bind_some, if_pos (by simp; omega)]
    rfl
  have hv : low_Value.f q.k q.agg q.size q.slide bs q.rank a.f0 a.f1 a.f2 a.f3 a.f4.f0 a.f4.f1 a.f4.f2 a.f4.f3 a.f5.f0 a.f5.f1 a.f5.f2 a.f5.f3 a.f6 = some ((valRes q bs a).1.1, (valRes q bs a).1.2.1, (valRes q bs a).1.2.2, (valRes q bs a).2) := rfl
  have hlen := lowOut_len q bs a
  unfold bournelaw2_Lows.f
  rw [hc, Option.bind_some]
  simp only []
  rw [hv, Option.bind_some, rval_f q bs a hl (by omega), Option.bind_some]
  generalize valRes q bs a = r at *
  obtain ⟨⟨r1, r2, r3⟩, r4⟩ := r
  simp only at hlen ⊢
  rw [sameOut_f r1 r2 r3 (by omega) (by omega), Option.bind_some, if_pos rfl, show bournelaw0_Num.f r4 = some r4 from rfl, Option.bind_some, bne_self_eq_false]
  unfold bournelaw2_Lows.j0
  obtain ⟨s, hs⟩ := spoil_len r3 r3.length (a.f6.length + 19) 0 (by omega) (by omega) (by omega)
  have hs' : bournelaw0_SpoilInts.f (a.f6.length + 19) r3 = some s := hs
  simp only [Bool.false_eq_true, if_false]
  rw [hs', Option.bind_some, sameA_k a hl (by omega), Option.bind_some, if_pos rfl, show bournelaw2_awake.f = some true from rfl]
  rfl
theorem lows_walk (q : Qy) (B : Option Addr) (bs : List Int) (d : Nat) (a : S28) (A : Option Addr) (c : Nat) (w : World) (hB : RdI w B bs) (hd : bs.length ≤ d) (hA : RdI w A a.f6) (hc : a.f6.length ≤ c) (hl : a.f6.length ≤ 17592186044415) :
    Calls Try.prog 3 #[.agg #[.int .i64 q.k, .int .i64 q.agg, .int .i64 q.size, .int .i64 q.slide, .slice B bs.length d, .int .i64 q.rank], .agg #[.int .i64 a.f0, .int .i64 a.f1, .int .i64 a.f2, .int .i64 a.f3, .int .i64 a.f4.f0, .int .i64 a.f4.f1, .int .i64 a.f4.f2, .int .i64 a.f4.f3, .int .i64 a.f5.f0, .int .i64 a.f5.f1, .int .i64 a.f5.f2, .int .i64 a.f5.f3, .slice A a.f6.length c]] w fun e w' => e = .returned (.bool true) ∧ Below w.heap.size w w' :=
  bournelaw2_Lows.calls _ _ _ _ _ B d bs _ _ _ _ _ _ _ _ _ _ _ _ _ A c a.f6 true w hB hd hA hc (lows_f q bs a hl)
end Go.Proofs.Ytggaefklcpbfnaa.My

namespace Go.Proofs.Ytggaefklcpbfnaa.My
open Go.RowKit Pa Go.Proofs.YtggaefklcpbfnaaW.PrintWords

theorem rd_of_row {w : World} {x : Addr} {len cap : Nat} {zs : List Int} (hl : len ≤ cap) (hm : cap ≤ maxLen) (hz : zs.length = cap)
    (hc : ∀ i, i < zs.length → w.cell? (x.add i) = some (.int .i64 (zs.getD i 0))) (hw : ∀ n ∈ zs, (Lit.int .i64 n).wf = true) :
    ∃ l : List Int, len = l.length ∧ RdI w (some x) l ∧ ∀ n ∈ l, (Lit.int .i64 n).wf = true := by
  refine ⟨zs.take len, by rw [List.length_take]; omega, ⟨rfl, ?_, fun _ => ⟨x, rfl, fun j p hp => ⟨[.int .i64 p], rfl, rfl, fun i u hu => ?_⟩⟩⟩, fun n hn => hw n (List.mem_of_mem_take hn)⟩
  · rw [List.length_take]
    have h : maxLen = 9223372036854775807 := by simp [maxLen]
    omega
  · rw [show j * (Kd.int .i64).sz + i = j + i by rw [show (Kd.int .i64).sz = 1 from rfl, Nat.mul_one]]
    cases i with
    | zero =>
      simp at hu
      subst hu
      have hj := (List.getElem?_eq_some_iff.1 hp).1
      rw [List.length_take] at hj
      have h1 := hc j (by omega)
      rw [List.getElem?_take] at hp
      split at hp
      · rw [List.getD_eq_getElem?_getD, hp] at h1
        exact h1
      · cases hp
    | succ i => simp at hu
end Go.Proofs.Ytggaefklcpbfnaa.My

namespace Go.Proofs.Ytggaefklcpbfnaa.My
open Go.RowKit Go.ChangeShapes Go.WideShapes Go.Deep Go.Joins Pa Go.Proofs.YtggaefklcpbfnaaW.PrintWords

section
variable {H : Type} {enc : TypeId × Value → H} {W : World} {fuel base : Nat} {spare : Nat → Bool} {held : Bool} {x : DataW H × List MemPlace}

theorem open_int {cs : List Value} (h : DataW.trod enc Try.prog W base spare held fuel 3 cs = some x) : ∃ n, cs = [.int .i64 n] ∧ (Lit.int .i64 n).wf = true := by
  obtain ⟨n, e, _, hw⟩ := DataW.trod_int Try.underlying3 h
  exact ⟨n, e, hw⟩
def Wf26 (a : S26) : Prop := (Lit.int .i64 a.f0).wf = true ∧ (Lit.int .i64 a.f1).wf = true ∧ (Lit.int .i64 a.f2).wf = true ∧ (Lit.int .i64 a.f3).wf = true
theorem one_cell {cs : List Value} {k : Nat} {v : Value} (h : (cs.drop k).take 1 = [v]) : cs[k]? = some v := by
  have e : ((cs.drop k).take 1)[0]? = some v := by rw [h]; rfl
  rw [List.getElem?_take, if_pos (by decide), List.getElem?_drop] at e
  simpa using e
theorem list4 {cs : List Value} {a b c d : Value} (hl : cs.length = 4) (h0 : cs[0]? = some a) (h1 : cs[1]? = some b) (h2 : cs[2]? = some c) (h3 : cs[3]? = some d) : cs = [a, b, c, d] := by
  match cs, hl with
  | [_, _, _, _], _ => simp_all
theorem open_item {cs : List Value} (h : DataW.trod enc Try.prog W base spare held fuel 26 cs = some x) : ∃ a : S26, cs = [.int .i64 a.f0, .int .i64 a.f1, .int .i64 a.f2, .int .i64 a.f3] ∧ Wf26 a := by
  obtain ⟨y0, y1, y2, y3, n', _, hcl, t0, t1, t2, t3⟩ := trod_struct4 Try.underlying26 h
  obtain ⟨z0, e0, w0⟩ := open_int t0
  obtain ⟨z1, e1, w1⟩ := open_int t1
  obtain ⟨z2, e2, w2⟩ := open_int t2
  obtain ⟨z3, e3, w3⟩ := open_int t3
  have hc4 : Try.prog.cellsOf 26 = 4 := by kernel_rfl
  have hci : Try.prog.cellsOf 3 = 1 := by kernel_rfl
  rw [hc4] at hcl
  simp only [hci] at e0 e1 e2 e3
  exact ⟨⟨z0, z1, z2, z3⟩, list4 hcl (one_cell e0) (one_cell e1) (one_cell e2) (one_cell e3), w0, w1, w2, w3⟩
theorem open_row {A : Option Addr} {len cap : Nat} (h : DataW.trod enc Try.prog W base spare held fuel 22 [.slice A len cap] = some x) : ∃ l : List Int, len = l.length ∧ RdI W A l ∧ len ≤ cap ∧ ∀ n ∈ l, (Lit.int .i64 n).wf = true := by
  rcases open_ints Try.underlying22 Try.underlying3 (by kernel_rfl) h with ⟨hcs, _⟩ | ⟨x, l, c, zs, hcs, _, hl, hm, hz, _, hcell, hwz⟩
  · simp at hcs
    obtain ⟨rfl, rfl, rfl⟩ := hcs
    exact ⟨[], rfl, rdI_nil _, Nat.le_refl _, by simp⟩
  · simp at hcs
    obtain ⟨rfl, rfl, rfl⟩ := hcs
    have hzl : len ≤ zs.length := by rw [hz]; split <;> omega
    have hzc : zs.length ≤ cap := by rw [hz]; split <;> omega
    obtain ⟨l, e, hr, hw⟩ := rd_of_row hzl (Nat.le_trans hzc hm) rfl hcell hwz
    exact ⟨l, e, hr, hl, hw⟩
end
end Go.Proofs.Ytggaefklcpbfnaa.My

namespace Go.Proofs.Ytggaefklcpbfnaa.My
open Go.RowKit Pa Go.Proofs.YtggaefklcpbfnaaW.PrintWords
set_option linter.unusedSimpArgs false

end Go.Proofs.Ytggaefklcpbfnaa.My

namespace Go.Proofs.Ytggaefklcpbfnaa.My
open Go.RowKit Go.ChangeShapes Go.WideShapes Go.Deep Go.Joins Pa Go.Proofs.YtggaefklcpbfnaaW.PrintWords

theorem trod_struct7 {H : Type} {enc : TypeId × Value → H} {P : Program} {w : World} {base : Nat} {spare : Nat → Bool} {held : Bool} {t : TypeId} {f0 f1 f2 f3 f4 f5 f6 : Field} {fuel : Nat} {cs : List Value} {x : DataW H × List MemPlace} (ht : P.underlying t = some (.struct #[f0, f1, f2, f3, f4, f5, f6])) (h : DataW.trod enc P w base spare held fuel t cs = some x) :
    ∃ y0 y1 y2 y3 y4 y5 y6 n, x.1 = .agg [y0.1, y1.1, y2.1, y3.1, y4.1, y5.1, y6.1] ∧ cs.length = P.cellsOf t ∧ DataW.trod enc P w base spare held n f0.type ((cs.drop f0.offset).take (P.cellsOf f0.type)) = some y0 ∧
      DataW.trod enc P w base spare held n f1.type ((cs.drop f1.offset).take (P.cellsOf f1.type)) = some y1 ∧ DataW.trod enc P w base spare held n f2.type ((cs.drop f2.offset).take (P.cellsOf f2.type)) = some y2 ∧
      DataW.trod enc P w base spare held n f3.type ((cs.drop f3.offset).take (P.cellsOf f3.type)) = some y3 ∧ DataW.trod enc P w base spare held n f4.type ((cs.drop f4.offset).take (P.cellsOf f4.type)) = some y4 ∧
      DataW.trod enc P w base spare held n f5.type ((cs.drop f5.offset).take (P.cellsOf f5.type)) = some y5 ∧ DataW.trod enc P w base spare held n f6.type ((cs.drop f6.offset).take (P.cellsOf f6.type)) = some y6 := by
  obtain ⟨xs, n, _, rfl, hl, hlen, hf⟩ := DataW.trod_struct ht h
  match xs, hlen with
  | [y0, y1, y2, y3, y4, y5, y6], _ => exact ⟨y0, y1, y2, y3, y4, y5, y6, n, by simp, hl, by simpa using hf 0 f0 rfl, by simpa using hf 1 f1 rfl, by simpa using hf 2 f2 rfl, by simpa using hf 3 f3 rfl, by simpa using hf 4 f4 rfl, by simpa using hf 5 f5 rfl, by simpa using hf 6 f6 rfl⟩
theorem four_cells {cs : List Value} {k : Nat} {a b c d : Value} (h : (cs.drop k).take 4 = [a, b, c, d]) : cs[k]? = some a ∧ cs[k + 1]? = some b ∧ cs[k + 2]? = some c ∧ cs[k + 3]? = some d := by
  have e : ∀ j, j < 4 → cs[k + j]? = [a, b, c, d][j]? := fun j hj => by rw [← h, List.getElem?_take, if_pos hj, List.getElem?_drop]
  exact ⟨e 0 (by decide), e 1 (by decide), e 2 (by decide), e 3 (by decide)⟩
section
variable {H : Type} {enc : TypeId × Value → H} {W : World} {fuel base : Nat} {spare : Nat → Bool} {held : Bool} {x : DataW H × List MemPlace}

theorem open_acc {cs : List Value} (h : DataW.trod enc Try.prog W base spare held fuel 28 cs = some x) (hw : ∀ n ∈ x.1.weights Try.prog 28, n ≤ reachBytes) :
    ∃ (a : S28) (A : Option Addr) (c : Nat), a.f6.length ≤ c ∧ RdI W A a.f6 ∧ a.f6.length ≤ 17592186044415 ∧ cs.length = 13 ∧ ∀ j, j < 13 → cs[j]? = (accC a (.slice A a.f6.length c))[j]? := by
  obtain ⟨y0, y1, y2, y3, y4, y5, y6, n', hx, hcl, t0, t1, t2, t3, t4, t5, t6⟩ := trod_struct7 Try.underlying28 h
  obtain ⟨z0, e0, _⟩ := open_int t0
  obtain ⟨z1, e1, _⟩ := open_int t1
  obtain ⟨z2, e2, _⟩ := open_int t2
  obtain ⟨z3, e3, _⟩ := open_int t3
  obtain ⟨i4, e4, _⟩ := open_item t4
  obtain ⟨i5, e5, _⟩ := open_item t5
  have hci : Try.prog.cellsOf 3 = 1 := by kernel_rfl
  have hc4 : Try.prog.cellsOf 26 = 4 := by kernel_rfl
  have hcs : Try.prog.cellsOf 22 = 1 := by kernel_rfl
  have hca : Try.prog.cellsOf 28 = 13 := by kernel_rfl
  simp only [hci] at e0 e1 e2 e3
  simp only [hc4] at e4 e5
  rw [hca] at hcl
  obtain ⟨A, len, cap, e6, elems, spare', hy6, hel⟩ : ∃ A len cap, (cs.drop 12).take (Try.prog.cellsOf 22) = [.slice A len cap] ∧ ∃ elems spare', (y6.1 = .nil ∧ len = 0 ∨ y6.1 = DataW.slice elems spare') ∧ (y6.1 = DataW.slice elems spare' → elems.length = len) := by
    rcases open_slice Try.underlying22 t6 with ⟨e, e'⟩ | ⟨q, l, c, m, n, D, Pl, e, _, _, _, _, e', _⟩
    · exact ⟨none, 0, 0, e, [], [], .inl ⟨by rw [e'], rfl⟩, fun h => by rw [e'] at h; cases h⟩
    · exact ⟨some q, l, c, e, _, _, .inr (by rw [e']), fun h => by simp⟩
  have t6' : DataW.trod enc Try.prog W base spare held n' 22 [.slice A len cap] = some y6 := by rw [← e6]; exact t6
  obtain ⟨l, hl, hr, hcap, _⟩ := open_row t6'
  have hb : len ≤ 17592186044415 := by
    rcases hy6 with ⟨_, h0⟩ | hy
    · omega
    · have h1 := hw ((elems.length + spare'.length) * Try.prog.bytesOf 3) (by
        rw [hx]
        have hu := Try.underlying28
        have hu2 := Try.underlying22
        simp only [DataW.weights, hu]
        refine DataW.weights_mem_each (j := 6) (t := 22) (d := y6.1) rfl rfl _ ?_
        rw [hy]
        simp [DataW.weights, hu2])
      rw [show Try.prog.bytesOf 3 = 8 from by kernel_rfl, hel hy, show reachBytes = 140737488351232 from rfl] at h1
      omega
  subst hl
  obtain ⟨c4, c5, c6, c7⟩ := four_cells e4
  obtain ⟨c8, c9, c10, c11⟩ := four_cells e5
  rw [hcs] at e6
  have c0 := one_cell (k := 0) e0
  have c1 := one_cell (k := 1) e1
  have c2 := one_cell (k := 2) e2
  have c3 := one_cell (k := 3) e3
  have c12 := one_cell (k := 12) e6
  refine ⟨⟨z0, z1, z2, z3, i4, i5, l⟩, A, cap, hcap, hr, hb, hcl, fun j hj => ?_⟩
  match j, hj with
  | 0, _ => exact c0
  | 1, _ => exact c1
  | 2, _ => exact c2
  | 3, _ => exact c3
  | 4, _ => exact c4
  | 5, _ => exact c5
  | 6, _ => exact c6
  | 7, _ => exact c7
  | 8, _ => exact c8
  | 9, _ => exact c9
  | 10, _ => exact c10
  | 11, _ => exact c11
  | 12, _ => exact c12
end
end Go.Proofs.Ytggaefklcpbfnaa.My

namespace Go.Proofs.Ytggaefklcpbfnaa.My
open Go.RowKit Go.ChangeShapes Go.WideShapes Go.Deep Go.Joins Pa Go.Proofs.YtggaefklcpbfnaaW.PrintWords

theorem trod_struct6 {H : Type} {enc : TypeId × Value → H} {P : Program} {w : World} {base : Nat} {spare : Nat → Bool} {held : Bool} {t : TypeId} {f0 f1 f2 f3 f4 f5 : Field} {fuel : Nat} {cs : List Value} {x : DataW H × List MemPlace} (ht : P.underlying t = some (.struct #[f0, f1, f2, f3, f4, f5])) (h : DataW.trod enc P w base spare held fuel t cs = some x) :
    ∃ y0 y1 y2 y3 y4 y5 n, cs.length = P.cellsOf t ∧ DataW.trod enc P w base spare held n f0.type ((cs.drop f0.offset).take (P.cellsOf f0.type)) = some y0 ∧
      DataW.trod enc P w base spare held n f1.type ((cs.drop f1.offset).take (P.cellsOf f1.type)) = some y1 ∧ DataW.trod enc P w base spare held n f2.type ((cs.drop f2.offset).take (P.cellsOf f2.type)) = some y2 ∧
      DataW.trod enc P w base spare held n f3.type ((cs.drop f3.offset).take (P.cellsOf f3.type)) = some y3 ∧ DataW.trod enc P w base spare held n f4.type ((cs.drop f4.offset).take (P.cellsOf f4.type)) = some y4 ∧
      DataW.trod enc P w base spare held n f5.type ((cs.drop f5.offset).take (P.cellsOf f5.type)) = some y5 := by
  obtain ⟨xs, n, _, rfl, hl, hlen, hf⟩ := DataW.trod_struct ht h
  match xs, hlen with
  | [y0, y1, y2, y3, y4, y5], _ => exact ⟨y0, y1, y2, y3, y4, y5, n, hl, by simpa using hf 0 f0 rfl, by simpa using hf 1 f1 rfl, by simpa using hf 2 f2 rfl, by simpa using hf 3 f3 rfl, by simpa using hf 4 f4 rfl, by simpa using hf 5 f5 rfl⟩
section
variable {H : Type} {enc : TypeId × Value → H} {W : World} {fuel base : Nat} {spare : Nat → Bool} {held : Bool} {x : DataW H × List MemPlace}

theorem open_query {cs : Array Value} (h : DataW.trod enc Try.prog W base spare held fuel 24 cs.toList = some x) :
    ∃ (q : Qy) (A : Option Addr) (l : List Int) (c : Nat), l.length ≤ c ∧ RdI W A l ∧ cs = #[.int .i64 q.k, .int .i64 q.agg, .int .i64 q.size, .int .i64 q.slide, .slice A l.length c, .int .i64 q.rank] := by
  obtain ⟨cs⟩ := cs
  obtain ⟨y0, y1, y2, y3, y4, y5, n', hcl, t0, t1, t2, t3, t4, t5⟩ := trod_struct6 Try.underlying24 h
  obtain ⟨z0, e0, _⟩ := open_int t0
  obtain ⟨z1, e1, _⟩ := open_int t1
  obtain ⟨z2, e2, _⟩ := open_int t2
  obtain ⟨z3, e3, _⟩ := open_int t3
  obtain ⟨z5, e5, _⟩ := open_int t5
  have hci : Try.prog.cellsOf 3 = 1 := by kernel_rfl
  have hcs : Try.prog.cellsOf 22 = 1 := by kernel_rfl
  have hca : Try.prog.cellsOf 24 = 6 := by kernel_rfl
  simp only [hci] at e0 e1 e2 e3 e5
  rw [hca] at hcl
  obtain ⟨A, len, cap, e4⟩ : ∃ A len cap, (cs.drop 4).take (Try.prog.cellsOf 22) = [.slice A len cap] := by
    rcases open_slice Try.underlying22 t4 with ⟨e, e'⟩ | ⟨q, l, c, m, n, D, Pl, e, _, _, _, _, e', _⟩
    · exact ⟨none, 0, 0, e⟩
    · exact ⟨some q, l, c, e⟩
  have t4' : DataW.trod enc Try.prog W base spare held n' 22 [.slice A len cap] = some y4 := by rw [← e4]; exact t4
  obtain ⟨l, hl, hr, hcap, _⟩ := open_row t4'
  subst hl
  rw [hcs] at e4
  have c0 := one_cell (k := 0) e0
  have c1 := one_cell (k := 1) e1
  have c2 := one_cell (k := 2) e2
  have c3 := one_cell (k := 3) e3
  have c4 := one_cell (k := 4) e4
  have c5 := one_cell (k := 5) e5
  refine ⟨⟨z0, z1, z2, z3, z5⟩, A, l, cap, hcap, hr, ?_⟩
  match cs, hcl with
  | [_, _, _, _, _, _], _ => simp_all
theorem open_accv {cs : Array Value} (h : DataW.trod enc Try.prog W base spare held fuel 28 cs.toList = some x) (hw : ∀ n ∈ x.1.weights Try.prog 28, n ≤ reachBytes) :
    ∃ (a : S28) (A : Option Addr) (c : Nat), a.f6.length ≤ c ∧ RdI W A a.f6 ∧ a.f6.length ≤ 17592186044415 ∧ cs = #[.int .i64 a.f0, .int .i64 a.f1, .int .i64 a.f2, .int .i64 a.f3, .int .i64 a.f4.f0, .int .i64 a.f4.f1, .int .i64 a.f4.f2, .int .i64 a.f4.f3, .int .i64 a.f5.f0, .int .i64 a.f5.f1, .int .i64 a.f5.f2, .int .i64 a.f5.f3, .slice A a.f6.length c] := by
  obtain ⟨cs⟩ := cs
  obtain ⟨a, A, c, hlc, hr, hb, hlen, hj⟩ := open_acc h hw
  have hlen' : cs.length = 13 := hlen
  refine ⟨a, A, c, hlc, hr, hb, ?_⟩
  have e : cs = accC a (.slice A a.f6.length c) := by
    refine List.ext_getElem? fun j => ?_
    by_cases hlt : j < 13
    · exact hj j hlt
    · rw [List.getElem?_eq_none (by omega), List.getElem?_eq_none (by rw [accC_len]; omega)]
  rw [e]
  rfl
end
end Go.Proofs.Ytggaefklcpbfnaa.My
