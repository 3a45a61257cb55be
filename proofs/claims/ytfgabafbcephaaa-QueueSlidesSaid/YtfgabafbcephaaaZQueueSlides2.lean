/- Lemmas, contracts of functions and plain laws, part 2: what the row's proof uses. No statement of the seed is proved here. -/
import Derived.Test.YtfgabafbcephaaaZQueueSlides1
import Derived.Test.YtfgabafbcephaaaYPaItem17
import Derived.Test.YtfgabafbcephaaaYPaInts
import Derived.SizedLaws
import Derived.Lib.SmallJoins
namespace Go.Txt2
open Go.RowKit Go.Txt

inductive Ck where
  | p
  | re
  | rl
  | m
  | c
  | e
  | a
  deriving DecidableEq

structure Kx (S : Nat → Prop) (wb w w' : World) : Prop where
  os : w'.os = w.os
  tape : w'.tape = w.tape
  output : w'.output = w.output
  size : w.heap.size ≤ w'.heap.size
  block : ∀ i, i < w.heap.size → ¬ (S i ∧ i < wb.heap.size) → w'.heap[i]? = w.heap[i]?
section
variable {S : Nat → Prop} {wb w w1 w2 : World}
theorem Kx.refl (S : Nat → Prop) (wb w : World) : Kx S wb w w := ⟨rfl, rfl, rfl, Nat.le_refl _, fun _ _ _ => rfl⟩
theorem Kx.of (h : Bw w w1) : Kx S wb w w1 := ⟨h.os, h.tape, h.output, h.size, fun i hi _ => h.block i hi⟩
theorem Kx.trans (h : Kx S wb w w1) (k : Kx S wb w1 w2) : Kx S wb w w2 :=
  ⟨k.os.trans h.os, k.tape.trans h.tape, k.output.trans h.output, Nat.le_trans h.size k.size, fun i hi hn => (k.block i (Nat.lt_of_lt_of_le hi h.size) hn).trans (h.block i hi hn)⟩
theorem Kx.then_ (h : Kx S wb w w1) (k : Bw w1 w2) : Kx S wb w w2 := h.trans (Kx.of k)
theorem Kx.obj {o : Obj} {g : Nat} (h : Kx S wb w w1) (hg : w.heap[g]? = some o) (hn : wb.heap.size ≤ g) : w1.heap[g]? = some o := (h.block g (Array.getElem?_eq_some_iff.1 hg).1 (fun hh => by omega)).trans hg
end

def stepF (S : Nat → Prop) (P : Program) (wb : World) (k : Ck) (s : Sem Next) (w : World) (F : Tr → World → Prop) : Prop :=
  match k with
  | .p => ∃ v, (∀ w1, s.run P w1 = .ok (.value v) w1) ∧ F (.put v) w
  | .re => Kx S wb wb w ∧ ∃ v, (∀ w1, Kx S wb wb w1 → s.run P w1 = .ok (.value v) w1) ∧ F (.put v) w
  | .rl => Kx S wb wb w ∧ ∃ v, (∀ w1, Bw w w1 → s.run P w1 = .ok (.value v) w1) ∧ F (.put v) w
  | .m => Kx S wb wb w ∧ ∃ (mk : Nat → Value) (obj : Obj), (∀ w1, s.run P w1 = .ok (.value (mk w1.heap.size)) (w1.alloc obj)) ∧ ∀ g w', Bw w w' → wb.heap.size ≤ g → w'.heap[g]? = some obj → F (.put (mk g)) w'
  | .c => Kx S wb wb w ∧ ∀ w1, Bw w w1 → outc P (s.run P w1) fun t w' => Bw w1 w' ∧ F t w'
  | .e => Kx S wb wb w ∧ ∀ w1, Bw w w1 → outc P (s.run P w1) fun t w' => Kx S wb w1 w' ∧ F t w'
  | .a => outc P (s.run P w) F

section
variable {S : Nat → Prop} {P : Program} {wb w : World} {k kj ki : Ck} {s sj si : Sem Next} {F G : Tr → World → Prop}

theorem stepF_mono (h : ∀ t w', (k = .c ∨ k = .a ∨ k = .e ∨ ∃ v, t = .put v) → F t w' → G t w') (hs : stepF S P wb k s w F) : stepF S P wb k s w G := by
  cases k with
  | p =>
    obtain ⟨v, h1, h2⟩ := hs
    exact ⟨v, h1, h _ _ (.inr (.inr (.inr ⟨v, rfl⟩))) h2⟩
  | re =>
    obtain ⟨h0, v, h1, h2⟩ := hs
    exact ⟨h0, v, h1, h _ _ (.inr (.inr (.inr ⟨v, rfl⟩))) h2⟩
  | rl =>
    obtain ⟨h0, v, h1, h2⟩ := hs
    exact ⟨h0, v, h1, h _ _ (.inr (.inr (.inr ⟨v, rfl⟩))) h2⟩
  | m =>
    obtain ⟨h0, mk, obj, h1, h2⟩ := hs
    exact ⟨h0, mk, obj, h1, fun g w' a1 a2 a3 => h _ _ (.inr (.inr (.inr ⟨_, rfl⟩))) (h2 g w' a1 a2 a3)⟩
  | c =>
    obtain ⟨h0, h1⟩ := hs
    exact ⟨h0, fun w1 hw => outc_mono (fun t w' hk => ⟨hk.1, h _ _ (.inl rfl) hk.2⟩) (h1 w1 hw)⟩
  | e =>
    obtain ⟨h0, h1⟩ := hs
    exact ⟨h0, fun w1 hw => outc_mono (fun t w' hk => ⟨hk.1, h _ _ (.inr (.inr (.inl rfl))) hk.2⟩) (h1 w1 hw)⟩
  | a => exact outc_mono (fun t w' hk => h _ _ (.inr (.inl rfl)) hk) hs

theorem stepF_some {φ : Prop} (hs : stepF S P wb k s w fun _ _ => φ) : φ := by
  cases k with
  | p => obtain ⟨v, h1, h2⟩ := hs; exact h2
  | re => obtain ⟨h0, v, h1, h2⟩ := hs; exact h2
  | rl => obtain ⟨h0, v, h1, h2⟩ := hs; exact h2
  | m =>
    obtain ⟨h0, mk, obj, h1, h2⟩ := hs
    exact h2 w.heap.size (w.alloc obj) (Bw.alloc w obj) h0.size (heap_alloc_new w obj)
  | c =>
    obtain ⟨h0, h1⟩ := hs
    exact outc_some (outc_mono (fun _ _ hk => hk.2) (h1 w (Bw.refl w)))
  | e =>
    obtain ⟨h0, h1⟩ := hs
    exact outc_some (outc_mono (fun _ _ hk => hk.2) (h1 w (Bw.refl w)))
  | a => exact outc_some hs

def swapK (kj ki : Ck) : Bool :=
  match kj, ki with
  | .p, _ => true
  | _, .p => true
  | .re, .re => true
  | .re, .rl => true
  | .rl, .re => true
  | .rl, .rl => true
  | .re, .m => true
  | .rl, .m => true
  | .re, .c => true
  | .rl, .c => true
  | .m, .re => true
  | .c, .re => true
  | .m, .m => true
  | .e, .re => true
  | .e, .m => true
  | .re, .e => true
  | .c, .m => true
  | _, _ => false

theorem swap_p {H : Tr → Tr → World → Prop} (h : stepF S P wb .p sj w fun tj w1 => stepF S P wb ki si w1 fun ti w2 => H tj ti w2) : stepF S P wb ki si w fun ti w1 => stepF S P wb .p sj w1 fun tj w2 => H tj ti w2 := by
  obtain ⟨v, h1, h2⟩ := h
  exact stepF_mono (fun t w' _ hk => ⟨v, h1, hk⟩) h2

theorem swap_ip {H : Tr → Tr → World → Prop} (h : stepF S P wb kj sj w fun tj w1 => stepF S P wb .p si w1 fun ti w2 => H tj ti w2) : stepF S P wb .p si w fun ti w1 => stepF S P wb kj sj w1 fun tj w2 => H tj ti w2 := by
  obtain ⟨v, hv⟩ : ∃ v, ∀ w1, si.run P w1 = .ok (.value v) w1 := stepF_some (stepF_mono (fun t w' _ hk => by obtain ⟨v, h1, _⟩ := hk; exact ⟨v, h1⟩) h)
  refine ⟨v, hv, stepF_mono (fun t w' _ hk => ?_) h⟩
  obtain ⟨u, hu, hk⟩ := hk
  have := (value_inj ((hv w').symm.trans (hu w'))).1
  rw [this]
  exact hk

theorem swap_ire {H : Tr → Tr → World → Prop} (hw : Kx S wb wb w) (h : stepF S P wb kj sj w fun tj w1 => stepF S P wb .re si w1 fun ti w2 => H tj ti w2) : stepF S P wb .re si w fun ti w1 => stepF S P wb kj sj w1 fun tj w2 => H tj ti w2 := by
  obtain ⟨v, hv⟩ : ∃ v, ∀ w1, Kx S wb wb w1 → si.run P w1 = .ok (.value v) w1 := stepF_some (stepF_mono (fun t w' _ hk => by obtain ⟨_, v, h1, _⟩ := hk; exact ⟨v, h1⟩) h)
  refine ⟨hw, v, hv, stepF_mono (fun t w' _ hk => ?_) h⟩
  obtain ⟨h0, u, hu, hk⟩ := hk
  have := (value_inj ((hv wb (Kx.refl S wb wb)).symm.trans (hu wb (Kx.refl S wb wb)))).1
  rw [this]
  exact hk

theorem stepF_swap (hk : swapK kj ki = true) {H : Tr → Tr → World → Prop} (h : stepF S P wb kj sj w fun tj w1 => stepF S P wb ki si w1 fun ti w2 => H tj ti w2) : stepF S P wb ki si w fun ti w1 => stepF S P wb kj sj w1 fun tj w2 => H tj ti w2 := by
  cases ki with
  | p => exact swap_ip h
  | re =>
    cases kj with
    | p => exact swap_p h
    | re => exact swap_ire h.1 h
    | rl => exact swap_ire h.1 h
    | m => exact swap_ire h.1 h
    | c => exact swap_ire h.1 h
    | e => exact swap_ire h.1 h
    | a => exact absurd hk (by decide)
  | rl =>
    cases kj with
    | p => exact swap_p h
    | re =>
      obtain ⟨h0, v, h1, _, u, h2, h3⟩ := h
      exact ⟨h0, u, h2, h0, v, h1, h3⟩
    | rl =>
      obtain ⟨h0, v, h1, _, u, h2, h3⟩ := h
      exact ⟨h0, u, h2, h0, v, h1, h3⟩
    | m => exact absurd hk (by decide)
    | c => exact absurd hk (by decide)
    | e => exact absurd hk (by decide)
    | a => exact absurd hk (by decide)
  | m =>
    cases kj with
    | p => exact swap_p h
    | re =>
      obtain ⟨h0, v, h1, _, mk, obj, h2, h3⟩ := h
      exact ⟨h0, mk, obj, h2, fun g w' a1 a2 a3 => ⟨h0.then_ a1, v, h1, h3 g w' a1 a2 a3⟩⟩
    | rl =>
      obtain ⟨h0, v, h1, _, mk, obj, h2, h3⟩ := h
      exact ⟨h0, mk, obj, h2, fun g w' a1 a2 a3 => ⟨h0.then_ a1, v, fun w1 hb => h1 w1 (a1.trans hb), h3 g w' a1 a2 a3⟩⟩
    | m =>
      obtain ⟨h0, mkj, oj, h1, h2⟩ := h
      have hi := h2 w.heap.size (w.alloc oj) (Bw.alloc w oj) h0.size (heap_alloc_new w oj)
      obtain ⟨_, mki, oi, h3, _⟩ := hi
      refine ⟨h0, mki, oi, h3, fun gi wi a1 a2 a3 => ⟨h0.then_ a1, mkj, oj, h1, fun gj wj b1 b2 b3 => ?_⟩⟩
      obtain ⟨_, mki', oi', h3', h4⟩ := h2 gj wj (a1.trans b1) b2 b3
      have e := (h3 wb).symm.trans (h3' wb)
      obtain ⟨e1, e2⟩ := value_inj e
      have eo : oi = oi' := by
        have := congrArg (fun w : World => w.heap[wb.heap.size]?) e2
        simp only [heap_alloc_new] at this
        exact Option.some.inj this
      subst eo
      have em : ∀ n, n = wb.heap.size → mki n = mki' n := fun n hn => by rw [hn]; exact e1
      clear em
      have all : mki gi = mki' gi := by
        have hgi := (h3 ⟨Array.replicate gi (Obj.chan 0 #[] false 0 0 false), wb.tape, wb.drawn, wb.os, wb.output⟩).symm.trans (h3' ⟨Array.replicate gi (Obj.chan 0 #[] false 0 0 false), wb.tape, wb.drawn, wb.os, wb.output⟩)
        have := (value_inj hgi).1
        simpa using this
      rw [all]
      exact h4 gi wj (Bw.refl _) a2 (b1.obj a3)
    | c =>
      obtain ⟨h0, h1⟩ := h
      obtain ⟨mki, oi, h3⟩ : ∃ (mk : Nat → Value) (obj : Obj), ∀ w1, si.run P w1 = .ok (.value (mk w1.heap.size)) (w1.alloc obj) :=
        outc_some (outc_mono (fun _ _ hk => by obtain ⟨_, _, mk, obj, h3, _⟩ := hk; exact ⟨mk, obj, h3⟩) (h1 w (Bw.refl w)))
      refine ⟨h0, mki, oi, h3, fun gi wi a1 a2 a3 => ⟨h0.then_ a1, fun w1 b1 => outc_mono (fun t w' hk => ⟨hk.1, ?_⟩) (h1 w1 (a1.trans b1))⟩⟩
      obtain ⟨hk1, _, mki', oi', h3', h4⟩ := hk
      have all : ∀ n, mki n = mki' n := fun n => by
        have hgi := (h3 ⟨Array.replicate n (Obj.chan 0 #[] false 0 0 false), wb.tape, wb.drawn, wb.os, wb.output⟩).symm.trans (h3' ⟨Array.replicate n (Obj.chan 0 #[] false 0 0 false), wb.tape, wb.drawn, wb.os, wb.output⟩)
        have := (value_inj hgi).1
        simpa using this
      have eo : oi = oi' := by
        have := congrArg (fun w : World => w.heap[wb.heap.size]?) (value_inj ((h3 wb).symm.trans (h3' wb))).2
        simp only [heap_alloc_new] at this
        exact Option.some.inj this
      subst eo
      rw [all]
      exact h4 gi w' (Bw.refl _) a2 ((b1.trans hk1).obj a3)
    | e =>
      obtain ⟨h0, h1⟩ := h
      obtain ⟨mki, oi, h3⟩ : ∃ (mk : Nat → Value) (obj : Obj), ∀ w1, si.run P w1 = .ok (.value (mk w1.heap.size)) (w1.alloc obj) :=
        outc_some (outc_mono (fun _ _ hk => by obtain ⟨_, _, mk, obj, h3, _⟩ := hk; exact ⟨mk, obj, h3⟩) (h1 w (Bw.refl w)))
      refine ⟨h0, mki, oi, h3, fun gi wi a1 a2 a3 => ⟨h0.then_ a1, fun w1 b1 => outc_mono (fun t w' hk => ⟨hk.1, ?_⟩) (h1 w1 (a1.trans b1))⟩⟩
      obtain ⟨hk1, _, mki', oi', h3', h4⟩ := hk
      have all : ∀ n, mki n = mki' n := fun n => by
        have hgi := (h3 ⟨Array.replicate n (Obj.chan 0 #[] false 0 0 false), wb.tape, wb.drawn, wb.os, wb.output⟩).symm.trans (h3' ⟨Array.replicate n (Obj.chan 0 #[] false 0 0 false), wb.tape, wb.drawn, wb.os, wb.output⟩)
        have := (value_inj hgi).1
        simpa using this
      have eo : oi = oi' := by
        have := congrArg (fun w : World => w.heap[wb.heap.size]?) (value_inj ((h3 wb).symm.trans (h3' wb))).2
        simp only [heap_alloc_new] at this
        exact Option.some.inj this
      subst eo
      rw [all]
      exact h4 gi w' (Bw.refl _) a2 (hk1.obj (b1.obj a3) a2)
    | a => exact absurd hk (by decide)
  | c =>
    cases kj with
    | p => exact swap_p h
    | re =>
      obtain ⟨h0, v, h1, _, h2⟩ := h
      exact ⟨h0, fun w1 hw => outc_mono (fun t w' hk => ⟨hk.1, (h0.then_ hw).then_ hk.1, v, h1, hk.2⟩) (h2 w1 hw)⟩
    | rl =>
      obtain ⟨h0, v, h1, _, h2⟩ := h
      exact ⟨h0, fun w1 hw => outc_mono (fun t w' hk => ⟨hk.1, (h0.then_ hw).then_ hk.1, v, fun w2 hb => h1 w2 ((hw.trans hk.1).trans hb), hk.2⟩) (h2 w1 hw)⟩
    | m => exact absurd hk (by decide)
    | c => exact absurd hk (by decide)
    | e => exact absurd hk (by decide)
    | a => exact absurd hk (by decide)
  | e =>
    cases kj with
    | p => exact swap_p h
    | re =>
      obtain ⟨h0, v, h1, _, h2⟩ := h
      exact ⟨h0, fun w1 hw => outc_mono (fun t w' hk => ⟨hk.1, (h0.then_ hw).trans hk.1, v, h1, hk.2⟩) (h2 w1 hw)⟩
    | rl => exact absurd hk (by decide)
    | m => exact absurd hk (by decide)
    | c => exact absurd hk (by decide)
    | e => exact absurd hk (by decide)
    | a => exact absurd hk (by decide)
  | a =>
    cases kj with
    | p => exact swap_p h
    | re => exact absurd hk (by decide)
    | rl => exact absurd hk (by decide)
    | m => exact absurd hk (by decide)
    | c => exact absurd hk (by decide)
    | e => exact absurd hk (by decide)
    | a => exact absurd hk (by decide)

theorem outc_of_stepF (hs : stepF S P wb k s w F) : outc P (s.run P w) F := by
  cases k with
  | p => obtain ⟨v, h1, h2⟩ := hs; rw [h1]; exact h2
  | re => obtain ⟨h0, v, h1, h2⟩ := hs; rw [h1 w h0]; exact h2
  | rl => obtain ⟨h0, v, h1, h2⟩ := hs; rw [h1 w (Bw.refl w)]; exact h2
  | m =>
    obtain ⟨h0, mk, obj, h1, h2⟩ := hs
    rw [h1]
    exact h2 _ _ (Bw.alloc w obj) h0.size (heap_alloc_new w obj)
  | c =>
    obtain ⟨h0, h1⟩ := hs
    exact outc_mono (fun _ _ hk => hk.2) (h1 w (Bw.refl w))
  | e =>
    obtain ⟨h0, h1⟩ := hs
    exact outc_mono (fun _ _ hk => hk.2) (h1 w (Bw.refl w))
  | a => exact hs
end

section
variable {S : Nat → Prop} {P : Program} {ops : Array Oper} {wb : World}

def stepM (S : Nat → Prop) (P : Program) (ops : Array Oper) (wb : World) (k : Ck) (o : Oper) (K : Act → World → Prop) (a : Act) (w : World) : Prop :=
  if Region.wanted o (yielded ops a.tmps) then stepF S P wb k (execOp a.eval o) w fun t w' => K (t.on o.dst a) w' else K ((Tr.put undef).on o.dst a) w

theorem stepM_mono {k : Ck} {o : Oper} {K K' : Act → World → Prop} {a : Act} {w : World} (h : ∀ a w, K a w → K' a w) (hs : stepM S P ops wb k o K a w) : stepM S P ops wb k o K' a w := by
  unfold stepM at *
  split
  · rename_i hw
    rw [if_pos hw] at hs
    exact stepF_mono (fun _ _ _ he => h _ _ he) hs
  · rename_i hw
    rw [if_neg hw] at hs
    exact h _ _ hs

theorem swapK_put {kj ki : Ck} (h : swapK kj ki = true) : (kj ≠ .c ∧ kj ≠ .a ∧ kj ≠ .e) ∨ (ki ≠ .c ∧ ki ≠ .a ∧ ki ≠ .e) := by
  cases kj <;> cases ki <;> first | exact absurd h (by decide) | (left; refine ⟨?_, ?_, ?_⟩ <;> (intro hh; cases hh); done) | (right; refine ⟨?_, ?_, ?_⟩ <;> (intro hh; cases hh); done)

theorem stepM_swap {kj ki : Ck} {oi oj : Oper} (hap : oj.apart ops oi = true) (hsi : ∀ cs b, oi.op ≠ .select cs b) (hsj : ∀ cs b, oj.op ≠ .select cs b) (hk : swapK kj ki = true) {K : Act → World → Prop} {a : Act} {w : World}
    (h : stepM S P ops wb kj oj (stepM S P ops wb ki oi K) a w) : stepM S P ops wb ki oi (stepM S P ops wb kj oj K) a w := by
  obtain ⟨h1, h2, h3⟩ := Oper.apart_spec hap
  have ej : ∀ (t : Tr), execOp (t.on oi.dst a).eval oj = execOp a.eval oj := fun t => exec_on t _ _ oj hsj h3
  have wj : ∀ (t : Tr), Region.wanted oj (yielded ops (t.on oi.dst a).tmps) = Region.wanted oj (yielded ops a.tmps) := fun t => wanted_on t _ _ oj h3
  have ei : ∀ (t : Tr), execOp (t.on oj.dst a).eval oi = execOp a.eval oi := fun t => exec_on t _ _ oi hsi h1
  have wi : ∀ (t : Tr), Region.wanted oi (yielded ops (t.on oj.dst a).tmps) = Region.wanted oi (yielded ops a.tmps) := fun t => wanted_on t _ _ oi h1
  have cm : ∀ (ti tj : Tr), ((∃ v, ti = .put v) ∨ ∃ v, tj = .put v) → ti.on oi.dst (tj.on oj.dst a) = tj.on oj.dst (ti.on oi.dst a) := fun ti tj hh => on_comm hh _ _ a (fun d e1 e2 => h2 d e2 e1)
  unfold stepM at h ⊢
  by_cases wa : Region.wanted oj (yielded ops a.tmps) = true
  · by_cases wb' : Region.wanted oi (yielded ops a.tmps) = true
    · rw [if_pos wa] at h
      rw [if_pos wb']
      simp only [wi, if_pos wb', ei] at h
      simp only [wj, if_pos wa, ej]
      have hs := stepF_swap hk (H := fun tj ti w2 => K (ti.on oi.dst (tj.on oj.dst a)) w2) h
      refine stepF_mono (fun ti w1 hti hk1 => stepF_mono (fun tj w2 htj hk2 => ?_) hk1) hs
      rw [← cm ti tj ?_]
      · exact hk2
      · rcases swapK_put hk with ⟨n1, n2, n3⟩ | ⟨n1, n2, n3⟩
        · exact .inr (((htj.resolve_left n1).resolve_left n2).resolve_left n3)
        · exact .inl (((hti.resolve_left n1).resolve_left n2).resolve_left n3)
    · rw [if_pos wa] at h
      rw [if_neg wb']
      simp only [wi, if_neg wb'] at h
      simp only [wj, if_pos wa, ej]
      refine stepF_mono (fun tj w2 htj hk2 => ?_) h
      rw [← cm (.put undef) tj (.inl ⟨_, rfl⟩)]
      exact hk2
  · rw [if_neg wa] at h
    simp only [wi, ei] at h
    simp only [wj, if_neg wa]
    by_cases wb' : Region.wanted oi (yielded ops a.tmps) = true
    · rw [if_pos wb'] at h ⊢
      refine stepF_mono (fun ti w2 hti hk2 => ?_) h
      rw [← cm ti (.put undef) (.inr ⟨_, rfl⟩)]
      exact hk2
    · rw [if_neg wb'] at h ⊢
      rw [← cm (.put undef) (.put undef) (.inr ⟨_, rfl⟩)]
      exact h

theorem wpOp_of_stepM {i : Nat} {k : Ck} {o : Oper} (hi : ops[i]? = some o) {K : Act → World → Prop} {Q : Exit → Act → World → Prop} {a : Act} {w : World} (hs : stepM S P ops wb k o K a w) : wpOp P ops Q i K a w := by
  unfold stepM at hs
  unfold wpOp
  simp only [hi]
  split
  · rename_i hw
    rw [if_pos hw] at hs
    exact .inl (wp_of_outc (outc_of_stepF hs))
  · rename_i hw
    rw [if_neg hw] at hs
    exact hs

def kop : Op → Ck
  | .move _ => .p
  | .assign _ => .p
  | .pick .. => .p
  | .nilCheck _ => .p
  | .binOp .. => .p
  | .unOp .. => .p
  | .convert .. => .p
  | .fieldAddr .. => .p
  | .field .. => .p
  | .indexAddr .. => .p
  | .index .. => .p
  | .extract .. => .p
  | .slice .. => .p
  | .build .. => .p
  | .makeFunc .. => .p
  | .load .. => .re
  | .alloc _ => .m
  | .box .. => .m
  | .buildSlice .. => .m
  | .makeSlice .. => .m
  | .call c => match c.callee with
    | .builtin .len => .p
    | .builtin .append => .e
    | .builtin .cap => .p
    | .builtin .max => .p
    | .builtin .min => .p
    | .value _ => .c
    | _ => .a
  | _ => .a

def dat (ops : Array Oper) : Nat → Nat → Bool
  | 0, _ => true
  | n + 1, i => match ops[i]? with
    | some o => o.after.toList.any fun e => decide (e.ground = .data) && ((match ops[e.on]? with | some oj => decide (kop oj.op = .m) || decide (kop oj.op = .c) || decide (kop oj.op = .e) | none => false) || dat ops n e.on)
    | none => false

def kat (ops : Array Oper) (B : Array Nat) (i : Nat) (o : Oper) : Ck :=
  match kop o.op with
  | .p => .p
  | .a => .a
  | k => if (List.range i).any (fun j => match ops[j]? with | some oj => decide (kop oj.op = .a) | none => false) then .a
    else match k with
      | .re => if (List.range i).any (fun j => (B.getD i 0).testBit j && match ops[j]? with | some oj => decide (kop oj.op = .m) || decide (kop oj.op = .c) || decide (kop oj.op = .e) | none => false) && dat ops (i + 1) i then .rl else .re
      | k => k
theorem kat_p {ops : Array Oper} {B : Array Nat} {i : Nat} {o : Oper} (h : kop o.op = .p) : kat ops B i o = .p := by unfold kat; rw [h]

def runM (S : Nat → Prop) (P : Program) (ops : Array Oper) (wb : World) (B : Array Nat) (Q : Act → World → Prop) : List Nat → Act → World → Prop
  | [], a, w => Q a w
  | i :: r, a, w => match ops[i]? with
    | some o => stepM S P ops wb (kat ops B i o) o (runM S P ops wb B Q r) a w
    | none => runM S P ops wb B Q r a w

def orderedOrSwapsM (ops : Array Oper) (B : Array Nat) (j i : Nat) : Bool :=
  (B.getD i 0).testBit j || match ops[j]?, ops[i]? with
    | some oj, some oi => oj.apart ops oi && swapK (kat ops B j oj) (kat ops B i oi)
    | _, _ => false

def mixB (ops : Array Oper) (B : Array Nat) : Bool :=
  Region.noSelect ops && (List.range ops.size).all fun i =>
    (match ops[i]? with
      | some o => o.after.toList.all (fun e => !Region.binds .any e || decide (e.on < i)) && ((B.getD i 0 ||| upOf B o) == upOf B o)
      | none => true) && (List.range i).all fun j => orderedOrSwapsM ops B j i

theorem mixB_row {B : Array Nat} (h : mixB ops B = true) {i : Nat} {o : Oper} (hi : ops[i]? = some o) :
    (∀ e ∈ o.after, Region.binds .any e = true → e.on < i) ∧ (∀ j, (B.getD i 0).testBit j = true → ∃ e ∈ o.after, Region.binds .any e = true ∧ (e.on = j ∨ (B.getD e.on 0).testBit j = true)) ∧ ∀ j, j < i → orderedOrSwapsM ops B j i = true := by
  have hlt : i < ops.size := (Array.getElem?_eq_some_iff.1 hi).1
  simp only [mixB, Bool.and_eq_true, List.all_eq_true, List.mem_range] at h
  have h1 := h.2 i hlt
  rw [hi] at h1
  simp only [Bool.and_eq_true, List.all_eq_true, Bool.or_eq_true, Bool.not_eq_true', decide_eq_true_eq, beq_iff_eq] at h1
  obtain ⟨⟨h2, h3⟩, h4⟩ := h1
  refine ⟨fun e he hb => ?_, fun j hj => ?_, h4⟩
  · rcases h2 e (by simpa using he) with h | h
    · rw [hb] at h; cases h
    · exact h
  · refine upOf_bit ?_
    rw [← h3, Nat.testBit_or, hj, Bool.true_or]

theorem bits_listedM {B : Array Nat} (hB : mixB ops B = true) {listed : Array Bool} (hs : Txt.Shut ops listed) : ∀ (m i : Nat), i ≤ m → ∀ o, ops[i]? = some o → (∀ e ∈ o.after, Region.binds .any e = true → listed.getD e.on false = true) →
    ∀ j, (B.getD i 0).testBit j = true → listed.getD j false = true := by
  intro m
  induction m with
  | zero =>
    intro i hi o ho hd j hj
    obtain ⟨h1, h2, _⟩ := mixB_row hB ho
    obtain ⟨e, he, hb, _⟩ := h2 j hj
    have := h1 e he hb
    omega
  | succ m ih =>
    intro i hi o ho hd j hj
    obtain ⟨h1, h2, _⟩ := mixB_row hB ho
    obtain ⟨e, he, hb, hj⟩ := h2 j hj
    have hlt := h1 e he hb
    have hl := hd e he hb
    rcases hj with rfl | hj
    · exact hl
    · have hsz : i < ops.size := (Array.getElem?_eq_some_iff.1 ho).1
      have hoe : ops[e.on]? = some ops[e.on] := Array.getElem?_eq_getElem (by omega)
      exact ih e.on (by omega) _ hoe (fun e' he' hb' => hs _ _ hoe hl e' he' hb') j hj

theorem runM_front {B : Array Nat} {Q : Act → World → Prop} {i : Nat} {oi : Oper} (hi : ops[i]? = some oi) (hsel : ∀ (j : Nat) (o : Oper) cs b, ops[j]? = some o → o.op ≠ .select cs b) :
    ∀ (l1 l2 : List Nat) (a : Act) (w : World),
      (∀ j ∈ l1, ∃ oj, ops[j]? = some oj ∧ oj.apart ops oi = true ∧ swapK (kat ops B j oj) (kat ops B i oi) = true) →
      runM S P ops wb B Q (l1 ++ i :: l2) a w → stepM S P ops wb (kat ops B i oi) oi (runM S P ops wb B Q (l1 ++ l2)) a w := by
  intro l1
  induction l1 with
  | nil =>
    intro l2 a w _ h
    simp only [List.nil_append, runM, hi] at h
    exact h
  | cons j r ih =>
    intro l2 a w hl h
    obtain ⟨oj, hj, hap, hc⟩ := hl j List.mem_cons_self
    simp only [List.cons_append, runM, hj] at h
    have h' : stepM S P ops wb (kat ops B j oj) oj (stepM S P ops wb (kat ops B i oi) oi (runM S P ops wb B Q (r ++ l2))) a w := stepM_mono (fun b w' hb => ih l2 b w' (fun k hk => hl k (List.mem_cons_of_mem _ hk)) hb) h
    have h'' := stepM_swap hap (fun cs b => hsel i oi cs b hi) (fun cs b => hsel j oj cs b hj) hc h'
    refine stepM_mono (fun b w' hb => ?_) h''
    simp only [List.cons_append, runM, hj]
    exact hb

theorem wpAny_of_runM {B : Array Nat} (hB : mixB ops B = true) {Q : Exit → Act → World → Prop} : ∀ (fuel : Nat) (listed : Array Bool) (a : Act) (w : World), listed.size = ops.size → Txt.Shut ops listed → (rest ops.size listed).length = fuel →
    runM S P ops wb B (fun a w => Q .normal a w) (rest ops.size listed) a w → wpAny P .any ops Q fuel listed a w := by
  have hsel := Region.noSelect_spec (by simp only [mixB, Bool.and_eq_true] at hB; exact hB.1)
  intro fuel
  induction fuel with
  | zero =>
    intro listed a w hn hs hl h
    have hnil := List.eq_nil_of_length_eq_zero hl
    rw [hnil] at h
    refine ⟨?_, h⟩
    refine List.eq_nil_iff_forall_not_mem.2 fun i hi => ?_
    obtain ⟨h0, o, ho, _⟩ := mem_ready.1 hi
    have hlt : i < ops.size := (Array.getElem?_eq_some_iff.1 ho).1
    have : i ∈ rest ops.size listed := by
      unfold rest
      rw [List.mem_filter, List.mem_range]
      exact ⟨hlt, by rw [h0]; rfl⟩
    rw [hnil] at this
    cases this
  | succ fuel ih =>
    intro listed a w hn hs hl h
    refine ⟨fun hr => ?_, fun i hi => ?_⟩
    · exfalso
      cases hrest : rest ops.size listed with
      | nil => rw [hrest] at hl; simp at hl
      | cons x r =>
        have hx : x ∈ rest ops.size listed := by rw [hrest]; exact List.mem_cons_self
        have hex : ∀ k, (∃ i, i ≤ k ∧ i ∈ rest ops.size listed) → ∃ i, i ∈ rest ops.size listed ∧ ∀ j, j < i → j ∉ rest ops.size listed := by
          intro k
          induction k with
          | zero =>
            rintro ⟨i, h1, h2⟩
            exact ⟨i, h2, fun j hj => by omega⟩
          | succ k ihk =>
            rintro ⟨i, h1, h2⟩
            by_cases hlow : ∃ j, j ≤ k ∧ j ∈ rest ops.size listed
            · exact ihk hlow
            · exact ⟨i, h2, fun j hj hm => hlow ⟨j, by omega, hm⟩⟩
        obtain ⟨i, him, hmin⟩ := hex x ⟨x, Nat.le_refl _, hx⟩
        have him' := him
        unfold rest at him'
        rw [List.mem_filter, List.mem_range] at him'
        have ho : ops[i]? = some ops[i] := Array.getElem?_eq_getElem him'.1
        have : i ∈ Region.ready .any ops listed := by
          refine mem_ready.2 ⟨by simpa using him'.2, _, ho, fun e he hb => ?_⟩
          have hlt := (mixB_row hB ho).1 e he hb
          have hno := hmin e.on hlt
          unfold rest at hno
          rw [List.mem_filter, List.mem_range] at hno
          have hsz : e.on < listed.size := by omega
          have e1 : listed.getD e.on true = listed.getD e.on false := by simp [hsz]
          cases hb2 : listed.getD e.on false with
          | true => rfl
          | false =>
            rw [hb2] at e1
            exact absurd ⟨by omega, by rw [e1]; rfl⟩ hno
        rw [hr] at this
        cases this
    · obtain ⟨h0, oi, ho, hd⟩ := mem_ready.1 hi
      have hlt : i < ops.size := (Array.getElem?_eq_some_iff.1 ho).1
      obtain ⟨l1, l2, e1, e2, hl1⟩ := rest_split hn hlt h0
      rw [e1] at h
      have hfront := runM_front ho hsel l1 l2 a w (fun j hj => by
        obtain ⟨hji, hju⟩ := hl1 j hj
        have hsw := (mixB_row hB ho).2.2 j hji
        have hoj : ops[j]? = some ops[j] := Array.getElem?_eq_getElem (by omega)
        unfold orderedOrSwapsM at hsw
        rw [Bool.or_eq_true] at hsw
        rcases hsw with hsw | hsw
        · have := bits_listedM hB hs i i (Nat.le_refl _) oi ho hd j hsw
          have hsz : j < listed.size := by omega
          have e3 : listed.getD j true = listed.getD j false := by simp [hsz]
          rw [hju, this] at e3
          cases e3
        · rw [hoj, ho] at hsw
          simp only [Bool.and_eq_true] at hsw
          exact ⟨_, hoj, hsw.1, hsw.2⟩) h
      refine wpOp_of_stepM ho (stepM_mono (fun b w' hb => ih _ b w' (by simpa using hn) ?_ ?_ (by rw [e2]; exact hb)) hfront)
      · intro k o hk hkl e he hb
        rw [getD_set _ _ _ _ (by omega)] at hkl
        by_cases hik : i = k
        · subst hik
          rw [ho] at hk
          injection hk with hk
          subst hk
          exact getD_set_true (hd e he hb)
        · rw [if_neg hik] at hkl
          exact getD_set_true (hs k o hk hkl e he hb)
      · rw [e2]
        rw [e1] at hl
        simp only [List.length_append, List.length_cons] at hl ⊢
        omega

def mixD (S : Nat → Prop) (P : Program) (ops : Array Oper) (wb : World) (B : Array Nat) (Q : Act → World → Prop) : Nat → List Oper → Act → World → Prop
  | _, [], a, w => Q a w
  | i, o :: r, a, w => stepM S P ops wb (kat ops B i o) o (mixD S P ops wb B Q (i + 1) r) a w

theorem runM_of_mix {B : Array Nat} {Q : Act → World → Prop} (l : List Oper) : ∀ k, (∀ j, l[j]? = ops[k + j]?) → ∀ a w, mixD S P ops wb B Q k l a w → runM S P ops wb B Q (List.range' k l.length) a w := by
  induction l with
  | nil => intro k _ a w h; exact h
  | cons o l ih =>
    intro k h a w hw
    have h0 : ops[k]? = some o := by simpa using (h 0).symm
    simp only [List.length_cons, List.range'_succ, runM, h0]
    exact stepM_mono (fun b w' hb => ih (k + 1) (fun j => by have := h (j + 1); simpa [Nat.add_assoc, Nat.add_comm 1 j] using this) b w' hb) hw

structure wpMix (S : Nat → Prop) (P : Program) (ops : Array Oper) (wb : World) (Q : Act → World → Prop) (i : Nat) (l : List Oper) (a : Act) (w : World) : Prop where
  mk :: (out : mixD S P ops wb (Region.before ops) Q i l a w)

theorem wp_region_mix {id : Nat} {Q : Exit → Act → World → Prop} {a : Act} {w : World} {l : List Oper} (hm : P.follows .mixedOrders = true) (hB : mixB l.toArray (Region.before l.toArray) = true)
    (h : Kx S w.drew w.drew w.drew → wpMix S P l.toArray w.drew (fun a w => Q .normal a w) 0 l a w.drew) : (Code.region id l.toArray true).wp P Q a w := by
  refine wp_region_any hm ?_
  have h1 := runM_of_mix (ops := l.toArray) l 0 (by simp) a _ (h (Kx.refl _ _ _)).out
  refine wpAny_of_runM (S := S) (wb := w.drew) hB _ _ _ _ (by simp) ?_ ?_ ?_
  · intro k o hk hl
    by_cases hlt : k < l.length
    · simp [hlt] at hl
    · simp [hlt] at hl
  · rw [rest_none]; simp
  · rw [rest_none]
    rw [List.range_eq_range']
    simpa using h1

variable {Q : Act → World → Prop} {r : List Oper} {o : Oper} {a : Act} {w : World} {i : Nat}

theorem mix_nil (h : Q a w) : wpMix S P ops wb Q i [] a w := ⟨h⟩

theorem mix_pass {ts : List Value} {ds : List Deferred} {d : Nat} (hd : o.dst = some d) (hw : Region.wanted o (yielded ops ts.toArray) = false) (h : wpMix S P ops wb Q (i + 1) r ⟨(ts.set d undef).toArray, ds⟩ w) : wpMix S P ops wb Q i (o :: r) ⟨ts.toArray, ds⟩ w := by
  refine ⟨?_⟩
  show stepM S P ops wb (kat ops _ i o) o (mixD S P ops wb _ Q (i + 1) r) _ w
  unfold stepM
  rw [hw, hd]
  have := h.out
  simpa [Act.put, Tr.on] using this

theorem mix_p (hw : Region.wanted o (yielded ops a.tmps) = true) (hc : cl o.op = .p) (hk : kop o.op = .p) (h : ∀ K : Act → Prop, (∀ a', wpMix S P ops wb Q (i + 1) r a' w → K a') → o.quiet P a (fun _ => True) K) : wpMix S P ops wb Q i (o :: r) a w := by
  obtain ⟨v, h1, h2⟩ := h (fun a' => wpMix S P ops wb Q (i + 1) r a' w) (fun _ h => h)
  refine ⟨?_⟩
  show stepM S P ops wb (kat ops _ i o) o (mixD S P ops wb _ Q (i + 1) r) a w
  unfold stepM
  rw [if_pos hw, kat_p hk]
  refine ⟨v, fun w' => ?_, h2.out⟩
  have h3 := h1 w' trivial
  unfold Oper.quietAt at h3
  cases hr : (execOp a.eval o).run P w' with
  | halt x w1 => rw [hr] at h3; exact h3.elim
  | ok n w1 =>
    obtain ⟨u, rfl⟩ := value_of_cl (by rw [hc]; decide) hr
    rw [hr] at h3
    obtain ⟨e1, e2⟩ := h3
    rw [e1, e2]

theorem load_keeps {wr w1 : World} {t : TypeId} {x : Operand} {ad : Addr} {v : Value} (ho : o.op = .load t x) (hx : a.eval x = .pointer (some ad)) (hc : (wr.cell? ad).isSome = true) (hr : (execOp a.eval o).run P wr = .ok (.value v) wr) (hb : ad.block < wr.heap.size → w1.heap[ad.block]? = wr.heap[ad.block]?) : (execOp a.eval o).run P w1 = .ok (.value v) w1 := by
  obtain ⟨u, hu⟩ := Option.isSome_iff_exists.1 hc
  have hlt := World.block_lt_of_cell? wr ad hu
  have hcells : ∃ cs t fr, wr.heap[ad.block]? = some (.cells cs t fr) := by
    unfold World.cell? at hu
    split at hu
    · rename_i c e f hh
      exact ⟨_, _, _, hh⟩
    · cases hu
  have hs : execOp a.eval o = (do let y ← Go.loadVar t ad; pure (Next.value y) : Sem Next) := by
    obtain ⟨dst, op, type, pos, after, guard⟩ := o
    simp only at ho
    subst ho
    simp only [execOp, hx]
    rfl
  rw [hs] at hr ⊢
  exact near_bind (near_var t ad).1 (near_var t ad).2 (fun y => near_pure _) P wr w1 wr _ (hb hlt) hcells hr
theorem mix_re {t : TypeId} {x : Operand} {ad : Addr} (hw : Region.wanted o (yielded ops a.tmps) = true) (hk : kat ops (Region.before ops) i o = .re ∨ kat ops (Region.before ops) i o = .rl) (ho : o.op = .load t x) (hx : a.eval x = .pointer (some ad)) (hc : (wb.cell? ad).isSome = true) (hn : ¬ S ad.block) (hB : Kx S wb wb w)
    (h : ∀ K : Act → Prop, (∀ a', wpMix S P ops wb Q (i + 1) r a' w → K a') → o.quiet P a (fun w' => w' = wb) K) : wpMix S P ops wb Q i (o :: r) a w := by
  obtain ⟨v, h1, h2⟩ := quiet_run (C := fun w' => w' = wb) (wr := wb) (by rw [ho]; exact fun hh => by cases hh) rfl (h (fun a' => wpMix S P ops wb Q (i + 1) r a' w) (fun _ h => h))
  refine ⟨?_⟩
  show stepM S P ops wb (kat ops _ i o) o (mixD S P ops wb _ Q (i + 1) r) a w
  unfold stepM
  rw [if_pos hw]
  rcases hk with hk | hk
  · rw [hk]
    exact ⟨hB, v, fun w1 hb => load_keeps ho hx hc h1 (fun hl => hb.block _ hl (fun hh => hn hh.1)), h2.out⟩
  · rw [hk]
    exact ⟨hB, v, fun w1 hb => load_keeps ho hx hc h1 (fun hl => (hB.then_ hb).block _ hl (fun hh => hn hh.1)), h2.out⟩

theorem mix_rl {t : TypeId} {x : Operand} {ad : Addr} (hw : Region.wanted o (yielded ops a.tmps) = true) (hk : kat ops (Region.before ops) i o = .rl) (ho : o.op = .load t x) (hx : a.eval x = .pointer (some ad)) (hc : (w.cell? ad).isSome = true) (hB : Kx S wb wb w)
    (h : ∀ K : Act → Prop, (∀ a', wpMix S P ops wb Q (i + 1) r a' w → K a') → o.quiet P a (fun w' => w' = w) K) : wpMix S P ops wb Q i (o :: r) a w := by
  obtain ⟨v, h1, h2⟩ := quiet_run (C := fun w' => w' = w) (wr := w) (by rw [ho]; exact fun hh => by cases hh) rfl (h (fun a' => wpMix S P ops wb Q (i + 1) r a' w) (fun _ h => h))
  refine ⟨?_⟩
  show stepM S P ops wb (kat ops _ i o) o (mixD S P ops wb _ Q (i + 1) r) a w
  unfold stepM
  rw [if_pos hw, hk]
  exact ⟨hB, v, fun w1 hb => load_sure ho hx hc h1 hb, h2.out⟩

theorem mix_m (mk : Nat → Value) (obj : Obj) (hw : Region.wanted o (yielded ops a.tmps) = true) (hk : kat ops (Region.before ops) i o = .m) (hr : ∀ w1, (execOp a.eval o).run P w1 = .ok (.value (mk w1.heap.size)) (w1.alloc obj)) (hB : Kx S wb wb w)
    (h : ∀ g w', Bw w w' → wb.heap.size ≤ g → w'.heap[g]? = some obj → wpMix S P ops wb Q (i + 1) r (a.put o.dst (mk g)) w') : wpMix S P ops wb Q i (o :: r) a w := by
  refine ⟨?_⟩
  show stepM S P ops wb (kat ops _ i o) o (mixD S P ops wb _ Q (i + 1) r) a w
  unfold stepM
  rw [if_pos hw, hk]
  exact ⟨hB, mk, obj, hr, fun g w' h1 h2 h3 => (h g w' h1 h2 h3).out⟩

theorem mix_c (hw : Region.wanted o (yielded ops a.tmps) = true) (hk : kat ops (Region.before ops) i o = .c) (hB : Kx S wb wb w)
    (h : ∀ w1, Bw w w1 → ∀ K : Act → World → Prop, (∀ a' w', Bw w1 w' ∧ wpMix S P ops wb Q (i + 1) r a' w' → K a' w') → o.wp P a w1 K NoQ) : wpMix S P ops wb Q i (o :: r) a w := by
  refine ⟨?_⟩
  show stepM S P ops wb (kat ops _ i o) o (mixD S P ops wb _ Q (i + 1) r) a w
  unfold stepM
  rw [if_pos hw, hk]
  refine ⟨hB, fun w1 hw1 => ?_⟩
  exact outc_mono (fun t w' hk => ⟨hk.1, hk.2.out⟩) (outc_of_wp (h w1 hw1 (fun a' w' => Bw w1 w' ∧ wpMix S P ops wb Q (i + 1) r a' w') (fun _ _ h => h)))

theorem mix_a (hw : Region.wanted o (yielded ops a.tmps) = true) (hk : kat ops (Region.before ops) i o = .a) (h : ∀ K : Act → World → Prop, (∀ a' w', wpMix S P ops wb Q (i + 1) r a' w' → K a' w') → o.wp P a w K NoQ) : wpMix S P ops wb Q i (o :: r) a w := by
  refine ⟨?_⟩
  show stepM S P ops wb (kat ops _ i o) o (mixD S P ops wb _ Q (i + 1) r) a w
  unfold stepM
  rw [if_pos hw, hk]
  exact outc_mono (fun t w' hk => hk.out) (outc_of_wp (h _ fun _ _ h => h))
theorem mix_e (hw : Region.wanted o (yielded ops a.tmps) = true) (hk : kat ops (Region.before ops) i o = .e) (hB : Kx S wb wb w)
    (h : ∀ w1, Bw w w1 → ∀ K : Act → World → Prop, (∀ a' w', Kx S wb w1 w' ∧ wpMix S P ops wb Q (i + 1) r a' w' → K a' w') → o.wp P a w1 K NoQ) : wpMix S P ops wb Q i (o :: r) a w := by
  refine ⟨?_⟩
  show stepM S P ops wb (kat ops _ i o) o (mixD S P ops wb _ Q (i + 1) r) a w
  unfold stepM
  rw [if_pos hw, hk]
  refine ⟨hB, fun w1 hw1 => ?_⟩
  exact outc_mono (fun t w' hk => ⟨hk.1, hk.2.out⟩) (outc_of_wp (h w1 hw1 (fun a' w' => Kx S wb w1 w' ∧ wpMix S P ops wb Q (i + 1) r a' w') (fun _ _ h => h)))
end
end Go.Txt2

namespace Go.Proofs.Ytfgabafbcephaaa.My
open Go.RowKit Pa Go.Proofs.YtfgabafbcephaaaW.PrintWords
set_option linter.unusedSimpArgs false

def qO (bv fv kv : Value) (a : S36) (av : Value) : Obj := .cells #[bv, fv, kv, .int .i64 a.f0, .int .i64 a.f1, .int .i64 a.f2, .int .i64 a.f3, .int .i64 a.f4.f0, .int .i64 a.f4.f1, .int .i64 a.f4.f2, .int .i64 a.f4.f3, .int .i64 a.f5.f0, .int .i64 a.f5.f1, .int .i64 a.f5.f2, .int .i64 a.f5.f3, av] 87
theorem qO_facts {w : World} {g : Nat} {bv fv kv av : Value} {a : S36} (h : w.heap[g]? = some (qO bv fv kv a av)) : w.cell? ⟨g, 0, none⟩ = some bv ∧ w.cell? ⟨g, 1, none⟩ = some fv ∧ w.cell? ⟨g, 2, none⟩ = some kv ∧ w.cell? ⟨g, 3, none⟩ = some (.int .i64 a.f0) ∧ w.cell? ⟨g, 4, none⟩ = some (.int .i64 a.f1) ∧ w.cell? ⟨g, 5, none⟩ = some (.int .i64 a.f2) ∧ w.cell? ⟨g, 6, none⟩ = some (.int .i64 a.f3) ∧ w.cell? ⟨g, 7, none⟩ = some (.int .i64 a.f4.f0) ∧ w.cell? ⟨g, 8, none⟩ = some (.int .i64 a.f4.f1) ∧ w.cell? ⟨g, 9, none⟩ = some (.int .i64 a.f4.f2) ∧ w.cell? ⟨g, 10, none⟩ = some (.int .i64 a.f4.f3) ∧ w.cell? ⟨g, 11, none⟩ = some (.int .i64 a.f5.f0) ∧ w.cell? ⟨g, 12, none⟩ = some (.int .i64 a.f5.f1) ∧ w.cell? ⟨g, 13, none⟩ = some (.int .i64 a.f5.f2) ∧ w.cell? ⟨g, 14, none⟩ = some (.int .i64 a.f5.f3) ∧ w.cell? ⟨g, 15, none⟩ = some av ∧ g < w.heap.size :=
  ⟨(blk_cell h 0).trans rfl, (blk_cell h 1).trans rfl, (blk_cell h 2).trans rfl, (blk_cell h 3).trans rfl, (blk_cell h 4).trans rfl, (blk_cell h 5).trans rfl, (blk_cell h 6).trans rfl, (blk_cell h 7).trans rfl, (blk_cell h 8).trans rfl, (blk_cell h 9).trans rfl, (blk_cell h 10).trans rfl, (blk_cell h 11).trans rfl, (blk_cell h 12).trans rfl, (blk_cell h 13).trans rfl, (blk_cell h 14).trans rfl, (blk_cell h 15).trans rfl, blk_lt h⟩
abbrev AV := S36 × Value
def flatA (ps : List AV) : List Value := ps.flatMap (fun p => accC p.1 p.2)
def flatE (es : List (AV × AV)) : List Value := es.flatMap (fun e => accC e.1.1 e.1.2 ++ accC e.2.1 e.2.2)
theorem flatA_len (ps : List AV) : (flatA ps).length = ps.length * 13 := by
  induction ps with
  | nil => rfl
  | cons p r ih =>
    unfold flatA at *
    rw [List.flatMap_cons, List.length_append, ih, accC_len, List.length_cons]
    omega
theorem flatE_len (es : List (AV × AV)) : (flatE es).length = es.length * 26 := by
  induction es with
  | nil => rfl
  | cons e r ih =>
    unfold flatE at *
    rw [List.flatMap_cons, List.length_append, ih, List.length_append, accC_len, accC_len, List.length_cons]
    omega
def z28v : AV := (z36, .slice none 0 0)
theorem flatA_get : ∀ {ps : List AV} {i : Nat}, i < ps.length → ∀ j, j < 13 → (flatA ps)[i * 13 + j]? = (accC (ps.getD i z28v).1 (ps.getD i z28v).2)[j]?
  | p :: r, 0, _, j, hj => by
    unfold flatA
    rw [List.flatMap_cons, List.getElem?_append_left (by rw [accC_len]; omega), Nat.zero_mul, Nat.zero_add]
    rfl
  | p :: r, i + 1, hi, j, hj => by
    have ih := flatA_get (ps := r) (i := i) (by simpa using hi) j hj
    unfold flatA at *
    rw [List.flatMap_cons, List.getElem?_append_right (by rw [accC_len]; omega), accC_len, show (i + 1) * 13 + j - 13 = i * 13 + j by omega, ih]
    rfl
theorem flatE_get : ∀ {es : List (AV × AV)} {i : Nat}, i < es.length → ∀ j, j < 13 → (flatE es)[i * 26 + j]? = (accC (es.getD i (z28v, z28v)).1.1 (es.getD i (z28v, z28v)).1.2)[j]? ∧ (flatE es)[i * 26 + 13 + j]? = (accC (es.getD i (z28v, z28v)).2.1 (es.getD i (z28v, z28v)).2.2)[j]?
  | e :: r, 0, _, j, hj => by
    unfold flatE
    rw [List.flatMap_cons]
    refine ⟨?_, ?_⟩
    · rw [List.getElem?_append_left (by rw [List.length_append, accC_len, accC_len]; omega), List.getElem?_append_left (by rw [accC_len]; omega), Nat.zero_mul, Nat.zero_add]
      rfl
    · rw [List.getElem?_append_left (by rw [List.length_append, accC_len, accC_len]; omega), List.getElem?_append_right (by rw [accC_len]; omega), accC_len, show 0 * 26 + 13 + j - 13 = j by omega]
      rfl
  | e :: r, i + 1, hi, j, hj => by
    obtain ⟨i1, i2⟩ := flatE_get (es := r) (i := i) (by simpa using hi) j hj
    unfold flatE at *
    rw [List.flatMap_cons]
    refine ⟨?_, ?_⟩
    · rw [List.getElem?_append_right (by rw [List.length_append, accC_len, accC_len]; omega), List.length_append, accC_len, accC_len, show (i + 1) * 26 + j - (13 + 13) = i * 26 + j by omega, i1]
      rfl
    · rw [List.getElem?_append_right (by rw [List.length_append, accC_len, accC_len]; omega), List.length_append, accC_len, accC_len, show (i + 1) * 26 + 13 + j - (13 + 13) = i * 26 + 13 + j by omega, i2]
      rfl
def hbs (bv : Value) (fr : List (AV × AV)) (bk : List AV) (av : Value) : List Nat := bv.ownBlock.toList ++ (fr.flatMap (fun e => e.1.2.ownBlock.toList ++ e.2.2.ownBlock.toList) ++ (bk.flatMap (fun p => p.2.ownBlock.toList) ++ av.ownBlock.toList))
structure QAt (w : World) (F : Nat → Prop) (g : Nat) (bs : List Int) (fr : List (AV × AV)) (bk : List AV) (al : S36) (bv fv kv av : Value) : Prop where
  blk : w.heap[g]? = some (qO bv fv kv al av)
  bo : Own w 0 bv bs
  fo : w.ownsRow 0 90 26 fv fr.length (flatE fr)
  ko : w.ownsRow 0 36 13 kv bk.length (flatA bk)
  fe : ∀ e ∈ fr, Own w 0 e.1.2 e.1.1.f6 ∧ Own w 0 e.2.2 e.2.1.f6
  ke : ∀ p ∈ bk, Own w 0 p.2 p.1.f6
  ao : Own w 0 av al.f6
  fg : F g
  ff : ∀ k, fv.ownBlock = some k → F k
  fk : ∀ k, kv.ownBlock = some k → F k
  fh : ∀ k ∈ hbs bv fr bk av, F k
  nd : (hbs bv fr bk av).Nodup
section
variable {w w1 : World} {F G S : Nat → Prop} {g : Nat} {bs : List Int} {fr : List (AV × AV)} {bk : List AV} {al : S36} {bv fv kv av : Value}
theorem mem_bv {k : Nat} (h : bv.ownBlock = some k) : k ∈ hbs bv fr bk av := by simp [hbs, h]
theorem mem_av {k : Nat} (h : av.ownBlock = some k) : k ∈ hbs bv fr bk av := by simp [hbs, h]
theorem mem_fr1 {e : AV × AV} {k : Nat} (he : e ∈ fr) (h : e.1.2.ownBlock = some k) : k ∈ hbs bv fr bk av := by
  unfold hbs
  refine List.mem_append_right _ (List.mem_append_left _ (List.mem_flatMap.2 ⟨e, he, ?_⟩))
  simp [h]
theorem mem_fr2 {e : AV × AV} {k : Nat} (he : e ∈ fr) (h : e.2.2.ownBlock = some k) : k ∈ hbs bv fr bk av := by
  unfold hbs
  refine List.mem_append_right _ (List.mem_append_left _ (List.mem_flatMap.2 ⟨e, he, ?_⟩))
  simp [h]
theorem mem_bk {p : AV} {k : Nat} (he : p ∈ bk) (h : p.2.ownBlock = some k) : k ∈ hbs bv fr bk av := by
  unfold hbs
  refine List.mem_append_right _ (List.mem_append_right _ (List.mem_append_left _ (List.mem_flatMap.2 ⟨p, he, ?_⟩)))
  simp [h]
theorem QAt.keep (h : QAt w F g bs fr bk al bv fv kv av) (hc : Chg S w w1) (hn : ∀ i, F i → ¬ S i) : QAt w1 F g bs fr bk al bv fv kv av :=
  ⟨hc.obj h.blk (hn _ h.fg), h.bo.keep hc (fun k hk => hn _ (h.fh k (mem_bv hk))), row_keep h.fo hc (fun k hk => hn _ (h.ff k hk)), row_keep h.ko hc (fun k hk => hn _ (h.fk k hk)),
    fun e he => ⟨(h.fe e he).1.keep hc (fun k hk => hn _ (h.fh k (mem_fr1 he hk))), (h.fe e he).2.keep hc (fun k hk => hn _ (h.fh k (mem_fr2 he hk)))⟩,
    fun p hp => (h.ke p hp).keep hc (fun k hk => hn _ (h.fh k (mem_bk hp hk))), h.ao.keep hc (fun k hk => hn _ (h.fh k (mem_av hk))), h.fg, h.ff, h.fk, h.fh, h.nd⟩
theorem QAt.below (h : QAt w F g bs fr bk al bv fv kv av) (hb : Below w.heap.size w w1) : QAt w1 F g bs fr bk al bv fv kv av := h.keep (S := fun _ => False) (Chg.of_below hb) (fun _ _ h => h)
theorem QAt.mono (h : QAt w F g bs fr bk al bv fv kv av) (hf : ∀ i, i < w.heap.size → F i → G i) : QAt w G g bs fr bk al bv fv kv av := by
  have hl : ∀ k ∈ hbs bv fr bk av, k < w.heap.size := fun k hk => by
    unfold hbs at hk
    rcases List.mem_append.1 hk with hk | hk
    · exact own_lt h.bo k (by simpa using hk)
    · rcases List.mem_append.1 hk with hk | hk
      · obtain ⟨e, he, hk⟩ := List.mem_flatMap.1 hk
        rcases List.mem_append.1 hk with hk | hk
        · exact own_lt (h.fe e he).1 k (by simpa using hk)
        · exact own_lt (h.fe e he).2 k (by simpa using hk)
      · rcases List.mem_append.1 hk with hk | hk
        · obtain ⟨p, hp, hk⟩ := List.mem_flatMap.1 hk
          exact own_lt (h.ke p hp) k (by simpa using hk)
        · exact own_lt h.ao k (by simpa using hk)
  exact ⟨h.blk, h.bo, h.fo, h.ko, h.fe, h.ke, h.ao, hf _ (blk_lt h.blk) h.fg, fun k hk => hf _ (own_lt h.fo k hk) (h.ff k hk), fun k hk => hf _ (own_lt h.ko k hk) (h.fk k hk), fun k hk => hf _ (hl k hk) (h.fh k hk), h.nd⟩
end
end Go.Proofs.Ytfgabafbcephaaa.My

namespace Go.Proofs.Ytfgabafbcephaaa.My
open Go.RowKit Pa Go.Proofs.YtfgabafbcephaaaW.PrintWords
set_option linter.unusedSimpArgs false

theorem row_form {w : World} {base n size : Nat} {e : TypeId} {v : Value} {cs : List Value} (h : w.ownsRow base e size v n cs) : ∃ A c, v = .slice A n c ∧ n ≤ c := by
  rcases h.2 with ⟨e1, h0⟩ | ⟨b, cap, cur, e1, hb, hcur, hn, _⟩
  · exact ⟨none, 0, by rw [e1, h0], by omega⟩
  · exact ⟨_, cap, e1, hn⟩
section
variable {w : World} {F : Nat → Prop} {g : Nat} {bs : List Int} {fr : List (AV × AV)} {bk : List AV} {al : S36} {bv fv kv av : Value}
set_option maxHeartbeats 4000000 in
set_option maxRecDepth 100000 in
theorem qlen_any (h : QAt w F g bs fr bk al bv fv kv av) (hN : fr.length + bk.length ≤ 1000000) :
    Calls Try.prog 24 #[.pointer (some ⟨g, 0, none⟩)] w fun e w' => e = .returned (.int .i64 ((fr.length + bk.length : Nat) : Int)) ∧ Below w.heap.size w w' := by
  obtain ⟨q0, q1, q2, q3, q4, q5, q6, q7, q8, q9, q10, q11, q12, q13, q14, q15, ql⟩ := qO_facts h.blk
  obtain ⟨Af, cf, rfl, _⟩ := row_form h.fo
  obtain ⟨Ak, ck, rfl, _⟩ := row_form h.ko
  clear h q0 q3 q4 q5 q6 q7 q8 q9 q10 q11 q12 q13 q14 q15
  generalize fr.length = n at *
  generalize bk.length = m at *
  go_enter Try.func24, Try.ntmps24
  go_wp2_with fail
  refine Txt.wp_region_text (by kernel_rfl) (by kernel_rfl) ?_
  repeat (first
    | (refine Txt.text_p (by rfl) rfl (fun K hK => ?_); go_big_quiet_op; refine hK _ ?_; clear hK K)
    | (refine Txt.text_r (by rfl) rfl (fun K hK => ?_); go_big_quiet_op; refine hK _ ?_; clear hK K)
    | (refine Txt.text_pass (by rfl) (by rfl) ?_; simp only [List.set_cons_succ, List.set_cons_zero]))
  refine Txt.text_nil ?_
  go_wp2_with fail
  go_ret
  exact ⟨by rw [show ((n + m : Nat) : Int) = (n : Int) + (m : Int) by omega]; rfl, (Below.refl _ _).drew⟩
theorem cell_below {w w1 : World} {p : Addr} {v : Value} (h : w.cell? p = some v) (hb : Below w.heap.size w w1) : w1.cell? p = some v := by
  have := hb.block p.block (block_lt_of_cell h)
  rw [← h]
  simp [World.cell?, this]
set_option maxHeartbeats 4000000 in
set_option maxRecDepth 100000 in
theorem qjoin_at (hq : w.cell? ⟨g, 0, none⟩ = some bv) (hbo : Own w 0 bv bs) (xs : List S36) (A : Option Addr) (c : Nat) (ha : RdA w A xs) (hl : xs.length ≤ 1000000) :
    Calls Try.prog 51 #[.pointer (some ⟨g, 0, none⟩), .slice A xs.length c] w fun e w' => ∃ v, e = .returned (acV (joinRes bs xs).1 v) ∧ Own w' w.heap.size v (joinRes bs xs).1.f6 ∧ Below w.heap.size w w' := by
  have hB : Below w.heap.size w (w.alloc (acO z36 (.slice none 0 0))) := (Below.refl w.heap.size w).alloc (Nat.le_refl _) _
  have hz : (w.alloc (acO z36 (.slice none 0 0))).heap[w.heap.size]? = some (acO z36 (.slice none 0 0)) := heap_alloc_new w _
  obtain ⟨B, d, rfl, hd, hr⟩ := hbo.reads
  have q0 := cell_below hq hB
  have ql := block_lt_of_cell q0
  have HR := Lib.hid hr
  have HD := Lib.hid hd
  have HA := Lib.hid ha
  have HX := Lib.hid hB
  have HZ := Lib.hid hz
  simp only [acO, z36, z34] at q0 ql
  clear hr hd ha hB hz hq hbo
  go_enter Try.func51, Try.ntmps51
  go_wp2_with fail
  clear q0 ql
  show Calls _ _ _ (w.alloc (acO z36 (.slice none 0 0))) _
  generalize w.alloc (acO z36 (.slice none 0 0)) = w1 at *
  refine (join_any bs xs B d A c w1 (RdI.below HR.out HX.out) HD.out (HA.out.below HX.out) (by omega)).mono ?_
  rintro e w2 ⟨v, rfl, how, hb⟩
  obtain ⟨o, ho⟩ : ∃ o, o = (joinRes bs xs).1 := ⟨_, rfl⟩
  obtain ⟨er, her⟩ : ∃ er, er = (joinRes bs xs).2 := ⟨_, rfl⟩
  rw [← ho] at how ⊢
  rw [← her]
  have HRES := Lib.hid ho
  clear ho her
  obtain ⟨A2, c2, rfl, hl2, hr2⟩ := how.reads
  have hal : Below w2.heap.size w2 (w2.alloc (acO o (.slice A2 o.f6.length c2))) := (Below.refl _ _).alloc (Nat.le_refl _) _
  have HO := Lib.hid (show Own _ w.heap.size _ _ from own_weaken (Own.below how hal) HX.out.size)
  have hbb := hb.trans (hal.mono hb.size)
  have hzz := blk_below HZ.out hbb
  have HZZ := Lib.hid hzz
  have HB2 := Lib.hid (HX.out.trans (hbb.mono HX.out.size))
  clear how hb hbb hl2 hr2 hal HZ HX
  simp only [acV]
  obtain ⟨z0, z1, z2, z3, z4, z5, z6, z7, z8, z9, z10, z11, z12, zl⟩ := acO_facts hzz
  have hf := fun j => blk_free hzz j
  clear hzz
  unfold acO at z0 z1 z2 z3 z4 z5 z6 z7 z8 z9 z10 z11 z12 zl hf
  go_wp2_with fail
  show bodyPost _ _ _ _ _ (putA (w2.alloc (acO o (.slice A2 o.f6.length c2))) w.heap.size o (.slice A2 o.f6.length c2))
  have hz2 := putA_blk (a := o) (v := .slice A2 o.f6.length c2) HZZ.out
  have hch := putA_chg (w2.alloc (acO o (.slice A2 o.f6.length c2))) w.heap.size o (.slice A2 o.f6.length c2)
  refine bodyPost_ret (results_ac1 rfl _ _ w.heap.size o (.slice A2 o.f6.length c2) rfl hz2) rfl ⟨.slice A2 o.f6.length c2, by rw [HRES.out], ?_, ?_⟩
  · rw [← HRES.out]
    exact HO.out.keep hch (fun k hk e => own_no HO.out HZZ.out (by rw [hk, e]))
  · exact Chg.base HB2.out hch HB2.out.size (fun i hi => by omega)
theorem qjoin_any (h : QAt w F g bs fr bk al bv fv kv av) (xs : List S36) (A : Option Addr) (c : Nat) (ha : RdA w A xs) (hl : xs.length ≤ 1000000) :
    Calls Try.prog 51 #[.pointer (some ⟨g, 0, none⟩), .slice A xs.length c] w fun e w' => ∃ v, e = .returned (acV (joinRes bs xs).1 v) ∧ Own w' w.heap.size v (joinRes bs xs).1.f6 ∧ Below w.heap.size w w' := qjoin_at (qO_facts h.blk).1 h.bo xs A c ha hl
def headA (bs : List Int) (fr : List (AV × AV)) : S36 := match fr.getLast? with | none => (joinRes bs []).1 | some e => e.2.1
set_option maxHeartbeats 4000000 in
set_option maxRecDepth 100000 in
theorem qhead_any (h : QAt w F g bs fr bk al bv fv kv av) (hN : fr.length ≤ 1000000) :
    Calls Try.prog 49 #[.pointer (some ⟨g, 0, none⟩)] w fun e w' => ∃ A c, e = .returned (acV (headA bs fr) (.slice A (headA bs fr).f6.length c)) ∧ (headA bs fr).f6.length ≤ c ∧ RdI w' A (headA bs fr).f6 ∧ Below w.heap.size w w' := by
  have hB : Below w.heap.size w (w.alloc (acO z36 (.slice none 0 0))) := (Below.refl w.heap.size w).alloc (Nat.le_refl _) _
  have hz : (w.alloc (acO z36 (.slice none 0 0))).heap[w.heap.size]? = some (acO z36 (.slice none 0 0)) := heap_alloc_new w _
  have HH := Lib.hid (h.below hB)
  have HX := Lib.hid hB
  have HZ := Lib.hid hz
  have hfo := HH.out.fo
  obtain ⟨Af, cf, hfv, hcf⟩ := row_form hfo
  subst hfv
  rcases List.eq_nil_or_concat fr with rfl | ⟨fr', e, rfl⟩
  · obtain ⟨-, q1, -, -, -, -, -, -, -, -, -, -, -, -, -, -, ql⟩ := qO_facts HH.out.blk
    simp only [acO, z36, z34] at q1 ql
    clear h hB hz
    go_enter Try.func49, Try.ntmps49
    go_wp2_with fail
    clear q1 ql
    show Calls _ _ _ (w.alloc (acO z36 (.slice none 0 0))) _
    generalize w.alloc (acO z36 (.slice none 0 0)) = w1 at *
    refine (qjoin_any HH.out [] none 0 (rdA_nil _ _) (by simp)).mono ?_
    rintro e w2 ⟨v, rfl, how, hb⟩
    obtain ⟨A2, c2, rfl, hl2, hr2⟩ := how.reads
    have hzz := blk_below HZ.out hb
    have HZZ := Lib.hid hzz
    have HB2 := Lib.hid (HX.out.trans (hb.mono HX.out.size))
    have HRD := Lib.hid (And.intro hl2 hr2)
    have HOW := Lib.hid how
    clear how hb hl2 hr2 HX HZ HH
    simp only [acV]
    obtain ⟨z0, z1, z2, z3, z4, z5, z6, z7, z8, z9, z10, z11, z12, zl⟩ := acO_facts hzz
    have hf := fun j => blk_free hzz j
    clear hzz
    go_wp2_with fail
    have e0 : headA bs [] = (joinRes bs []).1 := rfl
    rw [e0]
    generalize (joinRes bs []).1 = o at *
    show bodyPost _ _ _ _ _ (putA w2 w.heap.size o (.slice A2 o.f6.length c2))
    have hz2 := putA_blk (a := o) (v := .slice A2 o.f6.length c2) HZZ.out
    have hch := putA_chg w2 w.heap.size o (.slice A2 o.f6.length c2)
    have how2 := HOW.out.keep hch (fun k hk e => own_no HOW.out HZZ.out (by rw [hk, e]))
    obtain ⟨A3, c3, e3, hl3, hr3⟩ := Own.reads how2
    injection e3 with e3 _ e4
    subst e3 e4
    exact bodyPost_ret (results_ac1 rfl _ _ w.heap.size o (.slice A2 o.f6.length c2) rfl hz2) rfl ⟨A2, c2, rfl, hl3, hr3, Chg.base HB2.out hch HB2.out.size (fun i hi => by omega)⟩
  · have hln : (fr'.concat e).length = fr'.length + 1 := by simp
    have hge : (fr'.concat e).getD fr'.length (z28v, z28v) = e := by simp [List.getD_eq_getElem?_getD]
    have hel := HH.out.fe e (by simp)
    have e0 : headA bs (fr'.concat e) = e.2.1 := by unfold headA; simp
    rcases hfo.2 with ⟨_, h0⟩ | ⟨b, cap, cur, hv, hb', hcur, _⟩
    · omega
    injection hv with hv1 _ hv3
    subst hv1 hv3
    have hcell : ∀ j, j < 13 → ∀ x, (accC e.2.1 e.2.2)[j]? = some x → (w.alloc (acO z36 (.slice none 0 0))).cell? ⟨b, fr'.length * 26 + 13 + j, none⟩ = some x := fun j hj x hx => by
      have h2 := (flatE_get (es := fr'.concat e) (i := fr'.length) (by omega) j hj).2
      rw [hge] at h2
      have h3 := hfo.cells (g := b) rfl (fr'.length * 26 + 13 + j) x (h2.trans hx)
      rwa [add_plain] at h3
    obtain ⟨A2, c2, hu, hl2, hr2⟩ := hel.2.reads
    rw [hu] at hcell
    have e1 := hcell 0 (by omega) _ rfl
    have e2 := hcell 1 (by omega) _ rfl
    have e3 := hcell 2 (by omega) _ rfl
    have e4 := hcell 3 (by omega) _ rfl
    have e5 := hcell 4 (by omega) _ rfl
    have e6 := hcell 5 (by omega) _ rfl
    have e7 := hcell 6 (by omega) _ rfl
    have e8 := hcell 7 (by omega) _ rfl
    have e9 := hcell 8 (by omega) _ rfl
    have e10 := hcell 9 (by omega) _ rfl
    have e11 := hcell 10 (by omega) _ rfl
    have e12 := hcell 11 (by omega) _ rfl
    have e13 := hcell 12 (by omega) _ rfl
    obtain ⟨-, q1, -, -, -, -, -, -, -, -, -, -, -, -, -, -, ql⟩ := qO_facts HH.out.blk
    rw [hln] at q1 hN
    rw [e0]
    have HRD := Lib.hid (And.intro hl2 hr2)
    have HOW := Lib.hid hel.2
    have HU := Lib.hid hu
    have hk1 : wrap64 (((fr'.length + 1 : Nat) : Int) - 1) = (fr'.length : Int) := by unfold wrap64; omega
    generalize fr'.length = n at *
    have q1' := q1
    have ql' := ql
    clear h hB hz hge hel hfo hcell hl2 hr2 hu hln e0 hb' hcur HH hcf
    simp only [acO, z36, z34] at q1' ql'
    go_enter Try.func49, Try.ntmps49
    go_wp2_with fail
    clear q1' ql'
    change Code.wp _ _ _ _ (w.alloc (acO z36 (.slice none 0 0)))
    obtain ⟨z0, z1, z2, z3, z4, z5, z6, z7, z8, z9, z10, z11, z12, zl⟩ := acO_facts HZ.out
    have hf := fun j => blk_free HZ.out j
    generalize hw1 : w.alloc (acO z36 (.slice none 0 0)) = w1 at *
    clear hw1
    refine Txt.wp_region_mix (by kernel_rfl) (by kernel_rfl) (fun HB => ?_)
    repeat (first
      | (refine Txt.mix_p (by rfl) rfl rfl (fun K hK => ?_); go_big_quiet_op; refine hK _ ?_; clear hK K)
      | (refine Txt.mix_re (by rfl) (by decide +kernel) (by rfl) (by rfl) (by go_simp) HB (fun K hK => ?_); go_big_quiet_op; refine hK _ ?_; clear hK K)
      | (refine Txt.mix_rl (by rfl) (by decide +kernel) (by rfl) (by rfl) (by go_simp) HB (fun K hK => ?_); go_big_quiet_op; refine hK _ ?_; clear hK K)
      | (refine Txt.mix_pass (by rfl) (by rfl) ?_; simp only [List.set_cons_succ, List.set_cons_zero]))
    refine Txt.mix_a (by rfl) (by decide +kernel) (fun K hK => ?_)
    clear HB
    go_wp2_with fail
    clear e1 e2 e3 e4 e5 e6 e7 e8 e9 e10 e11 e12 e13 z0 z1 z2 z3 z4 z5 z6 z7 z8 z9 z10 z11 z12 zl hf
    show Txt.wpMix _ _ _ _ _ _ _ (World.drew (putA w1 w.heap.size e.2.1 (.slice A2 e.2.1.f6.length c2)))
    have hz2 := blk_drew1 (putA_blk (a := e.2.1) (v := .slice A2 e.2.1.f6.length c2) HZ.out)
    have hch := (putA_chg w1 w.heap.size e.2.1 (.slice A2 e.2.1.f6.length c2)).drew
    have how2 := HOW.out.keep hch (fun k hk e => own_no HOW.out HZ.out (by rw [hk, e]))
    have hb2 := Chg.base HX.out hch HX.out.size (fun i hi => by omega)
    rw [HU.out] at how2
    obtain ⟨A3, c3, e3, hl3, hr3⟩ := Own.reads how2
    injection e3 with e3 _ e4
    subst e3 e4
    have HZ2 := Lib.hid hz2
    have HR3 := Lib.hid (And.intro hl3 (And.intro hr3 hb2))
    clear hz2 hch how2 hb2 hl3 hr3
    generalize World.drew (putA w1 w.heap.size e.2.1 (.slice A2 e.2.1.f6.length c2)) = w2 at *
    refine Txt.mix_nil ?_
    go_wp2_with fail
    exact bodyPost_ret (results_ac1 rfl _ _ w.heap.size e.2.1 (.slice A2 e.2.1.f6.length c2) rfl HZ2.out) rfl ⟨A2, c2, rfl, HR3.out.1, HR3.out.2.1, HR3.out.2.2⟩
set_option maxHeartbeats 4000000 in
set_option maxRecDepth 100000 in
theorem qtotal_any (h : QAt w F g bs fr bk al bv fv kv av) (hN : fr.length ≤ 1000000) :
    Calls Try.prog 22 #[.pointer (some ⟨g, 0, none⟩)] w fun e w' => ∃ v, e = .returned (acV (joinRes bs [headA bs fr, al]).1 v) ∧ Own w' w.heap.size v (joinRes bs [headA bs fr, al]).1.f6 ∧ Below w.heap.size w w' := by
  have hB : Below w.heap.size w (w.alloc (acO z36 (.slice none 0 0))) := (Below.refl w.heap.size w).alloc (Nat.le_refl _) _
  have hz : (w.alloc (acO z36 (.slice none 0 0))).heap[w.heap.size]? = some (acO z36 (.slice none 0 0)) := heap_alloc_new w _
  have HH := Lib.hid (h.below hB)
  have HX := Lib.hid hB
  have HZ := Lib.hid hz
  obtain ⟨Av, cv, rfl, hlv, hrv⟩ := HH.out.ao.reads
  have HV := Lib.hid (And.intro hlv hrv)
  clear h hB hz hlv hrv
  go_enter Try.func22, Try.ntmps22
  go_wp2_with fail
  change Code.wp _ _ _ _ (w.alloc (acO z36 (.slice none 0 0)))
  obtain ⟨-, -, -, q3, q4, q5, q6, q7, q8, q9, q10, q11, q12, q13, q14, q15, ql⟩ := qO_facts HH.out.blk
  generalize hw1 : w.alloc (acO z36 (.slice none 0 0)) = w1 at *
  clear hw1
  refine Txt.wp_region_mix (by kernel_rfl) (by kernel_rfl) (fun HB => ?_)
  repeat (first
    | (refine Txt.mix_p (by rfl) rfl rfl (fun K hK => ?_); go_big_quiet_op; refine hK _ ?_; clear hK K)
    | (refine Txt.mix_re (by rfl) (by decide +kernel) (by rfl) (by rfl) (by go_simp) HB (fun K hK => ?_); go_big_quiet_op; refine hK _ ?_; clear hK K)
    | (refine Txt.mix_rl (by rfl) (by decide +kernel) (by rfl) (by rfl) (by go_simp) HB (fun K hK => ?_); go_big_quiet_op; refine hK _ ?_; clear hK K)
    | (refine Txt.mix_pass (by rfl) (by rfl) ?_; simp only [List.set_cons_succ, List.set_cons_zero]))
  refine Txt.mix_c (by rfl) (by decide +kernel) HB ?_
  intro w2 hw2 K hK
  replace HB := HB.trans hw2
  clear hw2
  go_wp2_with fail
  refine (qhead_any (HH.out.below HB.undrew) hN).mono ?_
  rintro e w3 ⟨A1, c1, rfl, hl1, hr1, hb⟩
  refine hK _ _ ⟨hb, ?_⟩
  replace HB := HB.trans hb
  obtain ⟨hd, hhd⟩ : ∃ hd, hd = headA bs fr := ⟨_, rfl⟩
  rw [← hhd] at hl1 hr1 ⊢
  have HHD := Lib.hid hhd
  have HR1 := Lib.hid (And.intro hl1 hr1)
  clear hK K hb hl1 hr1 hhd
  simp only [acV]
  repeat (first
    | (refine Txt.mix_p (by rfl) rfl rfl (fun K hK => ?_); go_big_quiet_op; refine hK _ ?_; clear hK K)
    | (refine Txt.mix_re (by rfl) (by decide +kernel) (by rfl) (by rfl) (by go_simp) HB (fun K hK => ?_); go_big_quiet_op; refine hK _ ?_; clear hK K)
    | (refine Txt.mix_rl (by rfl) (by decide +kernel) (by rfl) (by rfl) (by go_simp) HB (fun K hK => ?_); go_big_quiet_op; refine hK _ ?_; clear hK K)
    | (refine Txt.mix_pass (by rfl) (by rfl) ?_; simp only [List.set_cons_succ, List.set_cons_zero]))
  refine Txt.mix_m (fun g => .slice (some ⟨g, 0, none⟩) 2 2) (.cells #[.int .i64 hd.f0, .int .i64 hd.f1, .int .i64 hd.f2, .int .i64 hd.f3, .int .i64 hd.f4.f0, .int .i64 hd.f4.f1, .int .i64 hd.f4.f2, .int .i64 hd.f4.f3, .int .i64 hd.f5.f0, .int .i64 hd.f5.f1, .int .i64 hd.f5.f2, .int .i64 hd.f5.f3, .slice A1 hd.f6.length c1, .int .i64 al.f0, .int .i64 al.f1, .int .i64 al.f2, .int .i64 al.f3, .int .i64 al.f4.f0, .int .i64 al.f4.f1, .int .i64 al.f4.f2, .int .i64 al.f4.f3, .int .i64 al.f5.f0, .int .i64 al.f5.f1, .int .i64 al.f5.f2, .int .i64 al.f5.f3, .slice Av al.f6.length cv] 36) (by rfl) (by decide +kernel) (fun w1 => by go_simp) HB ?_
  intro pb w4 hb2 hg2 ho2
  have hrd2 : RdA w4 (some ⟨pb, 0, none⟩) [hd, al] := rdA_two (x := hd) (y := al) ho2 HR1.out.1 (RdI.below HR1.out.2 hb2) HV.out.1 (RdI.below HV.out.2 (HB.trans hb2).undrew)
  replace HB := HB.trans hb2
  have HRD2 := Lib.hid hrd2
  clear hrd2 hb2 hg2 ho2
  simp only [Act.put, List.setIfInBounds_toArray, List.set_cons_succ, List.set_cons_zero]
  repeat (first
    | (refine Txt.mix_p (by rfl) rfl rfl (fun K hK => ?_); go_big_quiet_op; refine hK _ ?_; clear hK K)
    | (refine Txt.mix_re (by rfl) (by decide +kernel) (by rfl) (by rfl) (by go_simp) HB (fun K hK => ?_); go_big_quiet_op; refine hK _ ?_; clear hK K)
    | (refine Txt.mix_rl (by rfl) (by decide +kernel) (by rfl) (by rfl) (by go_simp) HB (fun K hK => ?_); go_big_quiet_op; refine hK _ ?_; clear hK K)
    | (refine Txt.mix_pass (by rfl) (by rfl) ?_; simp only [List.set_cons_succ, List.set_cons_zero]))
  refine Txt.mix_c (by rfl) (by decide +kernel) HB ?_
  intro w5 hw5 K hK
  replace HRD2 := Lib.hid (HRD2.out.below hw5)
  replace HB := HB.trans hw5
  clear hw5
  go_wp2_with fail
  have hp := qjoin_any (HH.out.below HB.undrew) [hd, al] (some ⟨pb, 0, none⟩) 2 HRD2.out (by simp)
  rw [HHD.out] at hp
  refine hp.mono ?_
  clear hp
  rintro e w6 ⟨v, rfl, how, hb⟩
  refine hK _ _ ⟨hb, ?_⟩
  obtain ⟨o, ho⟩ : ∃ o, o = (joinRes bs [headA bs fr, al]).1 := ⟨_, rfl⟩
  rw [← ho] at how ⊢
  have HRES := Lib.hid ho
  obtain ⟨A2, c2, rfl, hl2, hr2⟩ := how.reads
  have how2 : Own w6 w.heap.size (.slice A2 o.f6.length c2) o.f6 := own_weaken how (Nat.le_trans HX.out.size HB.undrew.size)
  replace HB := HB.trans hb
  have hzz := blk_below HZ.out HB.undrew
  have HOW := Lib.hid how2
  have HZZ := Lib.hid hzz
  have HB6 := Lib.hid (HX.out.trans (HB.undrew.mono HX.out.size))
  clear hK K hb how how2 ho hl2 hr2 q3 q4 q5 q6 q7 q8 q9 q10 q11 q12 q13 q14 q15 ql
  simp only [acV]
  obtain ⟨z0, z1, z2, z3, z4, z5, z6, z7, z8, z9, z10, z11, z12, zl⟩ := acO_facts hzz
  have hf := fun j => blk_free hzz j
  clear hzz
  repeat (first
    | (refine Txt.mix_p (by rfl) rfl rfl (fun K hK => ?_); go_big_quiet_op; refine hK _ ?_; clear hK K)
    | (refine Txt.mix_re (by rfl) (by decide +kernel) (by rfl) (by rfl) (by go_simp) HB (fun K hK => ?_); go_big_quiet_op; refine hK _ ?_; clear hK K)
    | (refine Txt.mix_rl (by rfl) (by decide +kernel) (by rfl) (by rfl) (by go_simp) HB (fun K hK => ?_); go_big_quiet_op; refine hK _ ?_; clear hK K)
    | (refine Txt.mix_pass (by rfl) (by rfl) ?_; simp only [List.set_cons_succ, List.set_cons_zero]))
  refine Txt.mix_a (by rfl) (by decide +kernel) (fun K hK => ?_)
  clear HB
  go_wp2_with fail
  clear z0 z1 z2 z3 z4 z5 z6 z7 z8 z9 z10 z11 z12 zl hf
  show Txt.wpMix _ _ _ _ _ _ _ (putA w6 w.heap.size o (.slice A2 o.f6.length c2))
  have hz2 := putA_blk (a := o) (v := .slice A2 o.f6.length c2) HZZ.out
  have hch := putA_chg w6 w.heap.size o (.slice A2 o.f6.length c2)
  have how2 := HOW.out.keep hch (fun k hk e => own_no HOW.out HZZ.out (by rw [hk, e]))
  have hb2 := Chg.base HB6.out hch HB6.out.size (fun i hi => by omega)
  have HZ2 := Lib.hid hz2
  have HR3 := Lib.hid (And.intro how2 hb2)
  clear hz2 hch how2 hb2
  generalize putA w6 w.heap.size o (.slice A2 o.f6.length c2) = w7 at *
  refine Txt.mix_nil ?_
  go_wp2_with fail
  exact bodyPost_ret (results_ac1 rfl _ _ w.heap.size o (.slice A2 o.f6.length c2) rfl HZ2.out) rfl ⟨.slice A2 o.f6.length c2, by rw [HRES.out], by rw [← HRES.out]; exact HR3.out.1, HR3.out.2⟩
end
end Go.Proofs.Ytfgabafbcephaaa.My

namespace Go.Proofs.Ytfgabafbcephaaa.My
open Go.RowKit Pa Go.Proofs.YtfgabafbcephaaaW.PrintWords
set_option linter.unusedSimpArgs false

theorem rdA_three {w : World} {b : Nat} {x y z : S36} {A B C : Option Addr} {c d e : Nat} {fr : Nat × Nat} (h : w.heap[b]? = some (.cells #[.int .i64 x.f0, .int .i64 x.f1, .int .i64 x.f2, .int .i64 x.f3, .int .i64 x.f4.f0, .int .i64 x.f4.f1, .int .i64 x.f4.f2, .int .i64 x.f4.f3, .int .i64 x.f5.f0, .int .i64 x.f5.f1, .int .i64 x.f5.f2, .int .i64 x.f5.f3, .slice A x.f6.length c, .int .i64 y.f0, .int .i64 y.f1, .int .i64 y.f2, .int .i64 y.f3, .int .i64 y.f4.f0, .int .i64 y.f4.f1, .int .i64 y.f4.f2, .int .i64 y.f4.f3, .int .i64 y.f5.f0, .int .i64 y.f5.f1, .int .i64 y.f5.f2, .int .i64 y.f5.f3, .slice B y.f6.length d, .int .i64 z.f0, .int .i64 z.f1, .int .i64 z.f2, .int .i64 z.f3, .int .i64 z.f4.f0, .int .i64 z.f4.f1, .int .i64 z.f4.f2, .int .i64 z.f4.f3, .int .i64 z.f5.f0, .int .i64 z.f5.f1, .int .i64 z.f5.f2, .int .i64 z.f5.f3, .slice C z.f6.length e] 36 fr)) (hl : x.f6.length ≤ c) (hr : RdI w A x.f6) (hl2 : y.f6.length ≤ d) (hr2 : RdI w B y.f6) (hl3 : z.f6.length ≤ e) (hr3 : RdI w C z.f6) : RdA w (some ⟨b, 0, none⟩) [x, y, z] := fun _ => by
  refine ⟨b, 0, rfl, blk_lt h, fun i hi => ?_⟩
  rcases (by simp at hi; omega : i = 0 ∨ i = 1 ∨ i = 2) with rfl | rfl | rfl
  · exact ⟨A, c, (blk_cell h 0).trans rfl, (blk_cell h 1).trans rfl, (blk_cell h 2).trans rfl, (blk_cell h 3).trans rfl, (blk_cell h 4).trans rfl, (blk_cell h 5).trans rfl, (blk_cell h 6).trans rfl, (blk_cell h 7).trans rfl, (blk_cell h 8).trans rfl, (blk_cell h 9).trans rfl, (blk_cell h 10).trans rfl, (blk_cell h 11).trans rfl, (blk_cell h 12).trans rfl, hl, hr⟩
  · exact ⟨B, d, (blk_cell h 13).trans rfl, (blk_cell h 14).trans rfl, (blk_cell h 15).trans rfl, (blk_cell h 16).trans rfl, (blk_cell h 17).trans rfl, (blk_cell h 18).trans rfl, (blk_cell h 19).trans rfl, (blk_cell h 20).trans rfl, (blk_cell h 21).trans rfl, (blk_cell h 22).trans rfl, (blk_cell h 23).trans rfl, (blk_cell h 24).trans rfl, (blk_cell h 25).trans rfl, hl2, hr2⟩
  · exact ⟨C, e, (blk_cell h 26).trans rfl, (blk_cell h 27).trans rfl, (blk_cell h 28).trans rfl, (blk_cell h 29).trans rfl, (blk_cell h 30).trans rfl, (blk_cell h 31).trans rfl, (blk_cell h 32).trans rfl, (blk_cell h 33).trans rfl, (blk_cell h 34).trans rfl, (blk_cell h 35).trans rfl, (blk_cell h 36).trans rfl, (blk_cell h 37).trans rfl, (blk_cell h 38).trans rfl, hl3, hr3⟩
def Gr (F : Nat → Prop) (w w' : World) : Nat → Prop := fun i => F i ∨ (w.heap.size ≤ i ∧ i < w'.heap.size)
theorem row_noq {w : World} {base size n g : Nat} {e : TypeId} {v : Value} {cs : List Value} {q : Array Value} {T : TypeId} (ho : w.ownsRow base e size v n cs) (hg : w.heap[g]? = some (.cells q T (0, 0))) (hne : e ≠ T) : ¬ some g = v.ownBlock := fun h => by
  obtain ⟨cells, hc⟩ := own_typed ho g h.symm
  rw [hc] at hg
  injection hg with hg
  injection hg with _ hg
  exact hne hg
section
variable {w : World} {F : Nat → Prop} {g : Nat} {bs : List Int} {fr : List (AV × AV)} {bk : List AV} {al : S36} {bv fv kv av : Value}
structure QSt (w : World) (g : Nat) (bs : List Int) (fr : List (AV × AV)) (bk : List AV) (al : S36) (bv fv kv av : Value) : Prop where
  blk : w.heap[g]? = some (qO bv fv kv al av)
  bo : Own w 0 bv bs
  fo : w.ownsRow 0 90 26 fv fr.length (flatE fr)
  fe : ∀ e ∈ fr, Own w 0 e.1.2 e.1.1.f6 ∧ Own w 0 e.2.2 e.2.1.f6
  ke : ∀ p ∈ bk, Own w 0 p.2 p.1.f6
  ao : Own w 0 av al.f6
theorem QAt.st (h : QAt w F g bs fr bk al bv fv kv av) : QSt w g bs fr bk al bv fv kv av := ⟨h.blk, h.bo, h.fo, h.fe, h.ke, h.ao⟩
theorem QSt.below {w1 : World} (h : QSt w g bs fr bk al bv fv kv av) (hb : Below w.heap.size w w1) : QSt w1 g bs fr bk al bv fv kv av :=
  ⟨blk_below h.blk hb, h.bo.below hb, row_keep (S := fun _ => False) h.fo (Chg.of_below hb) (fun _ _ h => h), fun e he => ⟨(h.fe e he).1.below hb, (h.fe e he).2.below hb⟩, fun p hp => (h.ke p hp).below hb, h.ao.below hb⟩
theorem QSt.grown {w1 : World} {v : Value} {n : Nat} {cs : List Value} (h : QSt w g bs fr bk al bv fv kv av) (hr : w.ownsRow 0 36 13 v n cs) (hg : w.grownBy w1 v.ownBlock) : QSt w1 g bs fr bk al bv fv kv av := by
  have hc : Chg (fun k => some k = v.ownBlock) w w1 := (Chg.refl _ w).grown hg (fun k hk => .inl hk.symm)
  refine ⟨hc.obj h.blk (row_noq hr h.blk (by decide)), h.bo.grown hr hg, ?_, fun e he => ⟨(h.fe e he).1.grown hr hg, (h.fe e he).2.grown hr hg⟩, fun p hp => (h.ke p hp).grown hr hg, h.ao.grown hr hg⟩
  refine row_keep h.fo hc (fun k hk e => ?_)
  rcases own_type_ne h.fo hr (by decide) with hn | hn
  · rw [hn] at hk; cases hk
  · exact hn (hk.trans e)
def putQ (w : World) (g : Nat) (v : Value) (a : S36) (u : Value) : World := (((((((((((((w.setCell ⟨g, 2, none⟩ v).setCell ⟨g, 3, none⟩ (.int .i64 a.f0)).setCell ⟨g, 4, none⟩ (.int .i64 a.f1)).setCell ⟨g, 5, none⟩ (.int .i64 a.f2)).setCell ⟨g, 6, none⟩ (.int .i64 a.f3)).setCell ⟨g, 7, none⟩ (.int .i64 a.f4.f0)).setCell ⟨g, 8, none⟩ (.int .i64 a.f4.f1)).setCell ⟨g, 9, none⟩ (.int .i64 a.f4.f2)).setCell ⟨g, 10, none⟩ (.int .i64 a.f4.f3)).setCell ⟨g, 11, none⟩ (.int .i64 a.f5.f0)).setCell ⟨g, 12, none⟩ (.int .i64 a.f5.f1)).setCell ⟨g, 13, none⟩ (.int .i64 a.f5.f2)).setCell ⟨g, 14, none⟩ (.int .i64 a.f5.f3)).setCell ⟨g, 15, none⟩ u
theorem putQ_blk {v u : Value} {a : S36} (h : w.heap[g]? = some (qO bv fv kv al av)) : (putQ w g v a u).heap[g]? = some (qO bv fv v a u) := by
  have := blk_set (blk_set (blk_set (blk_set (blk_set (blk_set (blk_set (blk_set (blk_set (blk_set (blk_set (blk_set (blk_set (blk_set h 2 v) 3 (.int .i64 a.f0)) 4 (.int .i64 a.f1)) 5 (.int .i64 a.f2)) 6 (.int .i64 a.f3)) 7 (.int .i64 a.f4.f0)) 8 (.int .i64 a.f4.f1)) 9 (.int .i64 a.f4.f2)) 10 (.int .i64 a.f4.f3)) 11 (.int .i64 a.f5.f0)) 12 (.int .i64 a.f5.f1)) 13 (.int .i64 a.f5.f2)) 14 (.int .i64 a.f5.f3)) 15 u
  simp only [List.setIfInBounds_toArray, List.set_cons_zero, List.set_cons_succ] at this
  exact this
theorem putQ_chg (w : World) (g : Nat) (v : Value) (a : S36) (u : Value) : Chg (fun k => k = g) w (putQ w g v a u) :=
  ((((((((((((((Chg.refl (fun k => k = g) w).setCell (p := ⟨g, 2, none⟩) (.inl rfl) _).setCell (p := ⟨g, 3, none⟩) (.inl rfl) _).setCell (p := ⟨g, 4, none⟩) (.inl rfl) _).setCell (p := ⟨g, 5, none⟩) (.inl rfl) _).setCell (p := ⟨g, 6, none⟩) (.inl rfl) _).setCell (p := ⟨g, 7, none⟩) (.inl rfl) _).setCell (p := ⟨g, 8, none⟩) (.inl rfl) _).setCell (p := ⟨g, 9, none⟩) (.inl rfl) _).setCell (p := ⟨g, 10, none⟩) (.inl rfl) _).setCell (p := ⟨g, 11, none⟩) (.inl rfl) _).setCell (p := ⟨g, 12, none⟩) (.inl rfl) _).setCell (p := ⟨g, 13, none⟩) (.inl rfl) _).setCell (p := ⟨g, 14, none⟩) (.inl rfl) _).setCell (p := ⟨g, 15, none⟩) (.inl rfl) _
theorem flatA_snoc (bk : List AV) (p : AV) : flatA (bk ++ [p]) = flatA bk ++ accC p.1 p.2 := by
  unfold flatA
  rw [List.flatMap_append]
  simp
theorem QSt.fin {G : Nat → Prop} {a o : S36} {va v1 av' : Value} (h : QSt w g bs fr bk al bv fv kv av) (hk : w.ownsRow 0 36 13 v1 (bk.length + 1) (flatA bk ++ accC a va)) (hva : Own w 0 va a.f6) (hav : Own w 0 av' o.f6)
    (fg : G g) (ff : ∀ k, fv.ownBlock = some k → G k) (fk : ∀ k, v1.ownBlock = some k → G k) (fh : ∀ k ∈ hbs bv fr (bk ++ [(a, va)]) av', G k) (nd : (hbs bv fr (bk ++ [(a, va)]) av').Nodup) : QAt (putQ w g v1 o av') G g bs fr (bk ++ [(a, va)]) o bv fv v1 av' := by
  have hc := putQ_chg w g v1 o av'
  have ho : ∀ {v : Value} {l : List Int}, Own w 0 v l → Own (putQ w g v1 o av') 0 v l := fun hv => hv.keep hc (fun k hk e => row_noq hv h.blk (by decide) (by rw [hk, e]))
  refine ⟨putQ_blk h.blk, ho h.bo, row_keep h.fo hc (fun k hk e => row_noq h.fo h.blk (by decide) (by rw [hk, e])), ?_, fun e he => ⟨ho (h.fe e he).1, ho (h.fe e he).2⟩, fun p hp => ?_, ho hav, fg, ff, fk, fh, nd⟩
  · rw [List.length_append, flatA_snoc]
    exact row_keep hk hc (fun k hk' e => row_noq hk h.blk (by decide) (by rw [hk', e]))
  · rcases List.mem_append.1 hp with hp | hp
    · exact ho (h.ke p hp)
    · rw [List.mem_singleton.1 hp]
      exact ho hva
theorem hbs_snoc (bv : Value) (fr : List (AV × AV)) (bk : List AV) (p : AV) (u : Value) : hbs bv fr (bk ++ [p]) u = (bv.ownBlock.toList ++ (fr.flatMap (fun e => e.1.2.ownBlock.toList ++ e.2.2.ownBlock.toList) ++ bk.flatMap (fun p => p.2.ownBlock.toList))) ++ (p.2.ownBlock.toList ++ u.ownBlock.toList) := by
  unfold hbs
  rw [List.flatMap_append]
  simp [List.append_assoc]
theorem hbs_cut (bv : Value) (fr : List (AV × AV)) (bk : List AV) (u : Value) : hbs bv fr bk u = (bv.ownBlock.toList ++ (fr.flatMap (fun e => e.1.2.ownBlock.toList ++ e.2.2.ownBlock.toList) ++ bk.flatMap (fun p => p.2.ownBlock.toList))) ++ u.ownBlock.toList := by
  unfold hbs
  simp [List.append_assoc]
theorem QAt.lt (h : QAt w F g bs fr bk al bv fv kv av) : ∀ k ∈ hbs bv fr bk av, k < w.heap.size := fun k hk => by
  unfold hbs at hk
  rcases List.mem_append.1 hk with hk | hk
  · exact own_lt h.bo k (by simpa using hk)
  · rcases List.mem_append.1 hk with hk | hk
    · obtain ⟨e, he, hk⟩ := List.mem_flatMap.1 hk
      rcases List.mem_append.1 hk with hk | hk
      · exact own_lt (h.fe e he).1 k (by simpa using hk)
      · exact own_lt (h.fe e he).2 k (by simpa using hk)
    · rcases List.mem_append.1 hk with hk | hk
      · obtain ⟨p, hp, hk⟩ := List.mem_flatMap.1 hk
        exact own_lt (h.ke p hp) k (by simpa using hk)
      · exact own_lt h.ao k (by simpa using hk)
theorem nd_new {L M : List Nat} {n : Nat} (h : L.Nodup) (hM : M.Nodup) (hd : ∀ k ∈ L, k < n) (hm : ∀ k ∈ M, n ≤ k) : (L ++ M).Nodup :=
  List.nodup_append.2 ⟨h, hM, fun a ha b hb e => by have := hd a ha; have := hm b hb; omega⟩
theorem nd_two (v u : Value) {m : Nat} (h1 : ∀ k, v.ownBlock = some k → k < m) (h2 : ∀ k, u.ownBlock = some k → m ≤ k) : (v.ownBlock.toList ++ u.ownBlock.toList).Nodup := by
  refine nd_new (n := m) ?_ ?_ (fun k hk => h1 k (by simpa using hk)) (fun k hk => h2 k (by simpa using hk))
  · cases v.ownBlock <;> simp
  · cases u.ownBlock <;> simp
def pushErr (bs : List Int) (fr : List (AV × AV)) (al a : S36) : Int := (joinRes bs [headA bs fr, al, a]).2
set_option maxHeartbeats 16000000 in
set_option maxRecDepth 100000 in
theorem qpush_any (h : QAt w F g bs fr bk al bv fv kv av) (hN : fr.length ≤ 1000000) (hM : bk.length ≤ 1000000) (a : S36) (A : Option Addr) (c : Nat) (ha : Own w 0 (.slice A a.f6.length c) a.f6) (hlen : pushErr bs fr al a = 0 → a.f6.length ≤ 9) :
    Calls Try.prog 20 #[.pointer (some ⟨g, 0, none⟩), acV a (.slice A a.f6.length c)] w fun e w' =>
      (pushErr bs fr al a ≠ 0 ∧ e = .returned (.int .i64 1700) ∧ Below w.heap.size w w') ∨
      (pushErr bs fr al a = 0 ∧ e = .returned (.int .i64 0) ∧ ∃ va kv' av', QAt w' (Gr F w w') g bs fr (bk ++ [(a, va)]) (joinRes bs [al, a]).1 bv fv kv' av' ∧ Chg F w w') := by
  have hB : Below w.heap.size w (w.alloc (acO a (.slice A a.f6.length c))) := (Below.refl w.heap.size w).alloc (Nat.le_refl _) _
  have hz := heap_alloc_new w (acO a (.slice A a.f6.length c))
  have H0 := Lib.hid h
  have HH := Lib.hid (h.below hB)
  have HX := Lib.hid hB
  have HP := Lib.hid hz
  have HA := Lib.hid (Own.below ha hB)
  have HLEN := Lib.hid hlen
  obtain ⟨Av, cv, rfl, hlv, hrv⟩ := HH.out.ao.reads
  obtain ⟨Bv, dv, rfl, hlb, hrb⟩ := HH.out.bo.reads
  have HV := Lib.hid (And.intro hlv hrv)
  have HBV := Lib.hid (And.intro hlb hrb)
  have HNN := Lib.hid (And.intro hN hM)
  clear h hB hz hlv hrv hlb hrb ha hlen hN hM
  unfold acV
  go_enter Try.func20, Try.ntmps20
  go_wp2_with fail
  change Code.wp _ _ _ _ (w.alloc (acO a (.slice A a.f6.length c)))
  obtain ⟨q0, q1, q2, q3, q4, q5, q6, q7, q8, q9, q10, q11, q12, q13, q14, q15, ql⟩ := qO_facts HH.out.blk
  obtain ⟨p0, p1, p2, p3, p4, p5, p6, p7, p8, p9, p10, p11, p12, pl⟩ := acO_facts HP.out
  have hrl := HA.out.reads
  obtain ⟨A', c', e', hla, hra⟩ := hrl
  injection e' with e1 e2 e3
  subst e1 e3
  have HRA := Lib.hid (And.intro hla hra)
  clear e2 hla hra
  generalize hw1 : w.alloc (acO a (.slice A a.f6.length c)) = w1 at *
  have HSZ := Lib.hid (show w1.heap.size = w.heap.size + 1 by rw [← hw1]; simp)
  clear hw1
  refine Txt.wp_region_mix (by kernel_rfl) (by kernel_rfl) (fun HB => ?_)
  repeat (first
    | (refine Txt.mix_p (by rfl) rfl rfl (fun K hK => ?_); go_big_quiet_op; refine hK _ ?_; clear hK K)
    | (refine Txt.mix_re (by rfl) (by decide +kernel) (by rfl) (by rfl) (by go_simp) HB (fun K hK => ?_); go_big_quiet_op; refine hK _ ?_; clear hK K)
    | (refine Txt.mix_rl (by rfl) (by decide +kernel) (by rfl) (by rfl) (by go_simp) HB (fun K hK => ?_); go_big_quiet_op; refine hK _ ?_; clear hK K)
    | (refine Txt.mix_pass (by rfl) (by rfl) ?_; simp only [List.set_cons_succ, List.set_cons_zero]))
  refine Txt.mix_c (by rfl) (by decide +kernel) HB ?_
  intro w2 hw2 K hK
  replace HB := HB.trans hw2
  clear hw2
  go_wp2_with fail
  refine (qhead_any (HH.out.below HB.undrew) HNN.out.1).mono ?_
  rintro e w3 ⟨A1, c1, rfl, hl1, hr1, hb⟩
  refine hK _ _ ⟨hb, ?_⟩
  replace HB := HB.trans hb
  obtain ⟨hd, hhd⟩ : ∃ hd, hd = headA bs fr := ⟨_, rfl⟩
  rw [← hhd] at hl1 hr1 ⊢
  have HHD := Lib.hid hhd
  have HR1 := Lib.hid (And.intro hl1 hr1)
  clear hK K hb hl1 hr1 hhd
  simp only [acV]
  repeat (first
    | (refine Txt.mix_p (by rfl) rfl rfl (fun K hK => ?_); go_big_quiet_op; refine hK _ ?_; clear hK K)
    | (refine Txt.mix_re (by rfl) (by decide +kernel) (by rfl) (by rfl) (by go_simp) HB (fun K hK => ?_); go_big_quiet_op; refine hK _ ?_; clear hK K)
    | (refine Txt.mix_rl (by rfl) (by decide +kernel) (by rfl) (by rfl) (by go_simp) HB (fun K hK => ?_); go_big_quiet_op; refine hK _ ?_; clear hK K)
    | (refine Txt.mix_pass (by rfl) (by rfl) ?_; simp only [List.set_cons_succ, List.set_cons_zero]))
  refine Txt.mix_m (fun g => .slice (some ⟨g, 0, none⟩) 3 3) (.cells #[.int .i64 hd.f0, .int .i64 hd.f1, .int .i64 hd.f2, .int .i64 hd.f3, .int .i64 hd.f4.f0, .int .i64 hd.f4.f1, .int .i64 hd.f4.f2, .int .i64 hd.f4.f3, .int .i64 hd.f5.f0, .int .i64 hd.f5.f1, .int .i64 hd.f5.f2, .int .i64 hd.f5.f3, .slice A1 hd.f6.length c1, .int .i64 al.f0, .int .i64 al.f1, .int .i64 al.f2, .int .i64 al.f3, .int .i64 al.f4.f0, .int .i64 al.f4.f1, .int .i64 al.f4.f2, .int .i64 al.f4.f3, .int .i64 al.f5.f0, .int .i64 al.f5.f1, .int .i64 al.f5.f2, .int .i64 al.f5.f3, .slice Av al.f6.length cv, .int .i64 a.f0, .int .i64 a.f1, .int .i64 a.f2, .int .i64 a.f3, .int .i64 a.f4.f0, .int .i64 a.f4.f1, .int .i64 a.f4.f2, .int .i64 a.f4.f3, .int .i64 a.f5.f0, .int .i64 a.f5.f1, .int .i64 a.f5.f2, .int .i64 a.f5.f3, .slice A a.f6.length c] 36) (by rfl) (by decide +kernel) (fun w1 => by go_simp) HB ?_
  intro pb w4 hb2 hg2 ho2
  have hrd2 : RdA w4 (some ⟨pb, 0, none⟩) [hd, al, a] := rdA_three (x := hd) (y := al) (z := a) ho2 HR1.out.1 (RdI.below HR1.out.2 hb2) HV.out.1 (RdI.below HV.out.2 (HB.trans hb2).undrew) HRA.out.1 (RdI.below HRA.out.2 (HB.trans hb2).undrew)
  replace HB := HB.trans hb2
  have HRD2 := Lib.hid hrd2
  clear hrd2 hb2 hg2 ho2
  simp only [Act.put, List.setIfInBounds_toArray, List.set_cons_succ, List.set_cons_zero]
  repeat (first
    | (refine Txt.mix_p (by rfl) rfl rfl (fun K hK => ?_); go_big_quiet_op; refine hK _ ?_; clear hK K)
    | (refine Txt.mix_re (by rfl) (by decide +kernel) (by rfl) (by rfl) (by go_simp) HB (fun K hK => ?_); go_big_quiet_op; refine hK _ ?_; clear hK K)
    | (refine Txt.mix_rl (by rfl) (by decide +kernel) (by rfl) (by rfl) (by go_simp) HB (fun K hK => ?_); go_big_quiet_op; refine hK _ ?_; clear hK K)
    | (refine Txt.mix_pass (by rfl) (by rfl) ?_; simp only [List.set_cons_succ, List.set_cons_zero]))
  refine Txt.mix_c (by rfl) (by decide +kernel) HB ?_
  intro w5 hw5 K hK
  replace HRD2 := Lib.hid (HRD2.out.below hw5)
  replace HB := HB.trans hw5
  clear hw5
  go_wp2_with fail
  have hp := join_any bs [hd, al, a] Bv dv (some ⟨pb, 0, none⟩) 3 w5 (RdI.below HBV.out.2 HB.undrew) HBV.out.1 HRD2.out (by simp)
  refine hp.mono ?_
  clear hp
  rintro e w6 ⟨v, rfl, how, hb⟩
  refine hK _ _ ⟨hb, ?_⟩
  obtain ⟨o, ho⟩ : ∃ o, o = (joinRes bs [hd, al, a]).1 := ⟨_, rfl⟩
  obtain ⟨er, her⟩ : ∃ er, er = (joinRes bs [hd, al, a]).2 := ⟨_, rfl⟩
  rw [← ho] at how ⊢
  rw [← her]
  have HER := Lib.hid (show pushErr bs fr al a = er by unfold pushErr; rw [← HHD.out, her])
  obtain ⟨A2, c2, rfl, _, _⟩ := how.reads
  replace HB := HB.trans hb
  clear hK K hb how ho her HR1 HRD2 HHD q3 q4 q5 q6 q7 q8 q9 q10 q11 q12 q13 q14 q15 p0 p1 p2 p3 p4 p5 p6 p7 p8 p9 p10 p11 p12 pl
  simp only [acV]
  repeat (first
    | (refine Txt.mix_p (by rfl) rfl rfl (fun K hK => ?_); go_big_quiet_op; refine hK _ ?_; clear hK K)
    | (refine Txt.mix_re (by rfl) (by decide +kernel) (by rfl) (by rfl) (by go_simp) HB (fun K hK => ?_); go_big_quiet_op; refine hK _ ?_; clear hK K)
    | (refine Txt.mix_rl (by rfl) (by decide +kernel) (by rfl) (by rfl) (by go_simp) HB (fun K hK => ?_); go_big_quiet_op; refine hK _ ?_; clear hK K)
    | (refine Txt.mix_pass (by rfl) (by rfl) ?_; simp only [List.set_cons_succ, List.set_cons_zero]))
  refine Txt.mix_m (fun g => .pointer (some ⟨g, 0, none⟩)) (acO z36 (.slice none 0 0)) (by rfl) (by decide +kernel) (fun w1 => by unfold acO; go_simp; rfl) HB ?_
  intro rb w7 hb7 hg7 ho7
  replace HB := HB.trans hb7
  have hrb : w1.heap.size ≤ rb := hg7
  clear hb7 hg7
  simp only [Act.put, List.setIfInBounds_toArray, List.set_cons_succ, List.set_cons_zero]
  repeat (first
    | (refine Txt.mix_p (by rfl) rfl rfl (fun K hK => ?_); go_big_quiet_op; refine hK _ ?_; clear hK K)
    | (refine Txt.mix_re (by rfl) (by decide +kernel) (by rfl) (by rfl) (by go_simp) HB (fun K hK => ?_); go_big_quiet_op; refine hK _ ?_; clear hK K)
    | (refine Txt.mix_rl (by rfl) (by decide +kernel) (by rfl) (by rfl) (by go_simp) HB (fun K hK => ?_); go_big_quiet_op; refine hK _ ?_; clear hK K)
    | (refine Txt.mix_pass (by rfl) (by rfl) ?_; simp only [List.set_cons_succ, List.set_cons_zero]))
  refine Txt.mix_a (by rfl) (by decide +kernel) (fun K hK => ?_)
  obtain ⟨z0, z1, z2, z3, z4, z5, z6, z7, z8, z9, z10, z11, z12, zl⟩ := acO_facts ho7
  have hf := fun j => blk_free ho7 j
  go_wp2_with fail
  clear z0 z1 z2 z3 z4 z5 z6 z7 z8 z9 z10 z11 z12 zl hf
  show Txt.wpMix _ _ _ _ _ _ _ (putA w7 rb o (.slice A2 o.f6.length c2))
  have hch := putA_chg w7 rb o (.slice A2 o.f6.length c2)
  have hb8 : Below w1.heap.size w1 (putA w7 rb o (.slice A2 o.f6.length c2)) := Chg.base HB.undrew hch HB.undrew.size (fun i hi => by omega)
  have HB8 := Lib.hid hb8
  clear HB hch hb8 ho7 hrb
  generalize putA w7 rb o (.slice A2 o.f6.length c2) = w8 at *
  repeat (first
    | (refine Txt.mix_p (by rfl) rfl rfl (fun K hK => ?_); go_big_quiet_op; refine hK _ ?_; clear hK K)
    | (refine Txt.mix_re (by rfl) (by decide +kernel) (by rfl) (by rfl) (by go_simp) HB (fun K hK => ?_); go_big_quiet_op; refine hK _ ?_; clear hK K)
    | (refine Txt.mix_rl (by rfl) (by decide +kernel) (by rfl) (by rfl) (by go_simp) HB (fun K hK => ?_); go_big_quiet_op; refine hK _ ?_; clear hK K)
    | (refine Txt.mix_pass (by rfl) (by rfl) ?_; simp only [List.set_cons_succ, List.set_cons_zero]))
  refine Txt.mix_nil ?_
  by_cases h0 : er = 0
  · subst h0
    have hl9 := HLEN.out HER.out
    have HL9 := Lib.hid hl9
    clear hl9
    have H8 := Lib.hid ((H0.out.below (HX.out)).below HB8.out)
    have hp8 := blk_below HP.out HB8.out
    obtain ⟨q0, q1, q2, q3, q4, q5, q6, q7, q8, q9, q10, q11, q12, q13, q14, q15, ql⟩ := qO_facts H8.out.blk
    obtain ⟨p0, p1, p2, p3, p4, p5, p6, p7, p8, p9, p10, p11, p12, pl⟩ := acO_facts hp8
    have HS1 := Lib.hid (row_noq H8.out.ko H8.out.blk (by decide))
    have HS2 := Lib.hid (show ¬ some w.heap.size = kv.ownBlock from fun e => by
      have := own_lt H0.out.ko w.heap.size e.symm
      omega)
    have HKV := Lib.hid (fun k hk => own_lt H0.out.ko k hk)
    obtain ⟨Ak, ck, hkv, hck⟩ := row_form H8.out.ko
    have HFK := Lib.hid hkv
    rw [hkv] at q2
    clear hp8 hkv
    go_wp2_with fail
    refine Txt2.wp_region_mix (S := fun k => some k = kv.ownBlock) (by kernel_rfl) (by kernel_rfl) (fun HB => ?_)
    repeat (first
      | (refine Txt2.mix_p (by rfl) rfl rfl (fun K hK => ?_); go_big_quiet_op; refine hK _ ?_; clear hK K)
      | (refine Txt2.mix_re (by rfl) (by decide +kernel) (by rfl) (by rfl) (by go_simp) (by first | exact HS1.out | exact HS2.out) HB (fun K hK => ?_); go_big_quiet_op; refine hK _ ?_; clear hK K)
      | (refine Txt2.mix_pass (by rfl) (by rfl) ?_; simp only [List.set_cons_succ, List.set_cons_zero]))
    refine Txt2.mix_c (by rfl) (by decide +kernel) HB ?_
    intro w9 hw9 K hK
    replace HB := HB.then_ hw9
    have hb9 : Below w8.heap.size w8 w9 := Txt.Bw.undrew hw9
    clear hw9
    go_wp2_with fail
    refine (acopy_any a A c w9 (RdI.below (RdI.below HRA.out.2 HB8.out) hb9) HRA.out.1 (by have := HL9.out; omega)).mono ?_
    rintro e wa ⟨va, rfl, hva, hb⟩
    refine hK _ _ ⟨hb, ?_⟩
    replace HB := HB.then_ hb
    have hba := hb9.trans (hb.mono hb9.size)
    have HVA := Lib.hid hva
    have HVB := Lib.hid (fun k hk => own_base hva k hk)
    have HVL := Lib.hid (fun k hk => own_lt hva k hk)
    obtain ⟨A3, c3, rfl, _, _⟩ := hva.reads
    have HBA := Lib.hid hba
    have HSA := Lib.hid (show w.heap.size ≤ w9.heap.size by have := HB8.out.size; have := hb9.size; omega)
    clear hK K hb hva hb9 hba
    simp only [acV]
    repeat (first
      | (refine Txt2.mix_p (by rfl) rfl rfl (fun K hK => ?_); go_big_quiet_op; refine hK _ ?_; clear hK K)
      | (refine Txt2.mix_re (by rfl) (by decide +kernel) (by rfl) (by rfl) (by go_simp) (by first | exact HS1.out | exact HS2.out) HB (fun K hK => ?_); go_big_quiet_op; refine hK _ ?_; clear hK K)
      | (refine Txt2.mix_pass (by rfl) (by rfl) ?_; simp only [List.set_cons_succ, List.set_cons_zero]))
    refine Txt2.mix_m (fun g => .slice (some ⟨g, 0, none⟩) 1 1) (.cells #[.int .i64 a.f0, .int .i64 a.f1, .int .i64 a.f2, .int .i64 a.f3, .int .i64 a.f4.f0, .int .i64 a.f4.f1, .int .i64 a.f4.f2, .int .i64 a.f4.f3, .int .i64 a.f5.f0, .int .i64 a.f5.f1, .int .i64 a.f5.f2, .int .i64 a.f5.f3, .slice A3 a.f6.length c3] 36) (by rfl) (by decide +kernel) (fun w1 => by go_simp) HB ?_
    intro pb2 wb hb2 hg2 ho2
    replace HB := HB.then_ hb2
    have HO2 := Lib.hid ho2
    replace HVA := Lib.hid (Own.below HVA.out hb2)
    replace HBA := Lib.hid (HBA.out.trans (hb2.mono HBA.out.size))
    clear hb2 hg2 ho2
    simp only [Act.put, List.setIfInBounds_toArray, List.set_cons_succ, List.set_cons_zero]
    repeat (first
      | (refine Txt2.mix_p (by rfl) rfl rfl (fun K hK => ?_); go_big_quiet_op; refine hK _ ?_; clear hK K)
      | (refine Txt2.mix_re (by rfl) (by decide +kernel) (by rfl) (by rfl) (by go_simp) (by first | exact HS1.out | exact HS2.out) HB (fun K hK => ?_); go_big_quiet_op; refine hK _ ?_; clear hK K)
      | (refine Txt2.mix_pass (by rfl) (by rfl) ?_; simp only [List.set_cons_succ, List.set_cons_zero]))
    refine Txt2.mix_e (by rfl) (by decide +kernel) HB ?_
    intro wc hwc K hK
    have hbc := HBA.out.trans (hwc.mono HBA.out.size)
    have hst := (H8.out.below hbc).st
    have hko := (H8.out.below hbc).ko
    have hvac := Own.below HVA.out hwc
    have ho2c := blk_below HO2.out hwc
    refine wp_append (.tmp 32) (.tmp 35) 23 36 _ 13 120 0 rfl Try.underlying23 info_acc rfl (by decide) kv bk.length 1 (flatA bk) (accC a (.slice A3 a.f6.length c3)) pb2 1 (by show Value.slice Ak bk.length ck = kv; rw [← HFK.out]) rfl hko (Nat.zero_le _) (by rw [accC_len]) ?_ ?_ (by have := HNN.out.2; omega) (by have := HNN.out.2; omega) ?_
    · intro j u hu
      rw [blk_cell ho2c]
      exact (List.getElem?_toArray).trans hu
    · intro u hu
      simp only [accC, List.mem_cons, List.not_mem_nil, or_false] at hu
      rcases hu with rfl | rfl | rfl | rfl | rfl | rfl | rfl | rfl | rfl | rfl | rfl | rfl | rfl <;> rfl
    intro v1 wd hown hgr hat
    have hch : Chg (fun k => some k = kv.ownBlock) wc wd := (Chg.refl _ wc).grown hgr (fun k hk => .inl hk.symm)
    have hkx : Txt2.Kx (fun k => some k = kv.ownBlock) w8.drew wc wd := ⟨hch.os, hch.tape, hch.output, hch.size, fun i hi hn => hch.block i hi (fun hs => hn ⟨hs, by
      have h1 := HKV.out i hs.symm
      have h2 := HX.out.size
      have h3 := HB8.out.size
      show i < w8.heap.size
      omega⟩)⟩
    refine hK _ _ ⟨hkx, ?_⟩
    replace HB := (HB.then_ hwc).trans hkx
    have hst2 := hst.grown hko hgr
    have HST := Lib.hid hst2
    have HVD := Lib.hid (Own.grown (show Own wc 0 (.slice A3 a.f6.length c3) a.f6 from own_weaken hvac (Nat.zero_le _)) hko hgr)
    have HAD := Lib.hid (((Own.below (Own.below HA.out HB8.out) hbc)).grown hko hgr)
    have HOWN := Lib.hid hown
    have HAT := Lib.hid hat
    have HCD := Lib.hid (Chg.grown (Chg.of_below (S := F) (HX.out.trans ((HB8.out.trans (hbc.mono HB8.out.size)).mono HX.out.size))) hgr (fun k hk => .inl (H0.out.fk k hk)))
    have HSC := Lib.hid (And.intro (Nat.le_trans HX.out.size (Nat.le_trans HB8.out.size hbc.size)) (And.intro hwc.size hch.size))
    obtain ⟨A9, c9, rfl, _⟩ := row_form hown
    clear hch hkx hst2 hst hko hvac ho2c hbc hwc hK K hown hgr hat HVA HBA HO2
    simp only [Act.put, List.setIfInBounds_toArray, List.set_cons_succ, List.set_cons_zero]
    repeat (first
      | (refine Txt2.mix_p (by rfl) rfl rfl (fun K hK => ?_); go_big_quiet_op; refine hK _ ?_; clear hK K)
      | (refine Txt2.mix_re (by rfl) (by decide +kernel) (by rfl) (by rfl) (by go_simp) (by first | exact HS1.out | exact HS2.out) HB (fun K hK => ?_); go_big_quiet_op; refine hK _ ?_; clear hK K)
      | (refine Txt2.mix_pass (by rfl) (by rfl) ?_; simp only [List.set_cons_succ, List.set_cons_zero]))
    refine Txt2.mix_m (fun g => .slice (some ⟨g, 0, none⟩) 2 2) (.cells #[.int .i64 al.f0, .int .i64 al.f1, .int .i64 al.f2, .int .i64 al.f3, .int .i64 al.f4.f0, .int .i64 al.f4.f1, .int .i64 al.f4.f2, .int .i64 al.f4.f3, .int .i64 al.f5.f0, .int .i64 al.f5.f1, .int .i64 al.f5.f2, .int .i64 al.f5.f3, .slice Av al.f6.length cv, .int .i64 a.f0, .int .i64 a.f1, .int .i64 a.f2, .int .i64 a.f3, .int .i64 a.f4.f0, .int .i64 a.f4.f1, .int .i64 a.f4.f2, .int .i64 a.f4.f3, .int .i64 a.f5.f0, .int .i64 a.f5.f1, .int .i64 a.f5.f2, .int .i64 a.f5.f3, .slice A a.f6.length c] 36) (by rfl) (by decide +kernel) (fun w1 => by go_simp) HB ?_
    intro pb3 we hb3 hg3 ho3
    obtain ⟨_, _, ea, hal1, hra1⟩ := (Own.below HST.out.ao hb3).reads
    injection ea with ea1 _ ea3
    subst ea1 ea3
    obtain ⟨_, _, eb, hal2, hra2⟩ := (Own.below HAD.out hb3).reads
    injection eb with eb1 _ eb3
    subst eb1 eb3
    have hrd3 : RdA we (some ⟨pb3, 0, none⟩) [al, a] := rdA_two (x := al) (y := a) ho3 hal1 hra1 hal2 hra2
    replace HB := HB.then_ hb3
    have HRD3 := Lib.hid hrd3
    have HBE := Lib.hid (show Below wd.heap.size wd we from hb3)
    clear hrd3 hb3 hg3 ho3 hal1 hra1 hal2 hra2
    simp only [Act.put, List.setIfInBounds_toArray, List.set_cons_succ, List.set_cons_zero]
    repeat (first
      | (refine Txt2.mix_p (by rfl) rfl rfl (fun K hK => ?_); go_big_quiet_op; refine hK _ ?_; clear hK K)
      | (refine Txt2.mix_re (by rfl) (by decide +kernel) (by rfl) (by rfl) (by go_simp) (by first | exact HS1.out | exact HS2.out) HB (fun K hK => ?_); go_big_quiet_op; refine hK _ ?_; clear hK K)
      | (refine Txt2.mix_pass (by rfl) (by rfl) ?_; simp only [List.set_cons_succ, List.set_cons_zero]))
    refine Txt2.mix_c (by rfl) (by decide +kernel) HB ?_
    intro wf hwf K hK
    replace HB := HB.then_ hwf
    replace HRD3 := Lib.hid (HRD3.out.below hwf)
    replace HBE := Lib.hid (HBE.out.trans (hwf.mono HBE.out.size))
    clear hwf
    go_wp2_with fail
    refine (qjoin_at (qO_facts (HST.out.below HBE.out).blk).1 (HST.out.below HBE.out).bo [al, a] (some ⟨pb3, 0, none⟩) 2 HRD3.out (by simp)).mono ?_
    rintro e wg ⟨va', rfl, how, hb⟩
    refine hK _ _ ⟨hb, ?_⟩
    obtain ⟨o2, ho2'⟩ : ∃ o, o = (joinRes bs [al, a]).1 := ⟨_, rfl⟩
    rw [← ho2'] at how ⊢
    have HO2 := Lib.hid ho2'
    have HUB := Lib.hid (fun k hk => own_base how k hk)
    have HUO := Lib.hid how
    obtain ⟨A4, c4, rfl, _, _⟩ := how.reads
    have HEF := Lib.hid HBE.out.size
    replace HBE := Lib.hid (HBE.out.trans (hb.mono HBE.out.size))
    have HSG := Lib.hid (HST.out.below HBE.out)
    clear hK K hb how ho2' HB q0 q1 q2 q3 q4 q5 q6 q7 q8 q9 q10 q11 q12 q13 q14 q15 ql p0 p1 p2 p3 p4 p5 p6 p7 p8 p9 p10 p11 p12 pl
    simp only [acV]
    obtain ⟨q0, q1, q2, q3, q4, q5, q6, q7, q8, q9, q10, q11, q12, q13, q14, q15, ql⟩ := qO_facts HSG.out.blk
    have hf := fun j => blk_free HSG.out.blk j
    repeat (first
      | (refine Txt2.mix_p (by rfl) rfl rfl (fun K hK => ?_); go_big_quiet_op; refine hK _ ?_; clear hK K)
      | (refine Txt2.mix_re (by rfl) (by decide +kernel) (by rfl) (by rfl) (by go_simp) (by first | exact HS1.out | exact HS2.out) HB (fun K hK => ?_); go_big_quiet_op; refine hK _ ?_; clear hK K)
      | (refine Txt2.mix_pass (by rfl) (by rfl) ?_; simp only [List.set_cons_succ, List.set_cons_zero]))
    refine Txt2.mix_a (by rfl) (by decide +kernel) (fun K hK => ?_)
    go_wp2_with fail
    repeat (first
      | (refine Txt2.mix_p (by rfl) rfl rfl (fun K hK => ?_); go_big_quiet_op; refine hK _ ?_; clear hK K)
      | (refine Txt2.mix_re (by rfl) (by decide +kernel) (by rfl) (by rfl) (by go_simp) (by first | exact HS1.out | exact HS2.out) HB (fun K hK => ?_); go_big_quiet_op; refine hK _ ?_; clear hK K)
      | (refine Txt2.mix_pass (by rfl) (by rfl) ?_; simp only [List.set_cons_succ, List.set_cons_zero]))
    refine Txt2.mix_a (by rfl) (by decide +kernel) (fun K hK => ?_)
    go_wp2_with fail
    clear q0 q1 q2 q3 q4 q5 q6 q7 q8 q9 q10 q11 q12 q13 q14 q15 ql hf
    show Txt2.wpMix _ _ _ _ _ _ _ _ (putQ wg g (.slice A9 (bk.length + 1) c9) o2 (.slice A4 o2.f6.length c4))
    have hkn := row_keep (S := fun _ => False) HOWN.out (Chg.of_below HBE.out) (fun _ _ h => h)
    have hvn := Own.below HVD.out HBE.out
    have hun : Own wg 0 (.slice A4 o2.f6.length c4) o2.f6 := own_weaken HUO.out (Nat.zero_le _)
    have hsz : wg.heap.size = (putQ wg g (.slice A9 (bk.length + 1) c9) o2 (.slice A4 o2.f6.length c4)).heap.size := by simp [putQ, World.setCell]
    have hwg : w.heap.size ≤ wg.heap.size := by
      have h1 := HSC.out.1
      have h2 := HSC.out.2
      have h3 := HBE.out.size
      omega
    have hva0 : ∀ k, (Value.slice A3 a.f6.length c3).ownBlock = some k → w.heap.size ≤ k ∧ k < wf.heap.size := fun k hk => by
      have h1 := HVB.out k hk
      have h2 := HVL.out k hk
      have h3 := HSA.out
      have h4 := HSC.out
      have h5 := HEF.out
      have h6 := own_lt HVD.out k hk
      omega
    have hav0 : ∀ k, (Value.slice A4 o2.f6.length c4).ownBlock = some k → wf.heap.size ≤ k := fun k hk => HUB.out k hk
    have hwf : w.heap.size ≤ wf.heap.size := by
      have h4 := HSC.out
      have h5 := HEF.out
      omega
    have hcut := hbs_cut (.slice Bv bs.length dv) fr bk (.slice Av al.f6.length cv)
    have hnd0 := H0.out.nd
    have hlt0 := H0.out.lt
    have hfh0 := H0.out.fh
    rw [hcut] at hnd0 hlt0 hfh0
    have hfin := HSG.out.fin (G := Gr F w (putQ wg g (.slice A9 (bk.length + 1) c9) o2 (.slice A4 o2.f6.length c4))) (va := .slice A3 a.f6.length c3) hkn hvn hun (.inl H0.out.fg) (fun k hk => .inl (H0.out.ff k hk)) (fun k hk => by
      rcases HAT.out with h | h
      · exact .inl (H0.out.fk k (h.symm.trans hk))
      · refine .inr ⟨?_, by rw [← hsz]; exact own_lt hkn k hk⟩
        rw [hk] at h
        have e1 : k = wc.heap.size := by simpa using h
        rw [e1]
        exact HSC.out.1) (fun k hk => by
      rw [hbs_snoc] at hk
      rcases List.mem_append.1 hk with hk | hk
      · exact .inl (hfh0 k (List.mem_append_left _ hk))
      · refine .inr ?_
        rw [← hsz]
        rcases List.mem_append.1 hk with hk | hk
        · have hk' : (Value.slice A3 a.f6.length c3).ownBlock = some k := by simpa using hk
          exact ⟨(hva0 k hk').1, own_lt hvn k hk'⟩
        · have hk' : (Value.slice A4 o2.f6.length c4).ownBlock = some k := by simpa using hk
          exact ⟨Nat.le_trans hwf (hav0 k hk'), own_lt hun k hk'⟩) (by
      rw [hbs_snoc]
      refine nd_new (n := w.heap.size) (List.nodup_append.1 hnd0).1 (nd_two _ _ (m := wf.heap.size) (fun k hk => (hva0 k hk).2) hav0) (fun k hk => hlt0 k (List.mem_append_left _ hk)) (fun k hk => ?_)
      rcases List.mem_append.1 hk with hk | hk
      · exact (hva0 k (by simpa using hk)).1
      · exact Nat.le_trans hwf (hav0 k (by simpa using hk)))
    have hcz := (HCD.out.below HBE.out).trans (putQ_chg wg g (.slice A9 (bk.length + 1) c9) o2 (.slice A4 o2.f6.length c4)) (fun i _ h => by rw [h]; exact H0.out.fg)
    have HFIN := Lib.hid hfin
    have HCZ := Lib.hid hcz
    clear hfin hcz hnd0 hlt0 hfh0 hcut hwf hav0 hva0 hwg hsz hun hvn hkn
    generalize putQ wg g (.slice A9 (bk.length + 1) c9) o2 (.slice A4 o2.f6.length c4) = wz at *
    repeat (first
      | (refine Txt2.mix_p (by rfl) rfl rfl (fun K hK => ?_); go_big_quiet_op; refine hK _ ?_; clear hK K)
      | (refine Txt2.mix_re (by rfl) (by decide +kernel) (by rfl) (by rfl) (by go_simp) (by first | exact HS1.out | exact HS2.out) HB (fun K hK => ?_); go_big_quiet_op; refine hK _ ?_; clear hK K)
      | (refine Txt2.mix_pass (by rfl) (by rfl) ?_; simp only [List.set_cons_succ, List.set_cons_zero]))
    refine Txt2.mix_nil ?_
    go_wp2_with fail
    go_ret
    exact .inr ⟨HER.out, rfl, _, _, _, by rw [← HO2.out]; exact HFIN.out, HCZ.out⟩
  · have hd0 : (er != 0) = true := bne_iff_ne.2 h0
    have HNE := Lib.hid h0
    clear h0
    go_wp2_with fail
    go_ret
    exact .inl ⟨by rw [HER.out]; exact HNE.out, rfl, HX.out.trans (HB8.out.mono HX.out.size)⟩
end
end Go.Proofs.Ytfgabafbcephaaa.My

namespace Go.Proofs.Ytfgabafbcephaaa.My
open Go.RowKit Pa Go.Proofs.YtfgabafbcephaaaW.PrintWords
set_option linter.unusedSimpArgs false

theorem ent_cells {w : World} {b : Nat} {n cap : Nat} {es : List (AV × AV)} (h : w.ownsRow 0 90 26 (.slice (some ⟨b, 0, none⟩) n cap) n (flatE es)) {i : Nat} (hi : i < es.length) :
    (∀ j, j < 13 → ∀ x, (accC (es.getD i (z28v, z28v)).1.1 (es.getD i (z28v, z28v)).1.2)[j]? = some x → w.cell? ⟨b, i * 26 + j, none⟩ = some x) ∧ (∀ j, j < 13 → ∀ x, (accC (es.getD i (z28v, z28v)).2.1 (es.getD i (z28v, z28v)).2.2)[j]? = some x → w.cell? ⟨b, i * 26 + 13 + j, none⟩ = some x) := by
  refine ⟨fun j hj x hx => ?_, fun j hj x hx => ?_⟩
  · have h3 := h.cells (g := b) rfl (i * 26 + j) x (((flatE_get hi j hj).1).trans hx)
    rwa [add_plain] at h3
  · have h3 := h.cells (g := b) rfl (i * 26 + 13 + j) x (((flatE_get hi j hj).2).trans hx)
    rwa [add_plain] at h3
theorem acc_cells_at {w : World} {b : Nat} {n cap : Nat} {ps : List AV} (h : w.ownsRow 0 36 13 (.slice (some ⟨b, 0, none⟩) n cap) n (flatA ps)) {i : Nat} (hi : i < ps.length) :
    ∀ j, j < 13 → ∀ x, (accC (ps.getD i z28v).1 (ps.getD i z28v).2)[j]? = some x → w.cell? ⟨b, i * 13 + j, none⟩ = some x := fun j hj x hx => by
  have h3 := h.cells (g := b) rfl (i * 13 + j) x ((flatA_get hi j hj).trans hx)
  rwa [add_plain] at h3
theorem row_less {w : World} {base n m size : Nat} {e : TypeId} {b cap : Nat} {cs : List Value} (h : w.ownsRow base e size (.slice (some ⟨b, 0, none⟩) n cap) n cs) (hm : m ≤ n) : w.ownsRow base e size (.slice (some ⟨b, 0, none⟩) m cap) m (cs.take (m * size)) := by
  obtain ⟨h1, h2⟩ := h
  refine ⟨?_, .inr ?_⟩
  · rw [List.length_take, h1]
    exact Nat.min_eq_left (Nat.mul_le_mul_right _ hm)
  · rcases h2 with ⟨e1, _⟩ | ⟨g, cap', cur, e1, h3, h4, h5, h6, h7, h8⟩
    · cases e1
    · injection e1 with e1 e2 e3
      injection e1 with e1
      injection e1 with e1
      subst e1 e3
      refine ⟨b, cap, cur, rfl, h3, h4, by omega, h6, h7, ?_⟩
      rw [← h8, List.take_take, Nat.min_eq_left (Nat.mul_le_mul_right _ hm)]
theorem flatE_take (es : List (AV × AV)) (e : AV × AV) : (flatE (es ++ [e])).take (es.length * 26) = flatE es := by
  have h : flatE (es ++ [e]) = flatE es ++ (accC e.1.1 e.1.2 ++ accC e.2.1 e.2.2) := by
    unfold flatE
    rw [List.flatMap_append]
    simp
  rw [h, ← flatE_len es, List.take_left]
theorem flatA_take (ps : List AV) (p : AV) : (flatA (ps ++ [p])).take (ps.length * 13) = flatA ps := by
  rw [flatA_snoc, ← flatA_len ps, List.take_left]
def shE (fr : List (AV × AV)) : List (S36 × S36) := fr.map (fun e => (e.1.1, e.2.1))
def shA (bk : List AV) : List S36 := bk.map (·.1)
def headS (bs : List Int) (fs : List (S36 × S36)) : S36 := match fs.getLast? with | none => (joinRes bs []).1 | some e => e.2
theorem headS_sh (bs : List Int) (fr : List (AV × AV)) : headS bs (shE fr) = headA bs fr := by
  unfold headS headA shE
  rw [List.getLast?_map]
  cases fr.getLast? <;> rfl
def turnS (bs : List Int) : List (S36 × S36) → List S36 → List (S36 × S36)
  | fs, [] => fs
  | fs, a :: r => turnS bs (fs ++ [(a, (joinRes bs [a, headS bs fs]).1)]) r
theorem hbs_turn (bv : Value) (fr : List (AV × AV)) (bk : List AV) (p q : AV) (av : Value) : (hbs bv (fr ++ [(p, q)]) bk av).Perm (hbs bv fr (bk ++ [p]) av ++ q.2.ownBlock.toList) := by
  refine List.perm_iff_count.2 fun a => ?_
  unfold hbs
  simp only [List.count_append, List.flatMap_append, List.flatMap_cons, List.flatMap_nil, List.append_nil]
  omega
theorem info_ent : (Try.prog.info? 90).map (fun i => (i.zero, i.size, i.bytes)) = some (some (.agg #[.int .i64 0, .int .i64 0, .int .i64 0, .int .i64 0, .int .i64 0, .int .i64 0, .int .i64 0, .int .i64 0, .int .i64 0, .int .i64 0, .int .i64 0, .int .i64 0, .slice none 0 0, .int .i64 0, .int .i64 0, .int .i64 0, .int .i64 0, .int .i64 0, .int .i64 0, .int .i64 0, .int .i64 0, .int .i64 0, .int .i64 0, .int .i64 0, .int .i64 0, .slice none 0 0]), 26, 240) := by kernel_rfl
def lenAt (w : World) (g : Nat) : Nat := match w.cell? ⟨g, 2, none⟩ with | some (.slice _ n _) => n | _ => 0
section
variable {w : World} {F : Nat → Prop} {g : Nat} {bs : List Int} {fr : List (AV × AV)} {bk : List AV} {al : S36} {bv fv kv av : Value}
theorem QAt.cutBack {p : AV} {b cap : Nat} (h : QAt w F g bs fr (bk ++ [p]) al bv fv (.slice (some ⟨b, 0, none⟩) (bk.length + 1) cap) av) : QAt (w.setCell ⟨g, 2, none⟩ (.slice (some ⟨b, 0, none⟩) bk.length cap)) F g bs fr bk al bv fv (.slice (some ⟨b, 0, none⟩) bk.length cap) av ∧ Own (w.setCell ⟨g, 2, none⟩ (.slice (some ⟨b, 0, none⟩) bk.length cap)) 0 p.2 p.1.f6 := by
  have hc : Chg (fun k => k = g) w (w.setCell ⟨g, 2, none⟩ (.slice (some ⟨b, 0, none⟩) bk.length cap)) := (Chg.refl (fun k => k = g) w).setCell (p := ⟨g, 2, none⟩) (.inl rfl) _
  have ho : ∀ {v : Value} {l : List Int}, Own w 0 v l → Own (w.setCell ⟨g, 2, none⟩ (.slice (some ⟨b, 0, none⟩) bk.length cap)) 0 v l := fun hv => hv.keep hc (fun k hk e => row_noq hv h.blk (by decide) (by rw [hk, e]))
  have hko := h.ko
  rw [List.length_append, List.length_singleton] at hko
  have hk2 := row_less hko (Nat.le_succ bk.length)
  rw [flatA_take] at hk2
  have hb2 := blk_set h.blk 2 (.slice (some ⟨b, 0, none⟩) bk.length cap)
  simp only [List.setIfInBounds_toArray, List.set_cons_zero, List.set_cons_succ] at hb2
  have hsub : ∀ k ∈ hbs bv fr bk av, k ∈ hbs bv fr (bk ++ [p]) av := fun k hk => by
    rw [hbs_snoc]
    rw [hbs_cut] at hk
    rcases List.mem_append.1 hk with hk | hk
    · exact List.mem_append_left _ hk
    · exact List.mem_append_right _ (List.mem_append_right _ hk)
  have hnd := h.nd
  rw [hbs_snoc, List.nodup_append] at hnd
  obtain ⟨n1, n2, n3⟩ := hnd
  rw [List.nodup_append] at n2
  refine ⟨⟨hb2, ho h.bo, row_keep h.fo hc (fun k hk e => row_noq h.fo h.blk (by decide) (by rw [hk, e])), row_keep hk2 hc (fun k hk e => row_noq hk2 h.blk (by decide) (by rw [hk, e])), fun e he => ⟨ho (h.fe e he).1, ho (h.fe e he).2⟩, fun q hq => ho (h.ke q (List.mem_append_left _ hq)), ho h.ao, h.fg, h.ff, fun k hk => h.fk k hk, fun k hk => h.fh k (hsub k hk), ?_⟩, ho (h.ke p (by simp))⟩
  rw [hbs_cut, List.nodup_append]
  exact ⟨n1, n2.2.1, fun a ha b hb => n3 a ha b (List.mem_append_right _ hb)⟩
end
end Go.Proofs.Ytfgabafbcephaaa.My

namespace Go.Proofs.Ytfgabafbcephaaa.My
open Go.RowKit Pa Go.Proofs.YtfgabafbcephaaaW.PrintWords
set_option linter.unusedSimpArgs false
section
variable {w : World} {F : Nat → Prop} {g : Nat} {bs : List Int} {fr : List (AV × AV)} {bk : List AV} {al : S36} {bv fv kv av : Value}
def putQA (w : World) (g : Nat) (a : S36) (u : Value) : World := ((((((((((((w.setCell ⟨g, 3, none⟩ (.int .i64 a.f0)).setCell ⟨g, 4, none⟩ (.int .i64 a.f1)).setCell ⟨g, 5, none⟩ (.int .i64 a.f2)).setCell ⟨g, 6, none⟩ (.int .i64 a.f3)).setCell ⟨g, 7, none⟩ (.int .i64 a.f4.f0)).setCell ⟨g, 8, none⟩ (.int .i64 a.f4.f1)).setCell ⟨g, 9, none⟩ (.int .i64 a.f4.f2)).setCell ⟨g, 10, none⟩ (.int .i64 a.f4.f3)).setCell ⟨g, 11, none⟩ (.int .i64 a.f5.f0)).setCell ⟨g, 12, none⟩ (.int .i64 a.f5.f1)).setCell ⟨g, 13, none⟩ (.int .i64 a.f5.f2)).setCell ⟨g, 14, none⟩ (.int .i64 a.f5.f3)).setCell ⟨g, 15, none⟩ u
theorem putQA_blk {u : Value} {a : S36} (h : w.heap[g]? = some (qO bv fv kv al av)) : (putQA w g a u).heap[g]? = some (qO bv fv kv a u) := by
  have := blk_set (blk_set (blk_set (blk_set (blk_set (blk_set (blk_set (blk_set (blk_set (blk_set (blk_set (blk_set (blk_set h 3 (.int .i64 a.f0)) 4 (.int .i64 a.f1)) 5 (.int .i64 a.f2)) 6 (.int .i64 a.f3)) 7 (.int .i64 a.f4.f0)) 8 (.int .i64 a.f4.f1)) 9 (.int .i64 a.f4.f2)) 10 (.int .i64 a.f4.f3)) 11 (.int .i64 a.f5.f0)) 12 (.int .i64 a.f5.f1)) 13 (.int .i64 a.f5.f2)) 14 (.int .i64 a.f5.f3)) 15 u
  simp only [List.setIfInBounds_toArray, List.set_cons_zero, List.set_cons_succ] at this
  exact this
theorem putQA_chg (w : World) (g : Nat) (a : S36) (u : Value) : Chg (fun k => k = g) w (putQA w g a u) :=
  (((((((((((((Chg.refl (fun k => k = g) w).setCell (p := ⟨g, 3, none⟩) (.inl rfl) _).setCell (p := ⟨g, 4, none⟩) (.inl rfl) _).setCell (p := ⟨g, 5, none⟩) (.inl rfl) _).setCell (p := ⟨g, 6, none⟩) (.inl rfl) _).setCell (p := ⟨g, 7, none⟩) (.inl rfl) _).setCell (p := ⟨g, 8, none⟩) (.inl rfl) _).setCell (p := ⟨g, 9, none⟩) (.inl rfl) _).setCell (p := ⟨g, 10, none⟩) (.inl rfl) _).setCell (p := ⟨g, 11, none⟩) (.inl rfl) _).setCell (p := ⟨g, 12, none⟩) (.inl rfl) _).setCell (p := ⟨g, 13, none⟩) (.inl rfl) _).setCell (p := ⟨g, 14, none⟩) (.inl rfl) _).setCell (p := ⟨g, 15, none⟩) (.inl rfl) _
theorem QAt.setAll {G : Nat → Prop} {o : S36} {u : Value} (h : QAt w F g bs fr bk al bv fv kv av) (hu : Own w 0 u o.f6) (hFG : ∀ i, F i → G i) (hG : ∀ k, u.ownBlock = some k → G k) {n : Nat} (hlt : ∀ k ∈ hbs bv fr bk av, k < n) (hn : ∀ k, u.ownBlock = some k → n ≤ k) : QAt (putQA w g o u) G g bs fr bk o bv fv kv u := by
  have hc := putQA_chg w g o u
  have ho : ∀ {v : Value} {l : List Int}, Own w 0 v l → Own (putQA w g o u) 0 v l := fun hv => hv.keep hc (fun k hk e => row_noq hv h.blk (by decide) (by rw [hk, e]))
  have hnd := h.nd
  rw [hbs_cut, List.nodup_append] at hnd
  refine ⟨putQA_blk h.blk, ho h.bo, row_keep h.fo hc (fun k hk e => row_noq h.fo h.blk (by decide) (by rw [hk, e])), row_keep h.ko hc (fun k hk e => row_noq h.ko h.blk (by decide) (by rw [hk, e])), fun e he => ⟨ho (h.fe e he).1, ho (h.fe e he).2⟩, fun p hp => ho (h.ke p hp), ho hu, hFG _ h.fg, fun k hk => hFG _ (h.ff k hk), fun k hk => hFG _ (h.fk k hk), fun k hk => ?_, ?_⟩
  · rw [hbs_cut] at hk
    rcases List.mem_append.1 hk with hk | hk
    · exact hFG _ (h.fh k (by rw [hbs_cut]; exact List.mem_append_left _ hk))
    · exact hG k (by simpa using hk)
  · rw [hbs_cut]
    refine nd_new (n := n) hnd.1 (by cases u.ownBlock <;> simp) (fun k hk => hlt k (by rw [hbs_cut]; exact List.mem_append_left _ hk)) (fun k hk => hn k (by simpa using hk))
theorem Gr.elim_ {w w' : World} {i : Nat} (h : Gr F w w' i) : F i ∨ w.heap.size ≤ i := h.imp id (fun h => h.1)
theorem turn_step (bs : List Int) (fr : List (AV × AV)) (bk : List AV) (p : AV) (u : Value) : turnS bs (shE fr) (shA (bk ++ [p])).reverse = turnS bs (shE (fr ++ [(p, ((joinRes bs [p.1, headA bs fr]).1, u))])) (shA bk).reverse := by
  unfold shA
  rw [List.map_append, List.reverse_append]
  show turnS bs (shE fr) (p.1 :: (bk.map (·.1)).reverse) = _
  unfold turnS
  rw [headS_sh]
  unfold shE
  rw [List.map_append]
  cases (bk.map (·.1)).reverse <;> rfl
set_option maxHeartbeats 16000000 in
set_option maxRecDepth 100000 in
theorem qturn_any (h : QAt w F g bs fr bk al bv fv kv av) (hN : fr.length + bk.length ≤ 500000) :
    Calls Try.prog 48 #[.pointer (some ⟨g, 0, none⟩)] w fun e w' => e = .returned (.tuple #[]) ∧ ∃ fr' fv' kv' av', QAt w' (Gr F w w') g bs fr' [] (joinRes bs []).1 bv fv' kv' av' ∧ shE fr' = turnS bs (shE fr) (shA bk).reverse ∧ Chg F w w' := by
  have H := Lib.hid h
  have HN := Lib.hid hN
  clear h hN
  go_enter Try.func48, Try.ntmps48
  go_wp2_with fail
  go_loopw [2] (fun x wr => ∃ (fr' : List (AV × AV)) (bk' : List AV) (fv' kv' : Value), QAt wr (Gr F w wr) g bs fr' bk' al bv fv' kv' av ∧ Rel (turnS bs (shE fr') (shA bk').reverse = turnS bs (shE fr) (shA bk).reverse) ∧ Rel (fr'.length + bk'.length ≤ 500000) ∧ Chg F w wr) (fun _ wr => lenAt wr g)
  case atStart => exact ⟨fr, bk, fv, kv, H.out.mono (fun i _ h => .inl h), rfl, HN.out, Chg.refl _ _⟩
  case round =>
    obtain ⟨fr', bk', fv', kv', hq, hts, hle, hch⟩ := hrel
    have HQ := Lib.hid hq
    have HTS := Lib.hid (id (α := _ = _) hts)
    have HLE := Lib.hid (id (α := _ ≤ _) hle)
    have HC := Lib.hid hch
    clear hq hts hle hch H HN
    rcases List.eq_nil_or_concat bk' with rfl | ⟨bk'', p, rfl⟩
    · obtain ⟨Ak, ck, hkv, hck⟩ := row_form HQ.out.ko
      subst hkv
      rw [List.length_nil] at HQ
      obtain ⟨q0, q1, q2, q3, q4, q5, q6, q7, q8, q9, q10, q11, q12, q13, q14, q15, ql⟩ := qO_facts HQ.out.blk
      clear hck
      go_wp2_with fail
      refine (qjoin_any HQ.out [] none 0 (rdA_nil _ _) (by simp)).mono ?_
      rintro e w2 ⟨u, rfl, how, hb⟩
      obtain ⟨o, ho⟩ : ∃ o, o = (joinRes bs []).1 := ⟨_, rfl⟩
      rw [← ho] at how ⊢
      have HO := Lib.hid ho
      have hu := how.reads
      obtain ⟨A4, c4, rfl, _, _⟩ := hu
      have HUO := Lib.hid how
      have hq2 := HQ.out.below hb
      have HQ2 := Lib.hid hq2
      have HSB := Lib.hid hb.size
      have HC2 := Lib.hid (HC.out.below hb)
      clear how ho hb hq2 q0 q1 q2 q3 q4 q5 q6 q7 q8 q9 q10 q11 q12 q13 q14 q15 ql
      simp only [acV]
      obtain ⟨q0, q1, q2, q3, q4, q5, q6, q7, q8, q9, q10, q11, q12, q13, q14, q15, ql⟩ := qO_facts HQ2.out.blk
      have hf := fun j => blk_free HQ2.out.blk j
      go_wp2_with fail
      clear q0 q1 q2 q3 q4 q5 q6 q7 q8 q9 q10 q11 q12 q13 q14 q15 ql hf
      show bodyPost _ _ _ _ _ (putQA w2 g o (.slice A4 o.f6.length c4))
      have hs1 : (putQA w2 g o (.slice A4 o.f6.length c4)).heap.size = w2.heap.size := by simp [putQA, World.setCell]
      refine bodyPost_end (results_none rfl _ _ _) rfl ⟨rfl, fr', fv', .slice Ak 0 ck, .slice A4 o.f6.length c4, ?_, ?_, ?_⟩
      · rw [← HO.out]
        exact HQ2.out.setAll (own_weaken HUO.out (Nat.zero_le _)) (fun i hi => by
          rcases hi with hi | hi
          · exact .inl hi
          · exact .inr ⟨hi.1, by rw [hs1]; have := HSB.out; omega⟩) (fun k hk => by
          have h1 := own_base HUO.out k hk
          have h2 := own_lt HUO.out k hk
          have h3 := HC.out.size
          exact .inr ⟨by omega, by rw [hs1]; exact h2⟩) (n := wr.heap.size) HQ.out.lt (fun k hk => own_base HUO.out k hk)
      · have := HTS.out
        exact this
      · exact HC2.out.trans (putQA_chg w2 g o (.slice A4 o.f6.length c4)) (fun i hi h => by
          subst h
          rcases HQ.out.fg with h | h
          · exact h
          · omega)
    · rw [List.concat_eq_append] at HQ HTS HLE
      have hln : (bk'' ++ [p]).length = bk''.length + 1 := by simp
      have hko := HQ.out.ko
      obtain ⟨Ak, ck, hkv, hck⟩ := row_form hko
      subst hkv
      rcases hko.2 with ⟨_, h0⟩ | ⟨b, cap, cur, hv, hb', hcur, _⟩
      · rw [hln] at h0
        omega
      injection hv with hv1 _ hv3
      subst hv1 hv3
      rw [hln] at HQ hko hck
      have hgd : (bk'' ++ [p]).getD bk''.length z28v = p := by simp [List.getD_eq_getElem?_getD]
      have hcl := acc_cells_at hko (i := bk''.length) (by rw [hln]; omega)
      rw [hgd] at hcl
      have hpo := HQ.out.ke p (by simp)
      obtain ⟨A3, c3, hu, hl3, hr3⟩ := hpo.reads
      obtain ⟨p1, p2⟩ := p
      simp only at hu hl3 hr3 hcl
      subst hu
      have e1 := hcl 0 (by omega) _ rfl
      have e2 := hcl 1 (by omega) _ rfl
      have e3 := hcl 2 (by omega) _ rfl
      have e4 := hcl 3 (by omega) _ rfl
      have e5 := hcl 4 (by omega) _ rfl
      have e6 := hcl 5 (by omega) _ rfl
      have e7 := hcl 6 (by omega) _ rfl
      have e8 := hcl 7 (by omega) _ rfl
      have e9 := hcl 8 (by omega) _ rfl
      have e10 := hcl 9 (by omega) _ rfl
      have e11 := hcl 10 (by omega) _ rfl
      have e12 := hcl 11 (by omega) _ rfl
      have e13 := hcl 12 (by omega) _ rfl
      simp only [Nat.add_zero] at e1
      obtain ⟨q0, q1, q2, q3, q4, q5, q6, q7, q8, q9, q10, q11, q12, q13, q14, q15, ql⟩ := qO_facts HQ.out.blk
      have hnb : bk''.length ≤ 500000 := by have := HLE.out; rw [hln] at this; omega
      have HP := Lib.hid hpo
      have HCK := Lib.hid hck
      generalize hnn : bk''.length = n at *
      have hd : decide ((0 : Int) < ((n + 1 : Nat) : Int)) = true := decide_eq_true (by omega)
      have hd' : decide ((0 : Int) < (n : Int) + 1) = true := decide_eq_true (by omega)
      have hw1 : wrap64 ((n : Int) + 1 - 1) = (n : Int) := by unfold wrap64; omega
      have HNN := Lib.hid hnn
      clear hcl hgd hln hko hb' hcur hpo hl3 hr3 hnn hck
      go_wp2_with fail
      refine Txt.wp_region_mix (by kernel_rfl) (by kernel_rfl) (fun HB => ?_)
      repeat (first
        | (refine Txt.mix_p (by rfl) rfl rfl (fun K hK => ?_); go_big_quiet_op; refine hK _ ?_; clear hK K)
        | (refine Txt.mix_re (by rfl) (by decide +kernel) (by rfl) (by rfl) (by go_simp) HB (fun K hK => ?_); go_big_quiet_op; refine hK _ ?_; clear hK K)
        | (refine Txt.mix_rl (by rfl) (by decide +kernel) (by rfl) (by rfl) (by go_simp) HB (fun K hK => ?_); go_big_quiet_op; refine hK _ ?_; clear hK K)
        | (refine Txt.mix_pass (by rfl) (by rfl) ?_; simp only [List.set_cons_succ, List.set_cons_zero]))
      refine Txt.mix_m (fun g => .pointer (some ⟨g, 0, none⟩)) (acO z36 (.slice none 0 0)) (by rfl) (by decide +kernel) (fun w1 => by unfold acO; go_simp; rfl) HB ?_
      intro ab w7 hb7 hg7 ho7
      replace HB := HB.trans hb7
      have hab : wr.heap.size ≤ ab := hg7
      clear hb7 hg7
      simp only [Act.put, List.setIfInBounds_toArray, List.set_cons_succ, List.set_cons_zero]
      repeat (first
        | (refine Txt.mix_p (by rfl) rfl rfl (fun K hK => ?_); go_big_quiet_op; refine hK _ ?_; clear hK K)
        | (refine Txt.mix_re (by rfl) (by decide +kernel) (by rfl) (by rfl) (by go_simp) HB (fun K hK => ?_); go_big_quiet_op; refine hK _ ?_; clear hK K)
        | (refine Txt.mix_rl (by rfl) (by decide +kernel) (by rfl) (by rfl) (by go_simp) HB (fun K hK => ?_); go_big_quiet_op; refine hK _ ?_; clear hK K)
        | (refine Txt.mix_pass (by rfl) (by rfl) ?_; simp only [List.set_cons_succ, List.set_cons_zero]))
      refine Txt.mix_a (by rfl) (by decide +kernel) (fun K hK => ?_)
      obtain ⟨z0, z1, z2, z3, z4, z5, z6, z7, z8, z9, z10, z11, z12, zl⟩ := acO_facts ho7
      have hf := fun j => blk_free ho7 j
      go_wp2_with fail
      clear z0 z1 z2 z3 z4 z5 z6 z7 z8 z9 z10 z11 z12 zl hf e1 e2 e3 e4 e5 e6 e7 e8 e9 e10 e11 e12 e13 q0 q1 q2 q3 q4 q5 q6 q7 q8 q9 q10 q11 q12 q13 q14 q15 ql hd hd'
      show Txt.wpMix _ _ _ _ _ _ _ (putA w7 ab p1 (.slice A3 p1.f6.length c3))
      have hvr := putA_blk (a := p1) (v := .slice A3 p1.f6.length c3) ho7
      have hc7 := putA_chg w7 ab p1 (.slice A3 p1.f6.length c3)
      have hb8 : Below wr.heap.size wr (putA w7 ab p1 (.slice A3 p1.f6.length c3)) := Chg.base HB.undrew hc7 HB.undrew.size (fun i hi => by omega)
      have HVR := Lib.hid hvr
      have HB8 := Lib.hid hb8
      clear HB hc7 hb8 ho7 hvr hab
      generalize putA w7 ab p1 (.slice A3 p1.f6.length c3) = w8 at *
      refine Txt.mix_nil ?_
      have HQ8 := Lib.hid (HQ.out.below HB8.out)
      obtain ⟨q0, q1, q2, q3, q4, q5, q6, q7, q8, q9, q10, q11, q12, q13, q14, q15, ql⟩ := qO_facts HQ8.out.blk
      have hf := fun j => blk_free HQ8.out.blk j
      have hle1 : (n : Int) ≤ (ck : Int) := by have := HCK.out; omega
      go_wp2_with fail
      refine Txt.wp_region_mix (by kernel_rfl) (by kernel_rfl) (fun HB => ?_)
      repeat (first
        | (refine Txt.mix_p (by rfl) rfl rfl (fun K hK => ?_); go_big_quiet_op; refine hK _ ?_; clear hK K)
        | (refine Txt.mix_re (by rfl) (by decide +kernel) (by rfl) (by rfl) (by go_simp) HB (fun K hK => ?_); go_big_quiet_op; refine hK _ ?_; clear hK K)
        | (refine Txt.mix_rl (by rfl) (by decide +kernel) (by rfl) (by rfl) (by go_simp) HB (fun K hK => ?_); go_big_quiet_op; refine hK _ ?_; clear hK K)
        | (refine Txt.mix_pass (by rfl) (by rfl) ?_; simp only [List.set_cons_succ, List.set_cons_zero]))
      refine Txt.mix_a (by rfl) (by decide +kernel) (fun K hK => ?_)
      go_wp2_with fail
      clear q0 q1 q2 q3 q4 q5 q6 q7 q8 q9 q10 q11 q12 q13 q14 q15 ql hf HB hle1
      show Txt.wpMix _ _ _ _ _ _ _ (World.drew (w8.setCell ⟨g, 2, none⟩ (.slice (some ⟨b, 0, none⟩) n ck)))
      have hcb := (show QAt w8 (Gr F w wr) g bs fr' (bk'' ++ [(p1, .slice A3 p1.f6.length c3)]) al bv fv' (.slice (some ⟨b, 0, none⟩) (bk''.length + 1) ck) av from by rw [HNN.out]; exact HQ8.out).cutBack
      rw [HNN.out] at hcb
      have hdr : Below (w8.setCell ⟨g, 2, none⟩ (.slice (some ⟨b, 0, none⟩) n ck)).heap.size (w8.setCell ⟨g, 2, none⟩ (.slice (some ⟨b, 0, none⟩) n ck)) (World.drew (w8.setCell ⟨g, 2, none⟩ (.slice (some ⟨b, 0, none⟩) n ck))) := (Below.refl _ _).drew
      have HQ9 := Lib.hid (hcb.1.below hdr)
      have HP9 := Lib.hid (Own.below hcb.2 hdr)
      have hne : ab ≠ g := fun e => by
        have h1 := HVR.out
        rw [e, HQ8.out.blk] at h1
        unfold qO acO at h1
        injection h1 with h1
        injection h1 with _ h1
        exact absurd h1 (by decide)
      have HVR9 := Lib.hid (blk_drew1 (blk_far HVR.out (p := ⟨g, 2, none⟩) hne (.slice (some ⟨b, 0, none⟩) n ck)))
      have HC9 := Lib.hid (((HC.out.below HB8.out).setCell (p := ⟨g, 2, none⟩) HQ.out.fg.elim_ (.slice (some ⟨b, 0, none⟩) n ck)).drew)
      have HSZ9 := Lib.hid (show wr.heap.size ≤ (World.drew (w8.setCell ⟨g, 2, none⟩ (.slice (some ⟨b, 0, none⟩) n ck))).heap.size from by have := HB8.out.size; simpa [World.drew, World.setCell] using this)
      clear hcb hdr hne HVR HQ8
      generalize World.drew (w8.setCell ⟨g, 2, none⟩ (.slice (some ⟨b, 0, none⟩) n ck)) = w9 at *
      repeat (first
        | (refine Txt.mix_p (by rfl) rfl rfl (fun K hK => ?_); go_big_quiet_op; refine hK _ ?_; clear hK K)
        | (refine Txt.mix_re (by rfl) (by decide +kernel) (by rfl) (by rfl) (by go_simp) HB (fun K hK => ?_); go_big_quiet_op; refine hK _ ?_; clear hK K)
        | (refine Txt.mix_rl (by rfl) (by decide +kernel) (by rfl) (by rfl) (by go_simp) HB (fun K hK => ?_); go_big_quiet_op; refine hK _ ?_; clear hK K)
        | (refine Txt.mix_pass (by rfl) (by rfl) ?_; simp only [List.set_cons_succ, List.set_cons_zero]))
      refine Txt.mix_nil ?_
      have hff := HQ9.out.fo
      obtain ⟨Af, cf, hfv, hcf⟩ := row_form hff
      subst hfv
      obtain ⟨q0, q1, q2, q3, q4, q5, q6, q7, q8, q9, q10, q11, q12, q13, q14, q15, ql⟩ := qO_facts HQ9.out.blk
      obtain ⟨e1, e2, e3, e4, e5, e6, e7, e8, e9, e10, e11, e12, e13, el⟩ := acO_facts HVR9.out
      have hnf : fr'.length ≤ 500000 := by have := HLE.out; rw [List.length_append] at this; omega
      have HNF := Lib.hid hnf
      clear hff hcf hnf
      go_wp2_with fail
      refine Txt.wp_region_mix (by kernel_rfl) (by kernel_rfl) (fun HB => ?_)
      repeat (first
        | (refine Txt.mix_p (by rfl) rfl rfl (fun K hK => ?_); go_big_quiet_op; refine hK _ ?_; clear hK K)
        | (refine Txt.mix_re (by rfl) (by decide +kernel) (by rfl) (by rfl) (by go_simp) HB (fun K hK => ?_); go_big_quiet_op; refine hK _ ?_; clear hK K)
        | (refine Txt.mix_rl (by rfl) (by decide +kernel) (by rfl) (by rfl) (by go_simp) HB (fun K hK => ?_); go_big_quiet_op; refine hK _ ?_; clear hK K)
        | (refine Txt.mix_pass (by rfl) (by rfl) ?_; simp only [List.set_cons_succ, List.set_cons_zero]))
      refine Txt.mix_c (by rfl) (by decide +kernel) HB ?_
      intro wa hwa K hK
      replace HB := HB.trans hwa
      clear hwa
      go_wp2_with fail
      refine (qhead_any (HQ9.out.below HB.undrew) (by have := HNF.out; omega)).mono ?_
      rintro e wb ⟨A1, c1, rfl, hl1, hr1, hb⟩
      refine hK _ _ ⟨hb, ?_⟩
      replace HB := HB.trans hb
      obtain ⟨hd, hhd⟩ : ∃ hd, hd = headA bs fr' := ⟨_, rfl⟩
      rw [← hhd] at hl1 hr1 ⊢
      have HHD := Lib.hid hhd
      have HR1 := Lib.hid (And.intro hl1 hr1)
      clear hK K hb hl1 hr1 hhd
      simp only [acV]
      repeat (first
        | (refine Txt.mix_p (by rfl) rfl rfl (fun K hK => ?_); go_big_quiet_op; refine hK _ ?_; clear hK K)
        | (refine Txt.mix_re (by rfl) (by decide +kernel) (by rfl) (by rfl) (by go_simp) HB (fun K hK => ?_); go_big_quiet_op; refine hK _ ?_; clear hK K)
        | (refine Txt.mix_rl (by rfl) (by decide +kernel) (by rfl) (by rfl) (by go_simp) HB (fun K hK => ?_); go_big_quiet_op; refine hK _ ?_; clear hK K)
        | (refine Txt.mix_pass (by rfl) (by rfl) ?_; simp only [List.set_cons_succ, List.set_cons_zero]))
      refine Txt.mix_m (fun g => .slice (some ⟨g, 0, none⟩) 2 2) (.cells #[.int .i64 p1.f0, .int .i64 p1.f1, .int .i64 p1.f2, .int .i64 p1.f3, .int .i64 p1.f4.f0, .int .i64 p1.f4.f1, .int .i64 p1.f4.f2, .int .i64 p1.f4.f3, .int .i64 p1.f5.f0, .int .i64 p1.f5.f1, .int .i64 p1.f5.f2, .int .i64 p1.f5.f3, .slice A3 p1.f6.length c3, .int .i64 hd.f0, .int .i64 hd.f1, .int .i64 hd.f2, .int .i64 hd.f3, .int .i64 hd.f4.f0, .int .i64 hd.f4.f1, .int .i64 hd.f4.f2, .int .i64 hd.f4.f3, .int .i64 hd.f5.f0, .int .i64 hd.f5.f1, .int .i64 hd.f5.f2, .int .i64 hd.f5.f3, .slice A1 hd.f6.length c1] 36) (by rfl) (by decide +kernel) (fun w1 => by go_simp) HB ?_
      intro pb wc hb2 hg2 ho2
      replace HB := HB.trans hb2
      obtain ⟨_, _, ea, hal1, hra1⟩ := (Own.below HP9.out HB.undrew).reads
      injection ea with ea1 _ ea3
      subst ea1 ea3
      have hrd2 : RdA wc (some ⟨pb, 0, none⟩) [p1, hd] := rdA_two (x := p1) (y := hd) ho2 hal1 hra1 HR1.out.1 (RdI.below HR1.out.2 hb2)
      have HRD2 := Lib.hid hrd2
      clear hrd2 hb2 hg2 ho2 hal1 hra1
      simp only [Act.put, List.setIfInBounds_toArray, List.set_cons_succ, List.set_cons_zero]
      repeat (first
        | (refine Txt.mix_p (by rfl) rfl rfl (fun K hK => ?_); go_big_quiet_op; refine hK _ ?_; clear hK K)
        | (refine Txt.mix_re (by rfl) (by decide +kernel) (by rfl) (by rfl) (by go_simp) HB (fun K hK => ?_); go_big_quiet_op; refine hK _ ?_; clear hK K)
        | (refine Txt.mix_rl (by rfl) (by decide +kernel) (by rfl) (by rfl) (by go_simp) HB (fun K hK => ?_); go_big_quiet_op; refine hK _ ?_; clear hK K)
        | (refine Txt.mix_pass (by rfl) (by rfl) ?_; simp only [List.set_cons_succ, List.set_cons_zero]))
      refine Txt.mix_c (by rfl) (by decide +kernel) HB ?_
      intro wd hwd K hK
      replace HRD2 := Lib.hid (HRD2.out.below hwd)
      replace HB := HB.trans hwd
      clear hwd
      go_wp2_with fail
      refine (qjoin_any (HQ9.out.below HB.undrew) [p1, hd] (some ⟨pb, 0, none⟩) 2 HRD2.out (by simp)).mono ?_
      rintro e we ⟨u, rfl, how, hb⟩
      refine hK _ _ ⟨hb, ?_⟩
      obtain ⟨o, ho⟩ : ∃ o, o = (joinRes bs [p1, hd]).1 := ⟨_, rfl⟩
      rw [← ho] at how ⊢
      have HO := Lib.hid ho
      have HUB := Lib.hid (show ∀ k, u.ownBlock = some k → w9.heap.size ≤ k from fun k hk => Nat.le_trans HB.undrew.size (own_base how k hk))
      have HUO := Lib.hid (show Own we 0 u o.f6 from own_weaken how (Nat.zero_le _))
      obtain ⟨A4, c4, rfl, _, _⟩ := how.reads
      replace HB := HB.trans hb
      clear hK K hb how ho
      simp only [acV]
      repeat (first
        | (refine Txt.mix_p (by rfl) rfl rfl (fun K hK => ?_); go_big_quiet_op; refine hK _ ?_; clear hK K)
        | (refine Txt.mix_re (by rfl) (by decide +kernel) (by rfl) (by rfl) (by go_simp) HB (fun K hK => ?_); go_big_quiet_op; refine hK _ ?_; clear hK K)
        | (refine Txt.mix_rl (by rfl) (by decide +kernel) (by rfl) (by rfl) (by go_simp) HB (fun K hK => ?_); go_big_quiet_op; refine hK _ ?_; clear hK K)
        | (refine Txt.mix_pass (by rfl) (by rfl) ?_; simp only [List.set_cons_succ, List.set_cons_zero]))
      refine Txt.mix_m (fun g => .slice (some ⟨g, 0, none⟩) 1 1) (.cells (accC p1 (.slice A3 p1.f6.length c3) ++ accC o (.slice A4 o.f6.length c4)).toArray 90) (by rfl) (by decide +kernel) (fun w1 => by unfold accC; go_simp) HB ?_
      intro pe wf hb3 hg3 ho3
      replace HB := HB.trans hb3
      have HPE := Lib.hid ho3
      replace HUO := Lib.hid (Own.below HUO.out hb3)
      clear hb3 hg3 ho3
      simp only [Act.put, List.setIfInBounds_toArray, List.set_cons_succ, List.set_cons_zero]
      repeat (first
        | (refine Txt.mix_p (by rfl) rfl rfl (fun K hK => ?_); go_big_quiet_op; refine hK _ ?_; clear hK K)
        | (refine Txt.mix_re (by rfl) (by decide +kernel) (by rfl) (by rfl) (by go_simp) HB (fun K hK => ?_); go_big_quiet_op; refine hK _ ?_; clear hK K)
        | (refine Txt.mix_rl (by rfl) (by decide +kernel) (by rfl) (by rfl) (by go_simp) HB (fun K hK => ?_); go_big_quiet_op; refine hK _ ?_; clear hK K)
        | (refine Txt.mix_pass (by rfl) (by rfl) ?_; simp only [List.set_cons_succ, List.set_cons_zero]))
      refine Txt.mix_a (by rfl) (by decide +kernel) (fun K hK => ?_)
      have hqf := HQ9.out.below HB.undrew
      refine wp_append (.tmp 39) (.tmp 48) 85 90 _ 26 240 0 rfl Try.underlying85 info_ent rfl (by decide) (.slice Af fr'.length cf) fr'.length 1 (flatE fr') (accC p1 (.slice A3 p1.f6.length c3) ++ accC o (.slice A4 o.f6.length c4)) pe 1 rfl rfl hqf.fo (Nat.zero_le _) (by rw [List.length_append, accC_len, accC_len]) ?_ ?_ (by have := HNF.out; omega) (by have := HNF.out; omega) ?_
      · intro j u hu
        rw [blk_cell HPE.out]
        exact (List.getElem?_toArray).trans hu
      · intro u hu
        simp only [accC, List.mem_append, List.mem_cons, List.not_mem_nil, or_false] at hu
        rcases hu with (rfl | rfl | rfl | rfl | rfl | rfl | rfl | rfl | rfl | rfl | rfl | rfl | rfl) | (rfl | rfl | rfl | rfl | rfl | rfl | rfl | rfl | rfl | rfl | rfl | rfl | rfl) <;> rfl
      intro v1 wh hown hgr hat
      refine hK _ _ ?_
      obtain ⟨A9, c9, hv9, _⟩ := row_form hown
      have hcg : Chg (fun k => some k = (Value.slice Af fr'.length cf).ownBlock) wf wh := (Chg.refl _ wf).grown hgr (fun k hk => .inl hk.symm)
      have hrn : ∀ {q : Array Value} {T : TypeId} {i : Nat}, wf.heap[i]? = some (.cells q T (0, 0)) → 90 ≠ T → wh.heap[i]? = some (.cells q T (0, 0)) := fun hi hT => hcg.obj hi (fun e => row_noq hqf.fo hi hT e)
      have hog : ∀ {v : Value} {l : List Int}, Own wf 0 v l → Own wh 0 v l := fun hv => hv.keep hcg (fun k hk e => by
        rcases own_type_ne hv hqf.fo (by decide) with hn | hn
        · rw [hn] at hk; cases hk
        · exact hn (hk.trans e))
      have hkg : wh.ownsRow 0 36 13 (.slice (some ⟨b, 0, none⟩) n ck) n (flatA bk'') := by
        have hk0 := hqf.ko
        rw [HNN.out] at hk0
        refine row_keep hk0 hcg (fun k hk e => ?_)
        rcases own_type_ne hk0 hqf.fo (by decide) with hn | hn
        · rw [hn] at hk; cases hk
        · exact hn (hk.trans e)
      -- the queue without its front, behind the append
      have hblk := hrn hqf.blk (by decide)
      have hpo := hog (Own.below HP9.out HB.undrew)
      have huo := hog HUO.out
      have hboh := hog hqf.bo
      have haoh := hog hqf.ao
      have hfe : ∀ e ∈ fr', Own wh 0 e.1.2 e.1.1.f6 ∧ Own wh 0 e.2.2 e.2.1.f6 := fun e he => ⟨hog (hqf.fe e he).1, hog (hqf.fe e he).2⟩
      have hke : ∀ q ∈ bk'', Own wh 0 q.2 q.1.f6 := fun q hq => hog (hqf.ke q hq)
      have hszf : w9.heap.size ≤ wf.heap.size := HB.undrew.size
      have hszh : wf.heap.size ≤ wh.heap.size := hcg.size
      have hfin : QAt (wh.setCell ⟨g, 1, none⟩ v1) (Gr F w (wh.setCell ⟨g, 1, none⟩ v1)) g bs (fr' ++ [((p1, .slice A3 p1.f6.length c3), (o, .slice A4 o.f6.length c4))]) bk'' al bv v1 (.slice (some ⟨b, 0, none⟩) n ck) av := by
        have hs1 : (wh.setCell ⟨g, 1, none⟩ v1).heap.size = wh.heap.size := by simp [World.setCell]
        have hwr := HC.out.size
        have h9 := HSZ9.out
        have hold : ∀ i, Gr F w wr i → Gr F w (wh.setCell ⟨g, 1, none⟩ v1) i := fun i hi => by
          rcases hi with hi | hi
          · exact .inl hi
          · exact .inr ⟨hi.1, by rw [hs1]; omega⟩
        have hc : Chg (fun k => k = g) wh (wh.setCell ⟨g, 1, none⟩ v1) := (Chg.refl (fun k => k = g) wh).setCell (p := ⟨g, 1, none⟩) (.inl rfl) _
        have ho : ∀ {v : Value} {l : List Int}, Own wh 0 v l → Own (wh.setCell ⟨g, 1, none⟩ v1) 0 v l := fun hv => hv.keep hc (fun k hk e => row_noq hv hblk (by decide) (by rw [hk, e]))
        have hb2 := blk_set hblk 1 v1
        simp only [List.setIfInBounds_toArray, List.set_cons_zero, List.set_cons_succ] at hb2
        have hperm := hbs_turn bv fr' bk'' (p1, .slice A3 p1.f6.length c3) (o, .slice A4 o.f6.length c4) av
        have hnd0 := HQ.out.nd
        have hlt0 := HQ.out.lt
        have hun : ∀ k, (Value.slice A4 o.f6.length c4).ownBlock = some k → w9.heap.size ≤ k ∧ k < wh.heap.size := fun k hk => ⟨HUB.out k hk, own_lt huo k hk⟩
        refine ⟨hb2, ho hboh, ?_, ?_, fun e he => ?_, fun q hq => ho (hke q hq), ho haoh, hold _ HQ.out.fg, fun k hk => ?_, fun k hk => hold _ (HQ.out.fk k hk), fun k hk => ?_, ?_⟩
        · have e1 : flatE (fr' ++ [((p1, .slice A3 p1.f6.length c3), (o, .slice A4 o.f6.length c4))]) = flatE fr' ++ (accC p1 (.slice A3 p1.f6.length c3) ++ accC o (.slice A4 o.f6.length c4)) := by
            unfold flatE
            rw [List.flatMap_append]
            simp
          rw [List.length_append, e1]
          exact row_keep hown hc (fun k hk' e => row_noq hown hblk (by decide) (by rw [hk', e]))
        · rw [HNN.out]
          exact row_keep hkg hc (fun k hk e => row_noq hkg hblk (by decide) (by rw [hk, e]))
        · rcases List.mem_append.1 he with he | he
          · exact ⟨ho (hfe e he).1, ho (hfe e he).2⟩
          · rw [List.mem_singleton.1 he]
            exact ⟨ho hpo, ho huo⟩
        · rcases hat with h | h
          · exact hold _ (HQ9.out.ff k (h.symm.trans hk))
          · rw [hk] at h
            have e1 : k = wf.heap.size := by simpa using h
            have := own_lt hown k hk
            exact .inr ⟨by omega, by rw [hs1]; omega⟩
        · rcases List.mem_append.1 (hperm.mem_iff.1 hk) with hk | hk
          · exact hold _ (HQ.out.fh k hk)
          · have hk' : (Value.slice A4 o.f6.length c4).ownBlock = some k := by simpa using hk
            have := hun k hk'
            exact .inr ⟨by omega, by rw [hs1]; omega⟩
        · refine (hperm.nodup_iff).2 (nd_new (n := wr.heap.size) hnd0 ?_ hlt0 (fun k hk => ?_))
          · cases (Value.slice A4 o.f6.length c4).ownBlock <;> simp
          · have hk' : (Value.slice A4 o.f6.length c4).ownBlock = some k := by simpa using hk
            have := hun k hk'
            omega
      have hcz : Chg F w (wh.setCell ⟨g, 1, none⟩ v1) := (Chg.grown (HC9.out.below HB.undrew) hgr (fun k hk => (HQ9.out.ff k hk).elim_)).setCell (p := ⟨g, 1, none⟩) HQ.out.fg.elim_ v1
      have HFIN := Lib.hid hfin
      have HCZ := Lib.hid hcz
      have hq1 := (qO_facts hblk).2.1
      have hg1 := blk_free hblk 1
      have hgl := blk_lt hblk
      clear hcz hfin hszh hszf hke hfe haoh hboh huo hpo hkg hog hrn hcg hqf hK K HB hown hgr hat hblk e1 e2 e3 e4 e5 e6 e7 e8 e9 e10 e11 e12 e13 el q0 q1 q2 q3 q4 q5 q6 q7 q8 q9 q10 q11 q12 q13 q14 q15 ql
      subst hv9
      simp only [Act.put, List.setIfInBounds_toArray, List.set_cons_succ, List.set_cons_zero]
      repeat (first
        | (refine Txt.mix_p (by rfl) rfl rfl (fun K hK => ?_); go_big_quiet_op; refine hK _ ?_; clear hK K)
        | (refine Txt.mix_re (by rfl) (by decide +kernel) (by rfl) (by rfl) (by go_simp) HB (fun K hK => ?_); go_big_quiet_op; refine hK _ ?_; clear hK K)
        | (refine Txt.mix_rl (by rfl) (by decide +kernel) (by rfl) (by rfl) (by go_simp) HB (fun K hK => ?_); go_big_quiet_op; refine hK _ ?_; clear hK K)
        | (refine Txt.mix_pass (by rfl) (by rfl) ?_; simp only [List.set_cons_succ, List.set_cons_zero]))
      refine Txt.mix_a (by rfl) (by decide +kernel) (fun K hK => ?_)
      go_wp2_with fail
      generalize wh.setCell ⟨g, 1, none⟩ (.slice A9 (fr'.length + 1) c9) = wz at *
      refine Txt.mix_nil ?_
      go_wp2_with fail
      have h1 : lenAt wz g = n := by unfold lenAt; rw [(qO_facts HFIN.out.blk).2.2.1]
      have h2 : lenAt wr g = n + 1 := by unfold lenAt; rw [(qO_facts HQ.out.blk).2.2.1]
      refine ⟨⟨_, _, _, _, HFIN.out, ?_, ?_, HCZ.out⟩, by omega⟩
      · show _ = _
        rw [← HTS.out, turn_step bs fr' bk'' (p1, .slice A3 p1.f6.length c3) (.slice A4 o.f6.length c4), ← HHD.out, ← HO.out]
      · show _ ≤ _
        have := HLE.out
        simp only [List.length_append, List.length_cons, List.length_nil] at this ⊢
        omega
end
end Go.Proofs.Ytfgabafbcephaaa.My

namespace Go.Proofs.Ytfgabafbcephaaa.My
open Go.RowKit Pa Go.Proofs.YtfgabafbcephaaaW.PrintWords
set_option linter.unusedSimpArgs false
theorem shE_snoc (fr : List (AV × AV)) (p1 : S36) (p2 : Value) (q : AV) : shE (fr ++ [((p1, p2), q)]) = shE fr ++ [(p1, q.1)] := by simp [shE]
theorem at_ld {ops : Array Oper} {Q : Exit → Act → World → Prop} {o : Oper} {rest : List Oper} {a : Act} {w : World} (t : TypeId) (s : Tmp) (_ : o.op = Op.load t (.tmp s)) (h : AtOp ops Q o rest a w) : wpList Try.prog ops Q (o :: rest) a w := h.out
theorem turnS_len (bs : List Int) : ∀ (l : List S36) (fs : List (S36 × S36)), (turnS bs fs l).length = fs.length + l.length
  | [], fs => rfl
  | a :: r, fs => by
    unfold turnS
    rw [turnS_len bs r]
    simp
    omega
def popS (bs : List Int) (fs : List (S36 × S36)) (bk : List S36) (al : S36) : List (S36 × S36) × List S36 × S36 := if fs = [] then (turnS bs fs bk.reverse, [], (joinRes bs []).1) else (fs, bk, al)
theorem hbs_front (bv : Value) (fr : List (AV × AV)) (bk : List AV) (p q : AV) (av : Value) : (hbs bv (fr ++ [(p, q)]) bk av).Perm (p.2.ownBlock.toList ++ (q.2.ownBlock.toList ++ hbs bv fr bk av)) := by
  refine List.perm_iff_count.2 fun a => ?_
  unfold hbs
  simp only [List.count_append, List.flatMap_append, List.flatMap_cons, List.flatMap_nil, List.append_nil]
  omega
section
variable {w : World} {F : Nat → Prop} {g : Nat} {bs : List Int} {fr : List (AV × AV)} {bk : List AV} {al : S36} {bv fv kv av : Value}
theorem QAt.cutFront {p q : AV} {b cap : Nat} (h : QAt w F g bs (fr ++ [(p, q)]) bk al bv (.slice (some ⟨b, 0, none⟩) (fr.length + 1) cap) kv av) :
    QAt (w.setCell ⟨g, 1, none⟩ (.slice (some ⟨b, 0, none⟩) fr.length cap)) (fun i => F i ∧ ¬ some i = p.2.ownBlock) g bs fr bk al bv (.slice (some ⟨b, 0, none⟩) fr.length cap) kv av ∧ Own (w.setCell ⟨g, 1, none⟩ (.slice (some ⟨b, 0, none⟩) fr.length cap)) 0 p.2 p.1.f6 := by
  have hc : Chg (fun k => k = g) w (w.setCell ⟨g, 1, none⟩ (.slice (some ⟨b, 0, none⟩) fr.length cap)) := (Chg.refl (fun k => k = g) w).setCell (p := ⟨g, 1, none⟩) (.inl rfl) _
  have ho : ∀ {v : Value} {l : List Int}, Own w 0 v l → Own (w.setCell ⟨g, 1, none⟩ (.slice (some ⟨b, 0, none⟩) fr.length cap)) 0 v l := fun hv => hv.keep hc (fun k hk e => row_noq hv h.blk (by decide) (by rw [hk, e]))
  have hpo := (h.fe (p, q) (by simp)).1
  have hfo := h.fo
  rw [List.length_append, List.length_singleton] at hfo
  have hf2 := row_less hfo (Nat.le_succ fr.length)
  rw [flatE_take] at hf2
  have hb2 := blk_set h.blk 1 (.slice (some ⟨b, 0, none⟩) fr.length cap)
  simp only [List.setIfInBounds_toArray, List.set_cons_zero, List.set_cons_succ] at hb2
  have hperm := hbs_front bv fr bk p q av
  have hnd := (hperm.nodup_iff).1 h.nd
  rw [List.nodup_append] at hnd
  obtain ⟨-, n2, n3⟩ := hnd
  rw [List.nodup_append] at n2
  have hrow : ∀ {e : TypeId} {size n : Nat} {v : Value} {cs : List Value} {k : Nat}, w.ownsRow 0 e size v n cs → 3 ≠ e → v.ownBlock = some k → ¬ some k = p.2.ownBlock := fun hr hT hk e => by
    rcases own_type_ne hpo hr hT with hn | hn
    · rw [hn] at e; cases e
    · exact hn (e.symm.trans hk.symm)
  refine ⟨⟨hb2, ho h.bo, row_keep hf2 hc (fun k hk e => row_noq hf2 h.blk (by decide) (by rw [hk, e])), row_keep h.ko hc (fun k hk e => row_noq h.ko h.blk (by decide) (by rw [hk, e])), fun e he => ⟨ho (h.fe e (List.mem_append_left _ he)).1, ho (h.fe e (List.mem_append_left _ he)).2⟩, fun q hq => ho (h.ke q hq), ho h.ao, ⟨h.fg, row_noq hpo h.blk (by decide)⟩, fun k hk => ⟨h.ff k hk, hrow hfo (by decide) hk⟩, fun k hk => ⟨h.fk k hk, hrow h.ko (by decide) hk⟩, fun k hk => ⟨h.fh k (hperm.mem_iff.2 (List.mem_append_right _ (List.mem_append_right _ hk))), fun e => ?_⟩, n2.2.1⟩, ho hpo⟩
  exact n3 k (by rw [← e]; simp) k (List.mem_append_right _ hk) rfl
set_option maxHeartbeats 16000000 in
set_option maxRecDepth 100000 in
theorem qpop_any (h : QAt w F g bs fr bk al bv fv kv av) (hN : fr.length + bk.length ≤ 500000) :
    Calls Try.prog 15 #[.pointer (some ⟨g, 0, none⟩)] w fun e w' =>
      (fr = [] ∧ bk = [] ∧ e = .returned (.tuple #[acV z36 (.slice none 0 0), .int .i64 1701]) ∧ Below w.heap.size w w') ∨
      ∃ (a j : S36) (v : Value) (fr' : List (AV × AV)) (bk' : List AV) (al' : S36) (fv' kv' av' : Value), e = .returned (.tuple #[acV a v, .int .i64 0]) ∧ (shE fr' ++ [(a, j)], shA bk', al') = popS bs (shE fr) (shA bk) al ∧ Own w' 0 v a.f6 ∧ (∀ k, v.ownBlock = some k → Gr F w w' k) ∧
        QAt w' (fun i => Gr F w w' i ∧ ¬ some i = v.ownBlock) g bs fr' bk' al' bv fv' kv' av' ∧ Chg F w w' := by
  have hB : Below w.heap.size w (w.alloc (acO z36 (.slice none 0 0))) := (Below.refl w.heap.size w).alloc (Nat.le_refl _) _
  have hz : (w.alloc (acO z36 (.slice none 0 0))).heap[w.heap.size]? = some (acO z36 (.slice none 0 0)) := heap_alloc_new w _
  have HH := Lib.hid ((h.mono (G := fun i => F i ∧ i < w.heap.size) (fun i hi hf => ⟨hf, hi⟩)).below hB)
  have HX := Lib.hid hB
  have HZ := Lib.hid hz
  have HN := Lib.hid hN
  clear h hB hz hN
  go_enter Try.func15, Try.ntmps15
  go_wp2_with fail
  change Calls _ _ _ (w.alloc (acO z36 (.slice none 0 0))) _
  generalize hw1 : w.alloc (acO z36 (.slice none 0 0)) = w1 at *
  clear hw1
  refine (qlen_any HH.out (by have := HN.out; omega)).mono ?_
  rintro e w2 ⟨rfl, hb⟩
  replace HH := Lib.hid (HH.out.below hb)
  replace HZ := Lib.hid (blk_below HZ.out hb)
  replace HX := Lib.hid (HX.out.trans (hb.mono HX.out.size))
  clear hb
  by_cases h0 : fr.length + bk.length = 0
  · have hd : (((fr.length + bk.length : Nat) : Int) == 0) = true := beq_iff_eq.2 (by omega)
    have hf0 : fr = [] := List.eq_nil_of_length_eq_zero (by omega)
    have hb0 : bk = [] := List.eq_nil_of_length_eq_zero (by omega)
    have H0 := Lib.hid (And.intro hf0 hb0)
    obtain ⟨z0, z1, z2, z3, z4, z5, z6, z7, z8, z9, z10, z11, z12, zl⟩ := acO_facts HZ.out
    have hf := fun j => blk_free HZ.out j
    generalize fr.length + bk.length = nn at *
    clear hf0 hb0 h0
    go_wp2_with fail
    show bodyPost _ _ _ _ _ (putA w2 w.heap.size z36 (.slice none 0 0))
    have hz2 := putA_blk (a := z36) (v := .slice none 0 0) HZ.out
    have hch := putA_chg w2 w.heap.size z36 (.slice none 0 0)
    exact bodyPost_ret (results_acc rfl _ _ w.heap.size z36 (.slice none 0 0) rfl hz2) rfl (.inl ⟨H0.out.1, H0.out.2, rfl, Chg.base HX.out hch HX.out.size (fun i hi => by omega)⟩)
  · have hd : (((fr.length + bk.length : Nat) : Int) == 0) = false := beq_eq_false_iff_ne.2 (by omega)
    obtain ⟨nn, hnn⟩ : ∃ nn : Nat, fr.length + bk.length = nn := ⟨_, rfl⟩
    rw [hnn] at hd ⊢
    obtain ⟨Af, cf, hfv, _⟩ := row_form HH.out.fo
    subst hfv
    obtain ⟨-, q1, -, -, -, -, -, -, -, -, -, -, -, -, -, -, ql⟩ := qO_facts HH.out.blk
    by_cases hfr : fr = []
    case' pos =>
      subst hfr
      rw [List.length_nil] at q1
      go_wp2_with fail
      refine (qturn_any HH.out (by have := HN.out; exact this)).mono ?_
      rintro e wx ⟨rfl, fr1, fv1, kv1, av1, hq1, hs1, hc1⟩
      have hl1 : fr1.length = bk.length := by
        have h1 := congrArg List.length hs1
        rw [turnS_len] at h1
        simpa [shE, shA] using h1
      rcases List.eq_nil_or_concat fr1 with rfl | ⟨fr0, ⟨⟨p1, p2⟩, q⟩, rfl⟩
      · exact absurd (by rw [List.length_nil] at hl1 ⊢; omega) h0
      rw [List.concat_eq_append] at hq1 hs1
      have hzl := blk_lt HZ.out
      have H1 := Lib.hid (hq1.mono (G := fun i => (F i ∧ i < w.heap.size) ∨ w.heap.size < i) (fun i hi hf => by
        rcases hf with hf | hf
        · exact .inl hf
        · exact .inr (by omega)))
      have C1 := Lib.hid (show Chg (fun i => F i ∧ i < w.heap.size) w wx from (Chg.of_below HX.out).trans hc1 (fun _ _ h => h))
      have Z1 := Lib.hid (hc1.obj HZ.out (fun h => by omega))
      have R1 := Lib.hid (show (shE (fr0 ++ [((p1, p2), q)]), shA ([] : List AV), (joinRes bs []).1) = popS bs (shE []) (shA bk) al from by
        unfold popS
        rw [if_pos (show shE [] = [] from rfl), hs1]
        rfl)
      clear hq1 hs1 hc1 hl1 hzl q1 ql HH HX HZ hnn h0
    case' neg =>
      have hdf : ((fr.length : Int) == 0) = false := beq_eq_false_iff_ne.2 (fun e => hfr (List.eq_nil_of_length_eq_zero (by omega)))
      rcases List.eq_nil_or_concat fr with h | ⟨fr0, ⟨⟨p1, p2⟩, q⟩, hfe⟩
      · exact absurd h hfr
      rw [List.concat_eq_append] at hfe
      rw [hfe] at HH hdf q1
      generalize w2 = wx at *
      have H1 := Lib.hid (HH.out.mono (G := fun i => (F i ∧ i < w.heap.size) ∨ w.heap.size < i) (fun i hi hf => .inl hf))
      have C1 := Lib.hid (show Chg (fun i => F i ∧ i < w.heap.size) w wx from Chg.of_below HX.out)
      have Z1 := HZ
      have R1 := Lib.hid (show (shE (fr0 ++ [((p1, p2), q)]), shA bk, al) = popS bs (shE fr) (shA bk) al from by
        unfold popS
        rw [if_neg (by rw [hfe]; simp [shE]), hfe])
      clear HH HX HZ hnn h0 ql q1 hdf hfe hfr
    all_goals (
      have hfo := H1.out.fo
      have hln : (fr0 ++ [((p1, p2), q)]).length = fr0.length + 1 := by simp
      obtain ⟨Ag, cg, hgv, hcg⟩ := row_form hfo
      rcases hfo.2 with ⟨_, hx0⟩ | ⟨b, cap, cur, hv, hb', hcur, _⟩
      · rw [hln] at hx0
        omega
      have hcap1 : fr0.length + 1 ≤ cap := by
        rw [hv] at hgv
        injection hgv with _ _ hg3
        rw [hln] at hcg
        rw [hg3]
        exact hcg
      rw [hln] at hv
      clear hgv hcg
      first
        | subst hv
        | (injection hv with hv1 _ hv3; subst hv1; have hv4 := hv3.symm; clear hv3; subst hv4)
      rw [hln] at hfo
      try rw [hln] at H1
      have hcg := hcap1
      have hnl : fr0.length + 1 ≤ 500000 ∨ True := .inr trivial
      have hcl := (ent_cells (es := fr0 ++ [((p1, p2), q)]) hfo (i := fr0.length) (by simp)).1
      have hgd : (fr0 ++ [((p1, p2), q)]).getD fr0.length (z28v, z28v) = ((p1, p2), q) := by simp [List.getD_eq_getElem?_getD]
      rw [hgd] at hcl
      have hpo := (H1.out.fe ((p1, p2), q) (by simp)).1
      obtain ⟨A3, c3, hu, hl3, hr3⟩ := hpo.reads
      have PK := Lib.hid (fun k (hk : p2.ownBlock = some k) => H1.out.fh k (mem_fr1 (e := ((p1, p2), q)) (by simp) hk))
      simp only at hu hl3 hr3 hcl hpo
      subst hu
      have e1 := hcl 0 (by omega) _ rfl
      have e2 := hcl 1 (by omega) _ rfl
      have e3 := hcl 2 (by omega) _ rfl
      have e4 := hcl 3 (by omega) _ rfl
      have e5 := hcl 4 (by omega) _ rfl
      have e6 := hcl 5 (by omega) _ rfl
      have e7 := hcl 6 (by omega) _ rfl
      have e8 := hcl 7 (by omega) _ rfl
      have e9 := hcl 8 (by omega) _ rfl
      have e10 := hcl 9 (by omega) _ rfl
      have e11 := hcl 10 (by omega) _ rfl
      have e12 := hcl 11 (by omega) _ rfl
      have e13 := hcl 12 (by omega) _ rfl
      simp only [Nat.add_zero] at e1
      have hcap := (row_cap hfo).2
      obtain ⟨-, r1, -, -, -, -, -, -, -, -, -, -, -, -, -, -, rl⟩ := qO_facts H1.out.blk
      have HCG := Lib.hid hcg
      obtain ⟨n, hn⟩ : ∃ n, fr0.length = n := ⟨_, rfl⟩
      (first | rw [hln, hn] at r1 | rw [hn] at r1)
      rw [hn] at e1 e2 e3 e4 e5 e6 e7 e8 e9 e10 e11 e12 e13
      have hdn : (((n : Int) + 1) == 0) = false := beq_eq_false_iff_ne.2 (by omega)
      have hw1 : wrap64 (n : Int) = (n : Int) := by
        have h63 : maxLen = 9223372036854775807 := by simp [maxLen]
        unfold wrap64
        omega
      have HNN := Lib.hid hn
      clear hcl hgd hfo hpo hl3 hr3 hcg hcap1 hb' hcur hnl hn hcap
      go_wp2_with (refine at_ld 85 40 rfl ?_)
      show AtOp _ _ _ _ _ (wx.alloc (acO p1 (.slice A3 p1.f6.length c3)))
      have hB2 : Below wx.heap.size wx (wx.alloc (acO p1 (.slice A3 p1.f6.length c3))) := (Below.refl wx.heap.size wx).alloc (Nat.le_refl _) _
      have HA := Lib.hid (heap_alloc_new wx (acO p1 (.slice A3 p1.f6.length c3)))
      have H2 := Lib.hid (H1.out.below hB2)
      have C2 := Lib.hid (C1.out.below hB2)
      have Z2 := Lib.hid (blk_below Z1.out hB2)
      have GL := Lib.hid rl
      have ZL := Lib.hid (blk_lt Z1.out)
      obtain ⟨ab, hab⟩ : ∃ ab, wx.heap.size = ab := ⟨_, rfl⟩
      rw [hab] at HA GL ZL ⊢
      clear H1 C1 Z1 hB2 e1 e2 e3 e4 e5 e6 e7 e8 e9 e10 e11 e12 e13 r1 rl hd hdn
      generalize wx.alloc (acO p1 (.slice A3 p1.f6.length c3)) = wy at *
      clear hab
      obtain ⟨-, r1, -, -, -, -, -, -, -, -, -, -, -, -, -, -, rl⟩ := qO_facts H2.out.blk
      (first | rw [HNN.out] at r1 | skip)
      have hf := fun j => blk_free H2.out.blk j
      have hcn : (n : Int) ≤ (cap : Int) := by have := HCG.out; have := HNN.out; omega
      refine ⟨?_⟩
      go_wp2_with (refine at_load 5 rfl ?_)
      show AtOp _ _ _ _ _ (wy.setCell ⟨g, 1, none⟩ (.slice (some ⟨b, 0, none⟩) n cap))
      have hcut := H2.out.cutFront
      rw [HNN.out] at hcut
      have hch : Chg (fun k => k = g) wy (wy.setCell ⟨g, 1, none⟩ (.slice (some ⟨b, 0, none⟩) n cap)) := (Chg.refl (fun k => k = g) wy).setCell (p := ⟨g, 1, none⟩) (.inl rfl) _
      have hs3 : (wy.setCell ⟨g, 1, none⟩ (.slice (some ⟨b, 0, none⟩) n cap)).heap.size = wy.heap.size := by simp [World.setCell]
      have hgf : g < w.heap.size → F g ∧ g < w.heap.size := fun hi => by
        rcases H2.out.fg with h | h
        · exact h
        · omega
      have hgz : w.heap.size ≠ g := fun e => by
        rcases H2.out.fg with h | h
        · have := h.2; omega
        · omega
      have C3 := Lib.hid (C2.out.trans hch (fun i hi h => by subst h; exact hgf hi))
      have H3 := Lib.hid hcut.1
      have O3 := Lib.hid hcut.2
      have A4 := hch.obj HA.out (fun h => by have := GL.out; omega)
      have Z3 := hch.obj Z2.out hgz
      clear H2 C2 HA Z2 hcut hch hs3 hgf hgz r1 rl hf hcn
      generalize wy.setCell ⟨g, 1, none⟩ (.slice (some ⟨b, 0, none⟩) n cap) = wz at *
      obtain ⟨a0, a1, a2, a3, a4, a5, a6, a7, a8, a9, a10, a11, a12, al⟩ := acO_facts A4
      obtain ⟨z0, z1, z2, z3, z4, z5, z6, z7, z8, z9, z10, z11, z12, zl⟩ := acO_facts Z3
      have hf := fun j => blk_free Z3 j
      have Z4 := Lib.hid Z3
      clear A4 Z3
      refine ⟨?_⟩
      go_wp2_with fail
      show bodyPost _ _ _ _ _ (putA wz w.heap.size p1 (.slice A3 p1.f6.length c3))
      clear a0 a1 a2 a3 a4 a5 a6 a7 a8 a9 a10 a11 a12 al z0 z1 z2 z3 z4 z5 z6 z7 z8 z9 z10 z11 z12 zl hf hw1
      have hz5 := putA_blk (a := p1) (v := .slice A3 p1.f6.length c3) Z4.out
      have hc5 := putA_chg wz w.heap.size p1 (.slice A3 p1.f6.length c3)
      have hs5 : (putA wz w.heap.size p1 (.slice A3 p1.f6.length c3)).heap.size = wz.heap.size := by simp [putA, World.setCell]
      have ho5 := O3.out.keep hc5 (fun k hk e => row_noq O3.out Z4.out (by decide) (by rw [hk, e]))
      have hq5 := (H3.out.mono (G := fun i => ((F i ∧ i < w.heap.size) ∨ (w.heap.size < i ∧ i < wz.heap.size)) ∧ ¬ some i = (Value.slice A3 p1.f6.length c3).ownBlock) (fun i hi hf => ⟨hf.1.imp id (fun h => ⟨h, hi⟩), hf.2⟩)).keep hc5 (fun i hi e => by
        rcases hi.1 with h | h
        · have := h.2; omega
        · have := h.1; omega)
      have hq6 := hq5.mono (G := fun i => Gr F w (putA wz w.heap.size p1 (.slice A3 p1.f6.length c3)) i ∧ ¬ some i = (Value.slice A3 p1.f6.length c3).ownBlock) (fun i hi hf => ⟨hf.1.elim (fun h => .inl h.1) (fun h => .inr ⟨by omega, by rw [hs5]; exact h.2⟩), hf.2⟩)
      have hv5 : ∀ k, (Value.slice A3 p1.f6.length c3).ownBlock = some k → Gr F w (putA wz w.heap.size p1 (.slice A3 p1.f6.length c3)) k := fun k hk => (PK.out k hk).elim (fun h => .inl h.1) (fun h => .inr ⟨by omega, by rw [hs5]; exact own_lt O3.out k hk⟩)
      have hc6 : Chg F w (putA wz w.heap.size p1 (.slice A3 p1.f6.length c3)) := (Chg.refl F w).trans (C3.out.trans hc5 (fun i hi h => by omega)) (fun i hi h => h.1)
      have hr := R1.out
      rw [shE_snoc] at hr
      refine bodyPost_ret (results_acc rfl _ _ w.heap.size p1 (.slice A3 p1.f6.length c3) rfl hz5) rfl (.inr ?_)
      first
        | exact ⟨p1, q.1, _, fr0, _, _, _, _, _, rfl, hr, ho5, hv5, hq6, hc6⟩
        | exact ⟨p1, q.1, _, rfl, fr0, _, _, hr, ho5, hv5, ⟨_, _, _, hq6⟩, hc6⟩)
end
end Go.Proofs.Ytfgabafbcephaaa.My

namespace Go.Proofs.Ytfgabafbcephaaa.My
open Go.RowKit Pa Go.Proofs.YtfgabafbcephaaaW.PrintWords
set_option linter.unusedSimpArgs false
theorem wp_nil_append {o : Oper} {a : Act} {w : World} {K : Act → World → Prop} {Q : Exit → Act → World → Prop} (x : Operand)
    (ho : o.op = .call { callee := .builtin .append, args := #[.const (.slice none 0 0), x], argTypes := #[22, 22] }) (hw : Region.wanted o (yielded (#[] : Array Oper) a.tmps) = true)
    (A : Option Addr) (c : Nat) (l : List Int) (hx : a.eval x = .slice A l.length c) (hr : RdI w A l) (hl : l.length ≤ 17592186044415)
    (h : ∀ v w1, Own w1 w.heap.size v l → Below w.heap.size w w1 → K (a.put o.dst v) w1) : o.wp Try.prog a w K Q := by
  have h1 := Kd.R_append_rows_step (P := Try.prog) (Q := Q) (ops := #[]) (Kd.int .i64) (w0 := w) w.heap.size hw (.const (.slice none 0 0)) x 22 3 (.int .i64 0) 8 ho Try.underlying22 info3 rfl (by decide) (by omega) (.slice none 0 0) [] l A l.length c (fun _ => True) (fun _ => False) rfl hx (Kd.R_nil _ _ _ _ _) hr (fun _ _ h => h) (fun _ h => h.elim) (fun _ _ => trivial) (Below.refl _ _) (Nat.le_refl _) (by simp; omega) (Kc := K) (fun v1 w1 hR hb _ _ => h v1 w1 (own_of_r hR) hb)
  rw [if_pos hw] at h1
  exact h1
theorem opt_nodup (o : Option Nat) : o.toList.Nodup := by cases o <;> simp
set_option maxHeartbeats 16000000 in
set_option maxRecDepth 100000 in
theorem qnew_any (bs : List Int) (A : Option Addr) (c : Nat) (w : World) (hr : RdI w A bs) (hc : bs.length ≤ c) (hl : bs.length ≤ 17592186044415) :
    Calls Try.prog 11 #[.slice A bs.length c] w fun e w' =>
      ((joinRes bs []).2 ≠ 0 ∧ e = .returned (.tuple #[.pointer none, .int .i64 1700]) ∧ Below w.heap.size w w') ∨
      ((joinRes bs []).2 = 0 ∧ ∃ (g : Nat) (bv av : Value), e = .returned (.tuple #[.pointer (some ⟨g, 0, none⟩), .int .i64 0]) ∧ QAt w' (fun i => w.heap.size ≤ i) g bs [] [] (joinRes bs []).1 bv (.slice none 0 0) (.slice none 0 0) av ∧ Below w.heap.size w w') := by
  have HR := Lib.hid hr
  have HC := Lib.hid hc
  have HL := Lib.hid hl
  clear hr hc hl
  go_enter Try.func11, Try.ntmps11
  go_wp2_with fail
  refine (join_any bs [] A c none 0 w HR.out HC.out (rdA_nil _ _) (by simp)).mono ?_
  rintro e w2 ⟨v, rfl, how, hb⟩
  obtain ⟨o, ho⟩ : ∃ o, o = (joinRes bs []).1 := ⟨_, rfl⟩
  obtain ⟨er, her⟩ : ∃ er, er = (joinRes bs []).2 := ⟨_, rfl⟩
  rw [← ho] at how ⊢
  rw [← her]
  have HO := Lib.hid ho
  have HER := Lib.hid her
  obtain ⟨A2, c2, rfl, _, _⟩ := how.reads
  have hal : Below w2.heap.size w2 (w2.alloc (acO o (.slice A2 o.f6.length c2))) := (Below.refl _ _).alloc (Nat.le_refl _) _
  have HW := Lib.hid (Own.below how hal)
  have HB2 := Lib.hid (hb.trans (hal.mono hb.size))
  have HZ := Lib.hid (heap_alloc_new w2 (acO o (.slice A2 o.f6.length c2)))
  have HG := Lib.hid hb.size
  clear how hb hal ho her
  simp only [acV]
  by_cases he : er = 0
  · have hd : (er != 0) = false := bne_eq_false_iff_eq.2 he
    have HE := Lib.hid he
    clear he
    go_wp2_with fail
    clear hd
    show Code.wp _ _ _ _ (w2.alloc (acO o (.slice A2 o.f6.length c2)))
    obtain ⟨ab, hab⟩ : ∃ ab, w2.heap.size = ab := ⟨_, rfl⟩
    rw [hab] at HZ HG ⊢
    generalize w2.alloc (acO o (.slice A2 o.f6.length c2)) = w3 at *
    clear hab
    obtain ⟨z0, z1, z2, z3, z4, z5, z6, z7, z8, z9, z10, z11, z12, zl⟩ := acO_facts HZ.out
    have HS1 := Lib.hid (show ¬ (fun _ : Nat => False) ab from id)
    have HS2 := Lib.hid (show ¬ (fun _ : Nat => False) ab from id)
    refine Txt2.wp_region_mix (S := fun _ => False) (by kernel_rfl) (by kernel_rfl) (fun HB => ?_)
    repeat (first
      | (refine Txt2.mix_p (by rfl) rfl rfl (fun K hK => ?_); go_big_quiet_op; refine hK _ ?_; clear hK K)
      | (refine Txt2.mix_re (by rfl) (by decide +kernel) (by rfl) (by rfl) (by go_simp) (by first | exact HS1.out | exact HS2.out) HB (fun K hK => ?_); go_big_quiet_op; refine hK _ ?_; clear hK K)
      | (refine Txt2.mix_pass (by rfl) (by rfl) ?_; simp only [List.set_cons_succ, List.set_cons_zero]))
    refine Txt2.mix_e (by rfl) (by decide +kernel) HB ?_
    intro w4 hw4 K hK
    have hb4 : Below w3.heap.size w3 w4 := Txt.Bw.undrew hw4
    replace HB := HB.then_ hw4
    refine wp_nil_append (.tmp 13) rfl (by rfl) A c bs rfl (RdI.below (RdI.below HR.out HB2.out) hb4) HL.out ?_
    intro bv w5 hbv hb5
    obtain ⟨Ab, cb, rfl, _, _⟩ := hbv.reads
    refine hK _ _ ⟨Txt2.Kx.of hb5, ?_⟩
    replace HB := HB.trans (Txt2.Kx.of hb5)
    have HBV := Lib.hid hbv
    have HB5 := Lib.hid (hb4.trans (hb5.mono hb4.size))
    have HS5 := Lib.hid hb4.size
    clear hK K hw4 hb4 hbv hb5
    simp only [Act.put, List.setIfInBounds_toArray, List.set_cons_succ, List.set_cons_zero]
    repeat (first
      | (refine Txt2.mix_p (by rfl) rfl rfl (fun K hK => ?_); go_big_quiet_op; refine hK _ ?_; clear hK K)
      | (refine Txt2.mix_re (by rfl) (by decide +kernel) (by rfl) (by rfl) (by go_simp) (by first | exact HS1.out | exact HS2.out) HB (fun K hK => ?_); go_big_quiet_op; refine hK _ ?_; clear hK K)
      | (refine Txt2.mix_pass (by rfl) (by rfl) ?_; simp only [List.set_cons_succ, List.set_cons_zero]))
    refine Txt2.mix_m (fun g => .pointer (some ⟨g, 0, none⟩)) (qO (.slice Ab bs.length cb) (.slice none 0 0) (.slice none 0 0) o (.slice A2 o.f6.length c2)) (by rfl) (by decide +kernel) (fun w1 => by unfold qO; go_simp) HB ?_
    intro g w6 hb6 hg6 ho6
    have HQ := Lib.hid ho6
    have HBV6 := Lib.hid (Own.below HBV.out hb6)
    have HB6 := Lib.hid (HB5.out.trans (hb6.mono HB5.out.size))
    have HG6 := Lib.hid (show w3.heap.size ≤ g from hg6)
    replace HB := HB.then_ hb6
    clear HBV HB5 hb6 hg6 ho6
    simp only [Act.put, List.setIfInBounds_toArray, List.set_cons_succ, List.set_cons_zero]
    repeat (first
      | (refine Txt2.mix_p (by rfl) rfl rfl (fun K hK => ?_); go_big_quiet_op; refine hK _ ?_; clear hK K)
      | (refine Txt2.mix_re (by rfl) (by decide +kernel) (by rfl) (by rfl) (by go_simp) (by first | exact HS1.out | exact HS2.out) HB (fun K hK => ?_); go_big_quiet_op; refine hK _ ?_; clear hK K)
      | (refine Txt2.mix_pass (by rfl) (by rfl) ?_; simp only [List.set_cons_succ, List.set_cons_zero]))
    refine Txt2.mix_nil ?_
    go_wp2_with fail
    have hav := Own.below HW.out HB6.out
    have h1 := HB2.out.size
    have h2 := HS5.out
    have h3 := HG6.out
    have hfh : ∀ k ∈ hbs (.slice Ab bs.length cb) [] [] (.slice A2 o.f6.length c2), w.heap.size ≤ k := fun k hk => by
      simp only [hbs, List.flatMap_nil, List.nil_append, List.mem_append, Option.mem_toList] at hk
      rcases hk with hk | hk
      · have := own_base HBV6.out k hk; omega
      · exact own_base HW.out k hk
    have hnd : (hbs (.slice Ab bs.length cb) [] [] (.slice A2 o.f6.length c2)).Nodup := by
      simp only [hbs, List.flatMap_nil, List.nil_append]
      rw [List.nodup_append]
      refine ⟨opt_nodup _, opt_nodup _, fun x hx y hy e => ?_⟩
      simp only [Option.mem_toList] at hx hy
      have h4 := own_base HBV6.out x hx
      have h5 := own_lt HW.out y hy
      omega
    have hE : (joinRes bs []).2 = 0 := by rw [← HER.out]; exact HE.out
    have hQ : QAt w6 (fun i => w.heap.size ≤ i) g bs [] [] (joinRes bs []).1 (.slice Ab bs.length cb) (.slice none 0 0) (.slice none 0 0) (.slice A2 o.f6.length c2) := by
      rw [← HO.out]
      exact ⟨HQ.out, own_weaken HBV6.out (Nat.zero_le _), own_nil _ _ _ _, own_nil _ _ _ _, by simp, by simp, own_weaken hav (Nat.zero_le _), (by show w.heap.size ≤ g; omega), (fun k hk => by cases hk), (fun k hk => by cases hk), hfh, hnd⟩
    have hBel : Below w.heap.size w w6 := HB2.out.trans (HB6.out.mono h1)
    refine bodyPost_ret (results_tmp2 rfl _ _ _) rfl (.inr ?_)
    first
      | exact ⟨hE, g, _, _, rfl, hQ, hBel⟩
      | exact ⟨hE, g, rfl, ⟨_, _, hQ⟩, hBel⟩
  · have hd : (er != 0) = true := bne_iff_ne.2 he
    have HE := Lib.hid he
    clear he
    go_wp2_with fail
    exact bodyPost_ret (results_tmp2 rfl _ _ _) rfl (.inl ⟨by rw [← HER.out]; exact HE.out, rfl, HB2.out⟩)
end Go.Proofs.Ytfgabafbcephaaa.My

namespace Go.Proofs.Ytfgabafbcephaaa.My
open Go.RowKit Pa Go.Proofs.YtfgabafbcephaaaW.PrintWords
set_option linter.unusedSimpArgs false
def rO (bv kv : Value) : Obj := .cells #[bv, kv] 49
structure RQ (w : World) (F : Nat → Prop) (g : Nat) (bs : List Int) (ps : List AV) (bv kv : Value) : Prop where
  blk : w.heap[g]? = some (rO bv kv)
  bo : Own w 0 bv bs
  ko : w.ownsRow 0 36 13 kv ps.length (flatA ps)
  ke : ∀ p ∈ ps, Own w 0 p.2 p.1.f6
  fg : F g
  fb : ∀ k, bv.ownBlock = some k → F k
  fk : ∀ k, kv.ownBlock = some k → F k
  fe : ∀ p ∈ ps, ∀ k, p.2.ownBlock = some k → F k
section
variable {w w1 : World} {F G S : Nat → Prop} {g : Nat} {bs : List Int} {ps : List AV} {bv kv : Value}
theorem RQ.keep (h : RQ w F g bs ps bv kv) (hc : Chg S w w1) (hn : ∀ i, F i → ¬ S i) : RQ w1 F g bs ps bv kv :=
  ⟨hc.obj h.blk (hn _ h.fg), h.bo.keep hc (fun k hk => hn _ (h.fb k hk)), row_keep h.ko hc (fun k hk => hn _ (h.fk k hk)), fun p hp => (h.ke p hp).keep hc (fun k hk => hn _ (h.fe p hp k hk)), h.fg, h.fb, h.fk, h.fe⟩
theorem RQ.below (h : RQ w F g bs ps bv kv) (hb : Below w.heap.size w w1) : RQ w1 F g bs ps bv kv := h.keep (S := fun _ => False) (Chg.of_below hb) (fun _ _ h => h)
theorem RQ.mono (h : RQ w F g bs ps bv kv) (hf : ∀ i, i < w.heap.size → F i → G i) : RQ w G g bs ps bv kv :=
  ⟨h.blk, h.bo, h.ko, h.ke, hf _ (blk_lt h.blk) h.fg, fun k hk => hf k (own_lt h.bo k hk) (h.fb k hk), fun k hk => hf k (own_lt h.ko k hk) (h.fk k hk), fun p hp k hk => hf k (own_lt (h.ke p hp) k hk) (h.fe p hp k hk)⟩
theorem shA_len (ps : List AV) : (shA ps).length = ps.length := by simp [shA]
end
end Go.Proofs.Ytfgabafbcephaaa.My

namespace Go.Proofs.Ytfgabafbcephaaa.My
open Go.RowKit Pa Go.Proofs.YtfgabafbcephaaaW.PrintWords
set_option linter.unusedSimpArgs false
end Go.Proofs.Ytfgabafbcephaaa.My

namespace Go.Proofs.Ytfgabafbcephaaa.My
open Go.RowKit Pa Go.Proofs.YtfgabafbcephaaaW.PrintWords
set_option linter.unusedSimpArgs false
end Go.Proofs.Ytfgabafbcephaaa.My

namespace Go.Proofs.Ytfgabafbcephaaa.My
open Go.RowKit Pa Go.Proofs.YtfgabafbcephaaaW.PrintWords
set_option linter.unusedSimpArgs false

theorem cnt_append (xs : List S36) (y : S36) : cnt (xs ++ [y]) = cnt xs + y.f0 := by
  unfold cnt
  rw [List.map_append, List.sum_append]
  simp
theorem joinA_append (bs : List Int) (xs : List S36) (y : S36) : joinA bs (xs ++ [y]) = stepA (joinA bs xs) y := by
  unfold joinA
  rw [List.foldl_append]
  rfl

def bb : List Int := [-50, 0, 20, 300]
def bv (n : Int) : Int := bits .and .i64 n 1023 - 500
def bk (i v : Int) : S36 := one ⟨0, i, i + 1, v⟩ bb
end Go.Proofs.Ytfgabafbcephaaa.My

namespace Go.Proofs.Ytfgabafbcephaaa.My
open Go.RowKit Pa Go.Proofs.YtfgabafbcephaaaW.PrintWords
set_option linter.unusedSimpArgs false

theorem allm_rz {bs : List Int} (hb : bmay bs = true) {s : Int} : ∀ {xs : List S36} {f : Int}, (∀ x ∈ xs, x = join0 bs ∨ (May1 bs x ∧ x.f4.f0 = s)) → (f = -1 ∨ f = s) → allm bs f xs = true
  | [], _, _, _ => hb
  | x :: r, f, h, hf => by
    have hr := fun y (hy : y ∈ r) => h y (List.mem_cons_of_mem _ hy)
    rcases h x (List.mem_cons_self ..) with rfl | hx
    · rw [allm_zero hb]
      exact allm_rz hb hr hf
    · unfold allm
      rw [if_pos hx.1.amay, if_pos (show 0 < x.f0 from by have := hx.1.c; omega)]
      rw [if_neg (by rcases hf with rfl | rfl
                     · simp
                     · rw [hx.2]; simp)]
      exact allm_rz hb hr (.inr hx.2)
end Go.Proofs.Ytfgabafbcephaaa.My

namespace Go.Proofs.Ytfgabafbcephaaa.My
open Go.RowKit Pa Go.Proofs.YtfgabafbcephaaaW.PrintWords
set_option linter.unusedSimpArgs false

theorem hadd_assoc : ∀ (a b c : List Int), hadd (hadd a b) c = hadd a (hadd b c)
  | [], _, _ => rfl
  | x :: a, [], c => by simp [hadd]
  | x :: a, y :: b, [] => by simp [hadd]
  | x :: a, y :: b, z :: c => by
    have ih := hadd_assoc a b c
    unfold hadd at *
    simp only [List.zipWith_cons_cons, ih, Int.add_assoc]
theorem ord_lt_trans {a b c : S34} (h1 : ord c b < 0) (h2 : ord b a < 0) : ord c a < 0 := by
  unfold ord at *
  (repeat' split at h1) <;> (repeat' split at h2) <;> (repeat' split) <;> omega
theorem ord_ge_trans {a b c : S34} (h1 : 0 ≤ ord c b) (h2 : 0 ≤ ord b a) : 0 ≤ ord c a := by
  unfold ord at *
  (repeat' split at h1) <;> (repeat' split at h2) <;> (repeat' split) <;> omega
theorem add_assoc3 {a b c : S36} (ha : a.f0 ≠ 0) (hb : b.f0 ≠ 0) (hab : a.f0 + b.f0 ≠ 0) : addA (addA a b) c = addA a (addA b c) := by
  obtain ⟨p0, p1, p2, p3, p4, p5, p6⟩ := add_parts a b ha
  obtain ⟨q0, q1, q2, q3, q4, q5, q6⟩ := add_parts b c hb
  obtain ⟨r0, r1, r2, r3, r4, r5, r6⟩ := add_parts (addA a b) c (by rw [p0]; exact hab)
  obtain ⟨s0, s1, s2, s3, s4, s5, s6⟩ := add_parts a (addA b c) ha
  refine s28_ext (by rw [r0, s0, p0, q0]; omega) (by rw [r1, s1, p1, q1]; omega) ?_ ?_ ?_ ?_ (by rw [r6, s6, p6, q6, hadd_assoc])
  · rw [r2, s2, p2, q2]
    (repeat' split) <;> omega
  · rw [r3, s3, p3, q3]
    (repeat' split) <;> omega
  · rw [r4, s4, p4, q4]
    by_cases h1 : ord b.f4 a.f4 < 0
    · rw [if_pos h1]
      by_cases h2 : ord c.f4 b.f4 < 0
      · rw [if_pos h2, if_pos (ord_lt_trans h2 h1)]
      · rw [if_neg h2, if_pos h1]
    · rw [if_neg h1]
      by_cases h2 : ord c.f4 b.f4 < 0
      · rw [if_pos h2]
      · rw [if_neg h2, if_neg h1, if_neg]
        have e1 : 0 ≤ ord c.f4 b.f4 := by omega
        have e2 : 0 ≤ ord b.f4 a.f4 := by omega
        have := ord_ge_trans e1 e2
        omega
  · rw [r5, s5, p5, q5]
    by_cases h1 : 0 ≤ ord b.f5 a.f5
    · rw [if_pos h1]
      by_cases h2 : 0 ≤ ord c.f5 b.f5
      · rw [if_pos h2, if_pos (ord_ge_trans h2 h1)]
      · rw [if_neg h2, if_pos h1]
    · rw [if_neg h1]
      by_cases h2 : 0 ≤ ord c.f5 b.f5
      · rw [if_pos h2]
      · rw [if_neg h2, if_neg h1, if_neg]
        have := ord_lt_trans (a := a.f5) (b := b.f5) (c := c.f5) (by omega) (by omega)
        omega
theorem step_pos {o a : S36} (h : 0 < a.f0) : stepA o a = addA o a := if_pos h
theorem amay_zs {bs : List Int} {x : S36} {s : Int} (hx : amay x bs = true) (hs : x.f0 ≠ 0 → x.f4.f0 = s) : Zs bs s x := by
  by_cases hz : x.f0 = 0
  · left
    have hf := amay_fit hx
    have hx2 := hx
    unfold amay at hx2
    rw [if_pos hz] at hx2
    simp only [Bool.and_eq_true, decide_eq_true_eq] at hx2
    obtain ⟨_, _, hh, _, _, hb⟩ := hx2
    unfold bareB at hb
    simp only [Bool.and_eq_true, beq_iff_eq] at hb
    obtain ⟨b1, b2, b3, b4, b5⟩ := hb
    have hl := hf.len
    refine s28_ext hz b1 b2 b3 (isz_yes b4) (isz_yes b5) (List.ext_getElem (by rw [hl]; simp [join0]) (fun i h1 h2 => ?_))
    have := hf.h i h1
    rw [List.getD_eq_getElem?_getD, List.getElem?_eq_getElem h1, Option.getD_some, hz] at this
    have e : (join0 bs).f6[i] = 0 := List.getElem_replicate ..
    rw [e]
    omega
  · exact .inr ⟨May1.of hx hz, hs hz⟩
theorem zs_bm {bs : List Int} (hb : bmay bs = true) {s : Int} {x : S36} (h : Zs bs s x) : amay x bs = true ∧ (x.f0 ≠ 0 → x.f4.f0 = s) := by
  rcases h with rfl | ⟨m, e⟩
  · exact ⟨amay_zero hb, fun h => absurd rfl h⟩
  · exact ⟨m.amay, fun _ => e⟩
theorem zs_c {bs : List Int} {s : Int} {x : S36} (h : Zs bs s x) : 0 ≤ x.f0 ∧ x.f0 ≤ 8192 := by
  rcases h with rfl | ⟨m, e⟩
  · exact ⟨Int.le_refl _, by show (0 : Int) ≤ 8192; omega⟩
  · have := m.c
    omega
theorem zs_f0 {bs : List Int} {s : Int} {x y : S36} (hy : Zs bs s y) : (stepA x y).f0 = x.f0 + y.f0 := by
  rcases hy with rfl | ⟨m, _⟩
  · rw [step_zero]
    show _ = x.f0 + 0
    omega
  · rw [step_pos (by have := m.c; omega)]
    exact (addA_f0 x y).1
theorem zs_step {bs : List Int} {s : Int} {x y : S36} (hb : bmay bs = true) (hx : Zs bs s x) (hy : Zs bs s y) (hc : x.f0 + y.f0 ≤ 8192) : Zs bs s (stepA x y) := by
  obtain ⟨h1, h2⟩ := zs_bm hb hy
  exact (rstep_eq h1 hx h2).2 hc
theorem step_assoc {bs : List Int} {s : Int} {x y z : S36} (hx : Zs bs s x) (hy : Zs bs s y) (hz : Zs bs s z) : stepA (stepA x y) z = stepA x (stepA y z) := by
  rcases hz with rfl | ⟨mz, _⟩
  · rw [step_zero, step_zero]
  rcases hy with rfl | ⟨my, _⟩
  · rw [step_zero, zero_step mz]
  have cy := my.c
  have cz := mz.c
  rcases hx with rfl | ⟨mx, _⟩
  · have e : stepA (join0 bs) (stepA y z) = stepA y z := by
      rw [step_pos (o := y) (by omega)]
      have h0 : (addA y z).f0 = y.f0 + z.f0 := (addA_f0 y z).1
      have h6 : (addA y z).f6 = hadd y.f6 z.f6 := (addA_f0 y z).2.2
      rw [step_pos (by omega)]
      have p := add_parts y z (by omega)
      generalize addA y z = u at *
      have hl : u.f6.length = bs.length + 1 := by rw [h6, hadd_len (by rw [mz.len, my.len]), my.len]
      have hh := hadd_zeros u.f6
      rw [hl] at hh
      obtain ⟨a0, a1, a2, a3, a4, a5, a6⟩ := u
      unfold addA fst_ add3 add4 add5 add6 join0
      simp only [ord_self] at *
      simp [hh]
    rw [zero_step my, e]
  · have cx := mx.c
    have h1 : stepA x y = addA x y := step_pos (by omega)
    have h2 : stepA y z = addA y z := step_pos (by omega)
    have h3 : (addA y z).f0 = y.f0 + z.f0 := (addA_f0 y z).1
    rw [h1, h2, step_pos (by omega), step_pos (by omega)]
    exact add_assoc3 (by omega) (by omega) (by omega)
theorem fold_zs {bs : List Int} (hb : bmay bs = true) {s : Int} : ∀ {L : List S36} {o : S36}, Zs bs s o → (∀ x ∈ L, Zs bs s x) → o.f0 + cnt L ≤ 8192 → Zs bs s (L.foldl stepA o) ∧ (L.foldl stepA o).f0 = o.f0 + cnt L ∧ L.foldl stepA o = stepA o (joinA bs L)
  | [], o, ho, _, _ => ⟨ho, by simp [cnt], (step_zero o bs).symm⟩
  | x :: r, o, ho, hL, hc => by
    have hx := hL x (List.mem_cons_self ..)
    have hr := fun y (hy : y ∈ r) => hL y (List.mem_cons_of_mem _ hy)
    have hcx : cnt (x :: r) = x.f0 + cnt r := by simp [cnt]
    have c1 := zs_c hx
    have c2 := zs_c ho
    have c3 : 0 ≤ cnt r := by
      clear hcx hc
      induction r with
      | nil => simp [cnt]
      | cons y t ih =>
        have := zs_c (hr y (List.mem_cons_self ..))
        have := ih (fun z hz => hL z (by rcases List.mem_cons.1 hz with rfl | hz <;> simp [*])) (fun z hz => hr z (List.mem_cons_of_mem _ hz))
        have : cnt (y :: t) = y.f0 + cnt t := by simp [cnt]
        omega
    rw [hcx] at hc
    have h0 := zs_f0 (x := o) hx
    have hz0 : Zs bs s (join0 bs) := .inl rfl
    have e0 : (join0 bs).f0 = 0 := rfl
    have h1 := fold_zs hb (L := r) (zs_step hb ho hx (by omega)) hr (by omega)
    have h2 := fold_zs hb (L := r) (zs_step hb hz0 hx (by omega)) hr (by rw [zs_f0 hx, e0]; omega)
    have h3 := fold_zs hb (L := r) hz0 hr (by rw [e0]; omega)
    have hj : joinA bs (x :: r) = stepA (stepA (join0 bs) x) (joinA bs r) := h2.2.2
    refine ⟨h1.1, by rw [hcx]; have := h1.2.1; simp only [List.foldl_cons] at *; omega, ?_⟩
    have hjr : Zs bs s (joinA bs r) := h3.1
    rw [hj, List.foldl_cons, h1.2.2, step_assoc ho hx hjr, step_assoc hz0 hx hjr]
    have h4 : Zs bs s (stepA x (joinA bs r)) := zs_step hb hx hjr (by
      have := h3.2.1
      have e : (joinA bs r).f0 = (r.foldl stepA (join0 bs)).f0 := rfl
      omega)
    rcases h4 with e | ⟨m, _⟩
    · rw [e, step_zero, step_zero, step_zero]
    · rw [zero_step m]
theorem join_app {bs : List Int} (hb : bmay bs = true) {s : Int} {L M : List S36} (hL : ∀ x ∈ L, Zs bs s x) (hM : ∀ x ∈ M, Zs bs s x) (hc : cnt L + cnt M ≤ 8192) (h0 : 0 ≤ cnt M) : joinA bs (L ++ M) = stepA (joinA bs L) (joinA bs M) := by
  have e0 : (join0 bs).f0 = 0 := rfl
  have h1 := fold_zs hb (L := L) (.inl rfl) hL (by rw [e0]; omega)
  have h2 := fold_zs hb (L := M) h1.1 hM (by rw [h1.2.1, e0]; omega)
  show (L ++ M).foldl stepA (join0 bs) = _
  rw [List.foldl_append, h2.2.2]
  rfl
theorem cnt_app (L M : List S36) : cnt (L ++ M) = cnt L + cnt M := by simp [cnt]
theorem cnt_nn {bs : List Int} {s : Int} {L : List S36} (hL : ∀ x ∈ L, Zs bs s x) : 0 ≤ cnt L := by
  induction L with
  | nil => simp [cnt]
  | cons y t ih =>
    have := zs_c (hL y (List.mem_cons_self ..))
    have := ih (fun z hz => hL z (List.mem_cons_of_mem _ hz))
    have : cnt (y :: t) = y.f0 + cnt t := by simp [cnt]
    omega
structure Gd (bs : List Int) (s : Int) (L : List S36) : Prop where
  b : bmay bs = true
  z : ∀ x ∈ L, Zs bs s x
  c : cnt L ≤ 8192
section
variable {bs : List Int} {s : Int} {L M : List S36}
theorem Gd.nil (hb : bmay bs = true) : Gd bs s [] := ⟨hb, by simp, by simp [cnt]⟩
theorem Gd.join (h : Gd bs s L) : joinRes bs L = (joinA bs L, 0) := by
  unfold joinRes
  rw [if_pos (allm_rz h.b h.z (.inl rfl)), if_neg (by have := h.c; omega)]
theorem Gd.of (h : (joinRes bs L).2 = 0) : ∃ s, Gd bs s L := by
  unfold joinRes at h
  by_cases ha : allm bs (-1) L = true
  · rw [if_pos ha] at h
    by_cases hc : 8192 < cnt L
    · rw [if_pos hc] at h
      cases h
    · obtain ⟨s, hs⟩ := allm_ser ha
      exact ⟨s, allm_bm ha, fun x hx => amay_zs (allm_all ha x hx) (hs x hx), by omega⟩
  · rw [if_neg ha] at h
    cases h
theorem Gd.zj (h : Gd bs s L) : Zs bs s (joinA bs L) ∧ (joinA bs L).f0 = cnt L := by
  have e0 : (join0 bs).f0 = 0 := rfl
  have h1 := fold_zs h.b (L := L) (.inl rfl) h.z (by have := h.c; rw [e0]; omega)
  exact ⟨h1.1, by show (L.foldl stepA (join0 bs)).f0 = _; rw [h1.2.1, e0]; omega⟩
theorem Gd.left (h : Gd bs s (L ++ M)) : Gd bs s L := by
  have hM : ∀ x ∈ M, Zs bs s x := fun x hx => h.z x (List.mem_append_right _ hx)
  have := cnt_nn hM
  have hc := h.c
  rw [cnt_app] at hc
  exact ⟨h.b, fun x hx => h.z x (List.mem_append_left _ hx), by omega⟩
theorem Gd.right (h : Gd bs s (L ++ M)) : Gd bs s M := by
  have hL : ∀ x ∈ L, Zs bs s x := fun x hx => h.z x (List.mem_append_left _ hx)
  have := cnt_nn hL
  have hc := h.c
  rw [cnt_app] at hc
  exact ⟨h.b, fun x hx => h.z x (List.mem_append_right _ hx), by omega⟩
theorem Gd.app (h : Gd bs s (L ++ M)) : joinA bs (L ++ M) = stepA (joinA bs L) (joinA bs M) := by
  have hc := h.c
  rw [cnt_app] at hc
  exact join_app h.b h.left.z h.right.z hc (cnt_nn h.right.z)
theorem Gd.two (h : Gd bs s (L ++ M)) : joinRes bs [joinA bs L, joinA bs M] = (joinA bs (L ++ M), 0) := by
  have h1 := h.left.zj
  have h2 := h.right.zj
  have hc := h.c
  rw [cnt_app] at hc
  have g : Gd bs s [joinA bs L, joinA bs M] := ⟨h.b, by
    intro x hx
    simp only [List.mem_cons, List.not_mem_nil, or_false] at hx
    rcases hx with rfl | rfl
    · exact h1.1
    · exact h2.1, by simp only [cnt, List.map_cons, List.map_nil, List.sum_cons, List.sum_nil, h1.2, h2.2]; unfold cnt at hc; omega⟩
  rw [g.join, h.app]
  have e : joinA bs [joinA bs L, joinA bs M] = stepA (stepA (join0 bs) (joinA bs L)) (joinA bs M) := rfl
  rw [e]
  rcases h1.1 with e1 | ⟨m, _⟩
  · rw [e1, step_zero]
  · rw [zero_step m]
theorem zero_zs {x : S36} (h : Zs bs s x) : stepA (join0 bs) x = x := by
  rcases h with rfl | ⟨m, _⟩
  · exact step_zero _ _
  · exact zero_step m
theorem Gd.one (hb : bmay bs = true) {a : S36} (h : Zs bs s a) : Gd bs s [a] := ⟨hb, by simpa using h, by have := zs_c h; simp [cnt]; omega⟩
theorem joinA_one (a : S36) : joinA bs [a] = stepA (join0 bs) a := rfl
theorem Gd.more (h : Gd bs s (L ++ M)) (a : S36) : (joinRes bs [joinA bs L, joinA bs M, a]).2 = (joinRes bs [joinA bs (L ++ M), a]).2 := by
  have h1 := h.left.zj
  have h2 := h.right.zj
  have h3 := h.zj
  have happ := h.app
  have hb := h.b
  have hm : allm bs (-1) [joinA bs L, joinA bs M, a] = allm bs (-1) [joinA bs (L ++ M), a] := by
    rw [happ] at h3 ⊢
    rcases h1.1 with e1 | ⟨m1, s1⟩
    · rw [e1, zero_zs h2.1, allm_zero hb]
    · rcases h2.1 with e2 | ⟨m2, s2⟩
      · rw [e2, step_zero, allm_one m1, allm_one m1, allm_zero hb]
      · rcases h3.1 with e3 | ⟨m3, s3⟩
        · have e4 := h3.2
          have e5 := zs_f0 (x := joinA bs L) h2.1
          rw [e3] at e5
          have := m1.c
          have := m2.c
          have e6 : (join0 bs).f0 = 0 := rfl
          omega
        · rw [allm_one m1, allm_one m3, s1, s3, allm, if_pos m2.amay, if_pos (by have := m2.c; omega), if_neg (by rw [s2]; simp), s2]
  have hc : cnt [joinA bs L, joinA bs M, a] = cnt [joinA bs (L ++ M), a] := by
    simp only [cnt, List.map_cons, List.map_nil, List.sum_cons, List.sum_nil, h1.2, h2.2, h3.2, List.map_append, List.sum_append]
    omega
  unfold joinRes
  rw [hm, hc]
  split
  · split <;> rfl
  · rfl
theorem Gd.snoc (h : Gd bs s L) {a : S36} (h0 : (joinRes bs [joinA bs L, a]).2 = 0) : ∃ t, Gd bs t (L ++ [a]) := by
  obtain ⟨t, g⟩ := Gd.of h0
  have hj := h.zj
  have ga := g.z a (by simp)
  have gj := g.z (joinA bs L) (by simp)
  have hcc := g.c
  simp only [cnt, List.map_cons, List.map_nil, List.sum_cons, List.sum_nil] at hcc
  refine ⟨t, h.b, fun x hx => ?_, by rw [cnt_app, ← hj.2]; simp [cnt]; omega⟩
  rcases List.mem_append.1 hx with hx | hx
  · refine amay_zs (zs_bm h.b (h.z x hx)).1 (fun hz => ?_)
    have hzj : (joinA bs L).f0 ≠ 0 := by
      rw [hj.2]
      obtain ⟨l1, l2, rfl⟩ := List.append_of_mem hx
      have e1 := cnt_nn (fun y hy => h.z y (List.mem_append_left _ hy))
      have e2 := cnt_nn (fun y hy => h.z y (List.mem_append_right _ (List.mem_cons_of_mem _ hy)))
      have e3 := zs_c (h.z x hx)
      have e4 : cnt (x :: l2) = x.f0 + cnt l2 := by simp [cnt]
      rw [cnt_app]
      omega
    have e1 := (zs_bm h.b hj.1).2 hzj
    have e2 := (zs_bm h.b gj).2 hzj
    have e3 := (zs_bm h.b (h.z x hx)).2 hz
    omega
  · rw [List.mem_singleton.1 hx]
    exact ga
end
inductive FrOk (bs : List Int) : List (S36 × S36) → Prop where
  | nil : FrOk bs []
  | snoc {fs : List (S36 × S36)} {a j : S36} : FrOk bs fs → j = joinA bs (a :: (fs.map Prod.fst).reverse) → FrOk bs (fs ++ [(a, j)])
structure QI (bs : List Int) (fs : List (S36 × S36)) (bk : List S36) (al : S36) (L : List S36) : Prop where
  fr : FrOk bs fs
  al : al = joinA bs bk
  row : L = (fs.map Prod.fst).reverse ++ bk
  gd : ∃ s, Gd bs s L
theorem FrOk.back {bs : List Int} {fs : List (S36 × S36)} {e : S36 × S36} (h : FrOk bs (fs ++ [e])) : FrOk bs fs ∧ e.2 = joinA bs (e.1 :: (fs.map Prod.fst).reverse) := by
  generalize hg : fs ++ [e] = gs at h
  cases h with
  | nil => simp at hg
  | snoc h1 h2 =>
    obtain ⟨rfl, h3⟩ := List.append_inj' hg rfl
    injection h3 with h3 _
    subst h3
    exact ⟨h1, h2⟩
theorem FrOk.head {bs : List Int} {fs : List (S36 × S36)} (hb : bmay bs = true) (h : FrOk bs fs) : headS bs fs = joinA bs (fs.map Prod.fst).reverse := by
  cases h with
  | nil => show (joinRes bs []).1 = _; rw [(Gd.nil (s := 0) hb).join]; rfl
  | snoc h1 h2 =>
    unfold headS
    simp [h2]
section
variable {bs : List Int} {fs : List (S36 × S36)} {bk L : List S36} {al : S36}
theorem QI.new (h : (joinRes bs []).2 = 0) : QI bs [] [] (joinRes bs []).1 [] := by
  obtain ⟨s, g⟩ := Gd.of h
  refine ⟨.nil, ?_, rfl, s, g⟩
  rw [g.join]
theorem QI.head (h : QI bs fs bk al L) : headS bs fs = joinA bs (fs.map Prod.fst).reverse := by
  obtain ⟨s, g⟩ := h.gd
  exact h.fr.head g.b
theorem QI.total (h : QI bs fs bk al L) : joinRes bs [headS bs fs, al] = joinRes bs L := by
  obtain ⟨s, g⟩ := h.gd
  rw [h.head, h.al]
  have hr := h.row
  subst hr
  rw [g.two, g.join]
theorem QI.push (h : QI bs fs bk al L) (a : S36) : (joinRes bs [headS bs fs, al, a]).2 = (joinRes bs [(joinRes bs L).1, a]).2 ∧ ((joinRes bs [headS bs fs, al, a]).2 = 0 → QI bs fs (bk ++ [a]) (joinRes bs [al, a]).1 (L ++ [a])) := by
  obtain ⟨s, g⟩ := h.gd
  have hr := h.row
  subst hr
  have e1 := g.more a
  rw [g.join, h.head, h.al]
  refine ⟨e1, fun h0 => ?_⟩
  rw [e1] at h0
  obtain ⟨t, gt⟩ := g.snoc h0
  refine ⟨h.fr, ?_, by rw [List.append_assoc], t, gt⟩
  rw [List.append_assoc] at gt
  have e2 := gt.right.two
  rw [joinA_one, zero_zs (gt.right.z a (by simp))] at e2
  rw [e2]
theorem turnS_ok : ∀ {l : List S36} {fs : List (S36 × S36)} {s : Int}, FrOk bs fs → Gd bs s (l.reverse ++ (fs.map Prod.fst).reverse) → FrOk bs (turnS bs fs l) ∧ (turnS bs fs l).map Prod.fst = fs.map Prod.fst ++ l
  | [], fs, s, h, g => ⟨h, by simp [turnS]⟩
  | a :: r, fs, s, h, g => by
    have g2 : Gd bs s (r.reverse ++ (a :: (fs.map Prod.fst).reverse)) := by simpa using g
    have e := (show Gd bs s ([a] ++ (fs.map Prod.fst).reverse) from g2.right).two
    rw [joinA_one, zero_zs (g2.right.z a (by simp)), List.singleton_append] at e
    have hf : FrOk bs (fs ++ [(a, (joinRes bs [a, headS bs fs]).1)]) := .snoc h (by rw [h.head g.b, e])
    have ih := turnS_ok (l := r) (s := s) hf (by simpa using g2)
    unfold turnS
    refine ⟨ih.1, ?_⟩
    rw [ih.2]
    simp
theorem QI.pop {fs' : List (S36 × S36)} {a j : S36} {bk' : List S36} {al' : S36} (h : QI bs fs bk al L) (hp : (fs' ++ [(a, j)], bk', al') = popS bs fs bk al) : ∃ L', L = a :: L' ∧ QI bs fs' bk' al' L' := by
  obtain ⟨s, g⟩ := h.gd
  have hr := h.row
  unfold popS at hp
  by_cases hf : fs = []
  · rw [if_pos hf] at hp
    subst hf
    injection hp with h1 hp
    injection hp with h2 h3
    have g2 : Gd bs s (bk.reverse.reverse ++ (([] : List (S36 × S36)).map Prod.fst).reverse) := by
      rw [List.reverse_reverse]
      simpa [hr] using g
    obtain ⟨t1, t2⟩ := turnS_ok .nil g2
    rw [← h1] at t1 t2
    have hL : L = a :: (fs'.map Prod.fst).reverse := by
      have := congrArg List.reverse t2
      simp at this
      rw [hr]
      simp [← this]
    subst h2 h3
    refine ⟨(fs'.map Prod.fst).reverse, hL, t1.back.1, ?_, by simp, s, ?_⟩
    · rw [(Gd.nil (s := 0) g.b).join]
    · rw [hL] at g
      exact g.right (L := [a])
  · rw [if_neg hf] at hp
    injection hp with h1 hp
    injection hp with h2 h3
    subst h1 h2 h3
    have hL : L = a :: ((fs'.map Prod.fst).reverse ++ bk') := by
      rw [hr]
      simp
    refine ⟨_, hL, h.fr.back.1, h.al, rfl, s, ?_⟩
    rw [hL] at g
    exact g.right (L := [a])
end
end Go.Proofs.Ytfgabafbcephaaa.My

namespace Go.Proofs.Ytfgabafbcephaaa.My
open Go.RowKit Pa Go.Proofs.YtfgabafbcephaaaW.PrintWords
set_option linter.unusedSimpArgs false
theorem item17_any (a b c d : Int) (w : World) :
    Calls Try.prog 26 #[.int .i64 a, .int .i64 b, .int .i64 c, .int .i64 d] w fun e w' => e = .returned (.agg #[.int .i64 a, .int .i64 b, .int .i64 c, .int .i64 d]) ∧ Below w.heap.size w w' :=
  bournelaw17_item.calls a b c d a b c d w rfl
set_option maxHeartbeats 4000000 in
set_option maxRecDepth 100000 in
theorem one17_any (x : S34) (bs : List Int) (A : Option Addr) (c : Nat) (w : World) (hr : RdI w A bs) (hc : bs.length ≤ c) :
    Calls Try.prog 25 #[.agg #[.int .i64 x.f0, .int .i64 x.f1, .int .i64 x.f2, .int .i64 x.f3], .slice A bs.length c] w fun e w' => ∃ v, e = .returned (acV (oneRes x bs).1 v) ∧ Own w' w.heap.size v (oneRes x bs).1.f6 ∧ Below w.heap.size w w' := by
  have hB0 : Below w.heap.size w (w.alloc (itO x)) := (Below.refl _ _).alloc (Nat.le_refl _) _
  have hB : Below w.heap.size w ((w.alloc (itO x)).alloc (acO z36 (.slice none 0 0))) := hB0.alloc (by simp) _
  have hx : ((w.alloc (itO x)).alloc (acO z36 (.slice none 0 0))).heap[w.heap.size]? = some (itO x) := blk_below (heap_alloc_new w (itO x)) ((Below.refl _ _).alloc (Nat.le_refl _) _)
  have hz : ((w.alloc (itO x)).alloc (acO z36 (.slice none 0 0))).heap[w.heap.size + 1]? = some (acO z36 (.slice none 0 0)) := by
    have := heap_alloc_new (w.alloc (itO x)) (acO z36 (.slice none 0 0))
    simpa using this
  have HR := Lib.hid (RdI.below hr hB)
  have HX := Lib.hid hB
  have HZ := Lib.hid hz
  have HC := Lib.hid hc
  obtain ⟨x0, x1, x2, x3, xl⟩ := itO_facts hx
  clear hr hc hB hB0 hz hx
  unfold itO at x0 x1 x2 x3 xl
  go_enter Try.func25, Try.ntmps25
  go_wp2_with fail
  clear x0 x1 x2 x3 xl
  show Calls _ _ _ ((w.alloc (itO x)).alloc (acO z36 (.slice none 0 0))) _
  generalize (w.alloc (itO x)).alloc (acO z36 (.slice none 0 0)) = w1 at *
  refine (rone_any x bs A c w1 HR.out HC.out).mono ?_
  rintro e w2 ⟨v, rfl, how, hb⟩
  obtain ⟨o, ho⟩ : ∃ o, o = (oneRes x bs).1 := ⟨_, rfl⟩
  obtain ⟨er, her⟩ : ∃ er, er = (oneRes x bs).2 := ⟨_, rfl⟩
  rw [← ho] at how ⊢
  rw [← her]
  have HRES := Lib.hid ho
  clear ho her
  obtain ⟨A2, c2, rfl, hl2, hr2⟩ := how.reads
  have hal : Below w2.heap.size w2 (w2.alloc (acO o (.slice A2 o.f6.length c2))) := (Below.refl _ _).alloc (Nat.le_refl _) _
  have HO := Lib.hid (show Own _ w.heap.size _ _ from own_weaken (Own.below how hal) HX.out.size)
  have hbb := hb.trans (hal.mono hb.size)
  have hzz := blk_below HZ.out hbb
  have HZZ := Lib.hid hzz
  have HB2 := Lib.hid (HX.out.trans (hbb.mono HX.out.size))
  clear how hb hbb hl2 hr2 hal HZ
  simp only [acV]
  obtain ⟨z0, z1, z2, z3, z4, z5, z6, z7, z8, z9, z10, z11, z12, zl⟩ := acO_facts hzz
  have hf := fun j => blk_free hzz j
  clear hzz
  unfold acO at z0 z1 z2 z3 z4 z5 z6 z7 z8 z9 z10 z11 z12 zl hf
  go_wp2_with fail
  show bodyPost _ _ _ _ _ (putA (w2.alloc (acO o (.slice A2 o.f6.length c2))) (w.heap.size + 1) o (.slice A2 o.f6.length c2))
  have hz2 := putA_blk (a := o) (v := .slice A2 o.f6.length c2) HZZ.out
  have hch := putA_chg (w2.alloc (acO o (.slice A2 o.f6.length c2))) (w.heap.size + 1) o (.slice A2 o.f6.length c2)
  refine bodyPost_ret (results_ac1 rfl _ _ (w.heap.size + 1) o (.slice A2 o.f6.length c2) rfl hz2) rfl ⟨.slice A2 o.f6.length c2, by rw [HRES.out], ?_, ?_⟩
  · rw [← HRES.out]
    exact HO.out.keep hch (fun k hk e => own_no HO.out HZZ.out (by rw [hk, e]))
  · exact Chg.base HB2.out hch HB2.out.size (fun i hi => by omega)
end Go.Proofs.Ytfgabafbcephaaa.My

namespace Go.Proofs.Ytfgabafbcephaaa.My
open Go.RowKit Pa Go.Proofs.YtfgabafbcephaaaW.PrintWords
set_option linter.unusedSimpArgs false
theorem shE_len (fr : List (AV × AV)) : (shE fr).length = fr.length := by simp [shE]
def QL (w : World) (F : Nat → Prop) (g : Nat) (bs : List Int) (L : List S36) : Prop := ∃ fr bk al bv fv kv av, QAt w F g bs fr bk al bv fv kv av ∧ QI bs (shE fr) (shA bk) al L
def RL (w : World) (F : Nat → Prop) (g : Nat) (bs : List Int) (L : List S36) : Prop := ∃ ps bv kv, RQ w F g bs ps bv kv ∧ L = shA ps
section
variable {w w1 : World} {F G S : Nat → Prop} {g : Nat} {bs : List Int} {L : List S36}
theorem QL.keep (h : QL w F g bs L) (hc : Chg S w w1) (hn : ∀ i, F i → ¬ S i) : QL w1 F g bs L := by
  obtain ⟨fr, bk, al, bv, fv, kv, av, h1, h2⟩ := h
  exact ⟨fr, bk, al, bv, fv, kv, av, h1.keep hc hn, h2⟩
theorem QL.below (h : QL w F g bs L) (hb : Below w.heap.size w w1) : QL w1 F g bs L := h.keep (S := fun _ => False) (Chg.of_below hb) (fun _ _ h => h)
theorem QL.mono (h : QL w F g bs L) (hf : ∀ i, i < w.heap.size → F i → G i) : QL w G g bs L := by
  obtain ⟨fr, bk, al, bv, fv, kv, av, h1, h2⟩ := h
  exact ⟨fr, bk, al, bv, fv, kv, av, h1.mono hf, h2⟩
theorem RL.keep (h : RL w F g bs L) (hc : Chg S w w1) (hn : ∀ i, F i → ¬ S i) : RL w1 F g bs L := by
  obtain ⟨ps, bv, kv, h1, h2⟩ := h
  exact ⟨ps, bv, kv, h1.keep hc hn, h2⟩
theorem RL.below (h : RL w F g bs L) (hb : Below w.heap.size w w1) : RL w1 F g bs L := h.keep (S := fun _ => False) (Chg.of_below hb) (fun _ _ h => h)
theorem RL.mono (h : RL w F g bs L) (hf : ∀ i, i < w.heap.size → F i → G i) : RL w G g bs L := by
  obtain ⟨ps, bv, kv, h1, h2⟩ := h
  exact ⟨ps, bv, kv, h1.mono hf, h2⟩
theorem joinRes_nil (bs : List Int) : ((joinRes bs []).2 = 0 ↔ bmay bs = true) := by
  unfold joinRes
  constructor
  · intro h
    by_cases ha : allm bs (-1) [] = true
    · exact ha
    · rw [if_neg ha] at h
      cases h
  · intro h
    have ha : allm bs (-1) [] = true := h
    rw [if_pos ha, if_neg (by simp [cnt])]
theorem QI.len {fs : List (S36 × S36)} {bk : List S36} {al : S36} (h : QI bs fs bk al L) : L.length = fs.length + bk.length := by
  rw [h.row]
  simp
theorem join_short {a J : S36} (h : (joinRes bs [J, a]).2 = 0) : a.f6.length ≤ 9 := by
  obtain ⟨s, g⟩ := Gd.of h
  have hz := g.z a (by simp)
  have hl := (amay_fit (zs_bm g.b hz).1).len
  have := bmay_len g.b
  omega
theorem qlnew_any (bs : List Int) (A : Option Addr) (c : Nat) (w : World) (hr : RdI w A bs) (hc : bs.length ≤ c) (hl : bs.length ≤ 17592186044415) :
    Calls Try.prog 11 #[.slice A bs.length c] w fun e w' =>
      (bmay bs = false ∧ e = .returned (.tuple #[.pointer none, .int .i64 1700]) ∧ Below w.heap.size w w') ∨
      (bmay bs = true ∧ ∃ g : Nat, e = .returned (.tuple #[.pointer (some ⟨g, 0, none⟩), .int .i64 0]) ∧ QL w' (fun i => w.heap.size ≤ i) g bs [] ∧ Below w.heap.size w w') :=
  (qnew_any bs A c w hr hc hl).mono fun e w' h => by
    rcases h with ⟨h0, h1, h2⟩ | ⟨h0, g, bv, av, h1, h2, h3⟩
    · exact .inl ⟨by rw [ne_eq, joinRes_nil] at h0; simpa using h0, h1, h2⟩
    · exact .inr ⟨(joinRes_nil bs).1 h0, g, h1, ⟨[], [], _, _, _, _, _, h2, QI.new h0⟩, h3⟩
theorem qllen_any (h : QL w F g bs L) (hl : L.length ≤ 400000) :
    Calls Try.prog 24 #[.pointer (some ⟨g, 0, none⟩)] w fun e w' => e = .returned (.int .i64 (L.length : Int)) ∧ Below w.heap.size w w' := by
  obtain ⟨fr, bk, al, bv, fv, kv, av, h1, h2⟩ := h
  have hn := h2.len
  rw [shE_len, shA_len] at hn
  rw [hn]
  exact qlen_any h1 (by omega)
theorem qltotal_any (h : QL w F g bs L) (hl : L.length ≤ 400000) :
    Calls Try.prog 22 #[.pointer (some ⟨g, 0, none⟩)] w fun e w' => ∃ v, e = .returned (acV (joinRes bs L).1 v) ∧ Own w' w.heap.size v (joinRes bs L).1.f6 ∧ Below w.heap.size w w' := by
  obtain ⟨fr, bk, al, bv, fv, kv, av, h1, h2⟩ := h
  have hn := h2.len
  rw [shE_len, shA_len] at hn
  have := qtotal_any h1 (by omega)
  rw [← headS_sh, h2.total] at this
  exact this
theorem qlpush_any (h : QL w F g bs L) (hl : L.length ≤ 400000) (a : S36) (A : Option Addr) (c : Nat) (ha : Own w 0 (.slice A a.f6.length c) a.f6) :
    Calls Try.prog 20 #[.pointer (some ⟨g, 0, none⟩), acV a (.slice A a.f6.length c)] w fun e w' =>
      ((joinRes bs [(joinRes bs L).1, a]).2 ≠ 0 ∧ e = .returned (.int .i64 1700) ∧ Below w.heap.size w w') ∨
      ((joinRes bs [(joinRes bs L).1, a]).2 = 0 ∧ e = .returned (.int .i64 0) ∧ QL w' (Gr F w w') g bs (L ++ [a]) ∧ Chg F w w') := by
  obtain ⟨fr, bk, al, bv, fv, kv, av, h1, h2⟩ := h
  have hn := h2.len
  rw [shE_len, shA_len] at hn
  obtain ⟨e1, e2⟩ := h2.push a
  have ep : pushErr bs fr al a = (joinRes bs [(joinRes bs L).1, a]).2 := by
    unfold pushErr
    rw [← headS_sh, e1]
  refine (qpush_any h1 (by omega) (by omega) a A c ha (fun h0 => join_short (by rw [← ep]; exact h0))).mono fun e w' hh => ?_
  rw [ep] at hh
  rcases hh with hh | ⟨h0, h3, va, kv', av', h4, h5⟩
  · exact .inl hh
  · refine .inr ⟨h0, h3, ⟨_, _, _, _, _, _, _, h4, ?_⟩, h5⟩
    have := e2 (by rw [e1]; exact h0)
    simpa [shA] using this
theorem qlpop_any (h : QL w F g bs L) (hl : L.length ≤ 400000) :
    Calls Try.prog 15 #[.pointer (some ⟨g, 0, none⟩)] w fun e w' =>
      (L = [] ∧ e = .returned (.tuple #[acV z36 (.slice none 0 0), .int .i64 1701]) ∧ Below w.heap.size w w') ∨
      ∃ (a : S36) (L' : List S36) (v : Value), L = a :: L' ∧ e = .returned (.tuple #[acV a v, .int .i64 0]) ∧ Own w' 0 v a.f6 ∧ (∀ k, v.ownBlock = some k → Gr F w w' k) ∧ QL w' (fun i => Gr F w w' i ∧ ¬ some i = v.ownBlock) g bs L' ∧ Chg F w w' := by
  obtain ⟨fr, bk, al, bv, fv, kv, av, h1, h2⟩ := h
  have hn := h2.len
  rw [shE_len, shA_len] at hn
  refine (qpop_any h1 (by omega)).mono fun e w' hh => ?_
  rcases hh with ⟨rfl, rfl, h3, h4⟩ | ⟨a, j, v, fr', bk', al', fv', kv', av', h3, hp, h4, h4', h5, h6⟩
  · refine .inl ⟨List.eq_nil_of_length_eq_zero (by simpa using hn), h3, h4⟩
  · obtain ⟨L', e1, q⟩ := h2.pop hp
    exact .inr ⟨a, L', v, e1, h3, h4, h4', ⟨_, _, _, _, _, _, _, h5, q⟩, h6⟩
theorem RL.all (h : RL w F g bs L) : ∃ bv A c, w.heap[g]? = some (rO bv (.slice A L.length c)) := by
  obtain ⟨ps, bv, kv, h1, rfl⟩ := h
  obtain ⟨A, c, rfl, _⟩ := row_form h1.ko
  exact ⟨bv, A, c, by rw [shA_len]; exact h1.blk⟩
end
end Go.Proofs.Ytfgabafbcephaaa.My

namespace Go.Proofs.Ytfgabafbcephaaa.My
open Go.RowKit Pa Go.Proofs.YtfgabafbcephaaaW.PrintWords
set_option linter.unusedSimpArgs false
structure QS (w0 w : World) (F : Nat → Prop) (g : Nat) (bs : List Int) (L : List S36) : Prop where
  q : QL w F g bs L
  new : ∀ i, F i → w0.heap.size ≤ i ∧ i < w.heap.size
  bel : Below w0.heap.size w0 w
section
variable {w0 w w1 : World} {F S : Nat → Prop} {g : Nat} {bs : List Int} {L : List S36}
theorem QS.quiet (h : QS w0 w F g bs L) (hb : Below w.heap.size w w1) : QS w0 w1 F g bs L :=
  ⟨h.q.below hb, fun i hi => ⟨(h.new i hi).1, Nat.lt_of_lt_of_le (h.new i hi).2 hb.size⟩, h.bel.trans (hb.mono h.bel.size)⟩
theorem qsnew_any (bs : List Int) (A : Option Addr) (c : Nat) (hw : Below w0.heap.size w0 w) (hr : RdI w A bs) (hc : bs.length ≤ c) (hl : bs.length ≤ 17592186044415) :
    Calls Try.prog 11 #[.slice A bs.length c] w fun e w' =>
      (bmay bs = false ∧ e = .returned (.tuple #[.pointer none, .int .i64 1700]) ∧ Below w.heap.size w w') ∨
      (bmay bs = true ∧ ∃ (g : Nat) (F : Nat → Prop), e = .returned (.tuple #[.pointer (some ⟨g, 0, none⟩), .int .i64 0]) ∧ QS w0 w' F g bs [] ∧ (∀ i, F i → w.heap.size ≤ i) ∧ Below w.heap.size w w') :=
  (qlnew_any bs A c w hr hc hl).mono fun e w' h => by
    rcases h with h | ⟨h0, g, h1, h2, h3⟩
    · exact .inl h
    · have := hw.size
      exact .inr ⟨h0, g, fun i => w.heap.size ≤ i ∧ i < w'.heap.size, h1, ⟨h2.mono (fun i hi hf => ⟨hf, hi⟩), fun i hi => ⟨by omega, hi.2⟩, hw.trans (h3.mono this)⟩, fun i hi => hi.1, h3⟩
theorem qspush_any (h : QS w0 w F g bs L) (hl : L.length ≤ 400000) (a : S36) (A : Option Addr) (c : Nat) (ha : Own w 0 (.slice A a.f6.length c) a.f6) :
    Calls Try.prog 20 #[.pointer (some ⟨g, 0, none⟩), acV a (.slice A a.f6.length c)] w fun e w' =>
      ((joinRes bs [(joinRes bs L).1, a]).2 ≠ 0 ∧ e = .returned (.int .i64 1700) ∧ Below w.heap.size w w') ∨
      ((joinRes bs [(joinRes bs L).1, a]).2 = 0 ∧ e = .returned (.int .i64 0) ∧ ∃ F', QS w0 w' F' g bs (L ++ [a]) ∧ (∀ i, F' i → F i ∨ w.heap.size ≤ i) ∧ Chg F w w') :=
  (qlpush_any h.q hl a A c ha).mono fun e w' hh => by
    rcases hh with hh | ⟨h0, h1, h2, h3⟩
    · exact .inl hh
    · have hs := h.bel.size
      have hz := h3.size
      refine .inr ⟨h0, h1, Gr F w w', ⟨h2, fun i hi => ?_, Chg.base h.bel h3 hs (fun i hi => (h.new i hi).1)⟩, fun i hi => hi.imp id (fun h => h.1), h3⟩
      rcases hi with hi | hi
      · have := h.new i hi
        omega
      · have := hi.1
        have := hi.2
        omega
theorem qspop_any (h : QS w0 w F g bs L) (hl : L.length ≤ 400000) :
    Calls Try.prog 15 #[.pointer (some ⟨g, 0, none⟩)] w fun e w' =>
      (L = [] ∧ e = .returned (.tuple #[acV z36 (.slice none 0 0), .int .i64 1701]) ∧ Below w.heap.size w w') ∨
      ∃ (a : S36) (L' : List S36) (v : Value) (F' : Nat → Prop), L = a :: L' ∧ e = .returned (.tuple #[acV a v, .int .i64 0]) ∧ Own w' 0 v a.f6 ∧ (∀ k, v.ownBlock = some k → ¬ F' k ∧ (F k ∨ w.heap.size ≤ k)) ∧ QS w0 w' F' g bs L' ∧ (∀ i, F' i → F i ∨ w.heap.size ≤ i) ∧ Chg F w w' :=
  (qlpop_any h.q hl).mono fun e w' hh => by
    rcases hh with hh | ⟨a, L', v, h0, h1, h2, h2', h3, h4⟩
    · exact .inl hh
    · have hs := h.bel.size
      have hz := h4.size
      refine .inr ⟨a, L', v, _, h0, h1, h2, fun k hk => ⟨fun hf => hf.2 hk.symm, (h2' k hk).imp id (fun h => h.1)⟩, ⟨h3, fun i hi => ?_, Chg.base h.bel h4 hs (fun i hi => (h.new i hi).1)⟩, fun i hi => hi.1.imp id (fun h => h.1), h4⟩
      rcases hi.1 with hi | hi
      · have := h.new i hi
        omega
      · have := hi.1
        have := hi.2
        omega
end
end Go.Proofs.Ytfgabafbcephaaa.My

namespace Go.Proofs.Ytfgabafbcephaaa.My
open Go.RowKit Pa Go.Proofs.YtfgabafbcephaaaW.PrintWords
set_option linter.unusedSimpArgs false
def qA : S36 := ⟨1, 5, 5, 5, ⟨0, 1, 1, 5⟩, ⟨0, 1, 1, 5⟩, [1]⟩
def qB : S36 := ⟨1, 7, 7, 7, ⟨0, 2, 2, 7⟩, ⟨0, 2, 2, 7⟩, [1]⟩
def qC : S36 := ⟨1, 7, 7, 7, ⟨1, 2, 2, 7⟩, ⟨1, 2, 2, 7⟩, [1]⟩
def qT : S36 := ⟨2, 12, 5, 7, ⟨0, 1, 1, 5⟩, ⟨0, 2, 2, 7⟩, [2]⟩
theorem q_new : bmay [] = true ∧ bmay [2, 1] = false := by decide +kernel
theorem q_one : oneRes ⟨0, 1, 1, 5⟩ [] = (qA, 0) ∧ oneRes ⟨0, 2, 2, 7⟩ [] = (qB, 0) ∧ oneRes ⟨1, 2, 2, 7⟩ [] = (qC, 0) := ⟨by kernel_rfl, by kernel_rfl, by kernel_rfl⟩
theorem q_p1 : (joinRes [] [(joinRes [] []).1, qA]).2 = 0 := by kernel_rfl
theorem q_p2 : (joinRes [] [(joinRes [] [qA]).1, qB]).2 = 0 := by kernel_rfl
theorem q_p3 : (joinRes [] [(joinRes [] [qB]).1, qC]).2 = 100 := by kernel_rfl
theorem q_tot : (joinRes [] [qA, qB]).1 = qT := by kernel_rfl
theorem rdI_none (w : World) : RdI w none [] := ⟨rfl, by simp, fun h => absurd h (by simp)⟩
theorem own_zero {w : World} {base : Nat} {v : Value} {l : List Int} (h : Own w base v l) : Own w 0 v l := own_weaken h (Nat.zero_le _)
set_option maxHeartbeats 16000000 in
set_option maxRecDepth 100000 in
theorem awake17_any (w : World) : Calls Try.prog 14 #[] w fun e w' => e = .returned (.bool true) ∧ Below w.heap.size w w' := by
  go_enter Try.func14, Try.ntmps14
  go_wp2_with fail
  refine (qsnew_any (w0 := w) [] none 0 (Below.refl _ _) (rdI_none _) (by simp) (by simp)).mono ?_
  rintro e w1 (⟨h, _⟩ | ⟨_, g, F1, rfl, hq, -, -⟩)
  · exact absurd h (by rw [q_new.1]; simp)
  have Q1 := Lib.hid hq
  clear hq
  go_wp2_with fail
  have hb : Below w1.heap.size w1 (w1.alloc (.cells #[.int .i64 2, .int .i64 1] 3)) := (Below.refl w1.heap.size w1).alloc (Nat.le_refl _) _
  have hrb : RdI (w1.alloc (.cells #[.int .i64 2, .int .i64 1] 3)) (some ⟨w1.heap.size, 0, none⟩) [2, 1] := rdI_blk (heap_alloc_new w1 (.cells #[.int .i64 2, .int .i64 1] 3)) (by decide)
  have Q2 := Lib.hid (Q1.out.quiet hb)
  have HR := Lib.hid hrb
  clear hb hrb Q1
  generalize w1.alloc (.cells #[.int .i64 2, .int .i64 1] 3) = w2 at *
  refine (qlnew_any [2, 1] (some ⟨w1.heap.size, 0, none⟩) 2 w2 HR.out (by simp) (by simp)).mono ?_
  rintro e w3 (⟨_, rfl, hb⟩ | ⟨h, _⟩)
  rotate_left 1
  · exact absurd h (by rw [q_new.2]; simp)
  have Q3 := Lib.hid (Q2.out.quiet hb)
  clear hb Q2 HR
  go_wp2_with fail
  refine (num_any _ _).mono ?_
  rintro e w' ⟨rfl, rfl⟩
  go_wp2_with fail
  refine (item17_any 0 1 1 5 _).mono ?_
  rintro e w4 ⟨rfl, hb⟩
  have Q4 := Lib.hid (Q3.out.quiet hb)
  clear hb Q3
  go_wp2_with fail
  refine (one17_any ⟨0, 1, 1, 5⟩ [] none 0 w4 (rdI_none _) (by simp)).mono ?_
  rintro e w5 ⟨v, rfl, how, hb⟩
  rw [q_one.1] at how ⊢
  have Q5 := Lib.hid (Q4.out.quiet hb)
  obtain ⟨A2, c2, rfl, _, _⟩ := how.reads
  have HO := Lib.hid how
  clear hb Q4 how
  go_wp2_with fail
  refine (qspush_any Q5.out (by simp) qA A2 c2 (own_zero HO.out)).mono ?_
  rintro e w6 (⟨h0, _⟩ | ⟨-, rfl, F2, hq, -, -⟩)
  · exact absurd q_p1 h0
  have Q6 := Lib.hid hq
  clear hq Q5 HO
  go_wp2_with fail
  refine (item17_any 0 2 2 7 _).mono ?_
  rintro e w7 ⟨rfl, hb⟩
  have Q7 := Lib.hid (Q6.out.quiet hb)
  clear hb Q6
  go_wp2_with fail
  refine (one17_any ⟨0, 2, 2, 7⟩ [] none 0 w7 (rdI_none _) (by simp)).mono ?_
  rintro e w8 ⟨v, rfl, how, hb⟩
  rw [q_one.2.1] at how ⊢
  have Q8 := Lib.hid (Q7.out.quiet hb)
  obtain ⟨A3, c3, rfl, _, _⟩ := how.reads
  have HO := Lib.hid how
  clear hb Q7 how
  go_wp2_with fail
  refine (qspush_any Q8.out (by simp) qB A3 c3 (own_zero HO.out)).mono ?_
  rintro e w9 (⟨h0, _⟩ | ⟨-, rfl, F3, hq, -, -⟩)
  · exact absurd q_p2 h0
  have Q9 := Lib.hid (show QS w w9 F3 g [] [qA, qB] from hq)
  clear hq Q8 HO
  go_wp2_with fail
  refine (qltotal_any Q9.out.q (by simp)).mono ?_
  rintro e wa ⟨v, rfl, how, hb⟩
  rw [q_tot] at how ⊢
  obtain ⟨A4, c4, rfl, _, _⟩ := how.reads
  have hal : Below wa.heap.size wa (wa.alloc (acO qT (.slice A4 1 c4))) := (Below.refl _ _).alloc (Nat.le_refl _) _
  have Qa := Lib.hid ((Q9.out.quiet hb).quiet hal)
  have VT := Lib.hid (heap_alloc_new wa (acO qT (.slice A4 1 c4)))
  have NT := Lib.hid (show ¬ F3 wa.heap.size from fun h => by have := ((Q9.out.quiet hb).new _ h).2; omega)
  clear hb how hal Q9
  simp only [acV, qT, List.length_cons, List.length_nil, Nat.zero_add, Nat.reduceAdd]
  go_wp2_with fail
  show Calls _ _ _ (wa.alloc (acO qT (.slice A4 1 c4))) _
  generalize wa.alloc (acO qT (.slice A4 1 c4)) = wb at *
  generalize wa.heap.size = tb at *
  refine (qspop_any Qa.out (by simp)).mono ?_
  rintro e wc (⟨h, _⟩ | ⟨a, L', v, F4, hL, rfl, how, -, hq, hF, hc⟩)
  · cases h
  injection hL with h1 h2
  subst h1 h2
  have VT2 := Lib.hid (hc.obj VT.out NT.out)
  have hlt := blk_lt VT.out
  have NT2 := Lib.hid (show ¬ F4 tb from fun h => (hF _ h).elim NT.out (fun h => by omega))
  obtain ⟨A5, c5, rfl, _, _⟩ := how.reads
  have hal : Below wc.heap.size wc (wc.alloc (acO qA (.slice A5 1 c5))) := (Below.refl _ _).alloc (Nat.le_refl _) _
  have Qc := Lib.hid (hq.quiet hal)
  have VX := Lib.hid (heap_alloc_new wc (acO qA (.slice A5 1 c5)))
  have NX := Lib.hid (show ¬ F4 wc.heap.size from fun h => by have := (hq.new _ h).2; omega)
  have VT3 := Lib.hid (blk_below VT2.out hal)
  clear hq hF hc how hal VT VT2 NT hlt Qa
  simp only [acV, qA, List.length_cons, List.length_nil, Nat.zero_add, Nat.reduceAdd]
  go_wp2_with fail
  show Calls _ _ _ (wc.alloc (acO qA (.slice A5 1 c5))) _
  generalize wc.alloc (acO qA (.slice A5 1 c5)) = wd at *
  generalize wc.heap.size = xb at *
  refine (item17_any 1 2 2 7 _).mono ?_
  rintro e we ⟨rfl, hb⟩
  have Qe := Lib.hid (Qc.out.quiet hb)
  have VTe := Lib.hid (blk_below VT3.out hb)
  have VXe := Lib.hid (blk_below VX.out hb)
  clear hb Qc VT3 VX
  go_wp2_with fail
  refine (one17_any ⟨1, 2, 2, 7⟩ [] none 0 we (rdI_none _) (by simp)).mono ?_
  rintro e wf ⟨v, rfl, how, hb⟩
  rw [q_one.2.2] at how ⊢
  have Qf := Lib.hid (Qe.out.quiet hb)
  have VTf := Lib.hid (blk_below VTe.out hb)
  have VXf := Lib.hid (blk_below VXe.out hb)
  obtain ⟨A6, c6, rfl, _, _⟩ := how.reads
  have HO := Lib.hid how
  clear hb Qe how VTe VXe
  go_wp2_with fail
  refine (qspush_any Qf.out (by simp) qC A6 c6 (own_zero HO.out)).mono ?_
  rintro e wg (⟨-, rfl, hb⟩ | ⟨h0, _⟩)
  rotate_left 1
  · exact absurd h0 (by rw [q_p3]; decide)
  have Qg := Lib.hid (Qf.out.quiet hb)
  have VTg := Lib.hid (blk_below VTf.out hb)
  have VXg := Lib.hid (blk_below VXf.out hb)
  clear hb Qf HO VTf VXf
  go_wp2_with fail
  refine (qspop_any Qg.out (by simp)).mono ?_
  rintro e wh (⟨h, _⟩ | ⟨a, L', v, F5, hL, rfl, how, -, hq, hF, hc⟩)
  · cases h
  injection hL with h1 h2
  subst h1 h2
  have VT2 := Lib.hid (hc.obj VTg.out NT2.out)
  have VX2 := Lib.hid (hc.obj VXg.out NX.out)
  have hlt := blk_lt VTg.out
  have hlx := blk_lt VXg.out
  have NT5 := Lib.hid (show ¬ F5 tb from fun h => (hF _ h).elim NT2.out (fun h => by omega))
  have NX5 := Lib.hid (show ¬ F5 xb from fun h => (hF _ h).elim NX.out (fun h => by omega))
  obtain ⟨A7, c7, rfl, _, _⟩ := how.reads
  have hal : Below wh.heap.size wh (wh.alloc (acO qB (.slice A7 1 c7))) := (Below.refl _ _).alloc (Nat.le_refl _) _
  have Qh := Lib.hid (hq.quiet hal)
  have VYh := Lib.hid (heap_alloc_new wh (acO qB (.slice A7 1 c7)))
  have VTh := Lib.hid (blk_below VT2.out hal)
  have VXh := Lib.hid (blk_below VX2.out hal)
  clear hq hF hc how hal VT2 VX2 NT2 NX hlt hlx Qg VTg VXg
  simp only [acV, qB, List.length_cons, List.length_nil, Nat.zero_add, Nat.reduceAdd]
  go_wp2_with fail
  show Calls _ _ _ (wh.alloc (acO qB (.slice A7 1 c7))) _
  generalize wh.alloc (acO qB (.slice A7 1 c7)) = wi at *
  generalize wh.heap.size = yb at *
  refine (qspop_any Qh.out (by simp)).mono ?_
  rintro e wj (⟨-, rfl, hb⟩ | ⟨a, L', v, F6, hL, _⟩)
  rotate_left 1
  · cases hL
  have hal : Below wj.heap.size wj (wj.alloc (acO z36 (.slice none 0 0))) := (Below.refl _ _).alloc (Nat.le_refl _) _
  have Qj := Lib.hid ((Qh.out.quiet hb).quiet hal)
  have VTj := blk_below (blk_below VTh.out hb) hal
  have VXj := blk_below (blk_below VXh.out hb) hal
  have VYj := blk_below (blk_below VYh.out hb) hal
  clear hb hal Qh VTh VXh VYh
  have VTk := Lib.hid VTj
  have VXk := Lib.hid VXj
  have VYk := Lib.hid VYj
  clear VTj VXj VYj
  simp only [acV, z36, z34]
  go_wp2_with fail
  change Calls _ _ _ (wj.alloc (acO z36 (.slice none 0 0))) _
  generalize wj.alloc (acO z36 (.slice none 0 0)) = wk at *
  obtain ⟨x0, x1, x2, x3, x4, x5, x6, x7, x8, x9, x10, x11, x12, xl⟩ := acO_facts VTk.out
  obtain ⟨y0, y1, y2, y3, y4, y5, y6, y7, y8, y9, y10, y11, y12, yl⟩ := acO_facts VXk.out
  obtain ⟨z0, z1, z2, z3, z4, z5, z6, z7, z8, z9, z10, z11, z12, zl⟩ := acO_facts VYk.out
  clear x2 x3 x4 x5 x6 x7 x8 x9 x10 x11 x12 y0 y2 y3 y4 y5 y6 y7 y8 y9 y10 y11 y12 z0 z2 z3 z4 z5 z6 z7 z8 z9 z10 z11 z12
  simp only [qT, qA, qB] at x0 x1 y1 z1
  refine (num_any _ _).mono ?_
  rintro e w' ⟨rfl, rfl⟩
  iterate 6 (
    go_wp2_with fail
    refine (num_any _ _).mono ?_
    rintro e w' ⟨rfl, rfl⟩)
  go_wp2_with fail
  refine (qllen_any Qj.out.q (by simp)).mono ?_
  rintro e wl ⟨rfl, hb⟩
  go_wp2_with fail
  go_ret
  exact ⟨rfl, (Qj.out.quiet hb).bel⟩
end Go.Proofs.Ytfgabafbcephaaa.My

namespace Go.Proofs.Ytfgabafbcephaaa.My
open Go.RowKit Pa Go.Proofs.YtfgabafbcephaaaW.PrintWords
set_option linter.unusedSimpArgs false

def marks (l : List Int) : List Int := l ++ [-7777, -8888]
theorem marks_len (l : List Int) : (marks l).length = l.length + 2 := by simp [marks]
def Lent (w : World) (base b cap : Nat) (l : List Int) : Prop := Own w base (.slice (some ⟨b, 0, none⟩) (l.length + 2) cap) (marks l)
theorem Own.cap {w : World} {base b n cap : Nat} {l : List Int} (h : Own w base (.slice (some ⟨b, 0, none⟩) n cap) l) : l.length ≤ cap ∧ cap ≤ maxLen := by
  obtain ⟨A, c, e, _, _⟩ := h.reads
  injection e with e1 e2 e3
  subst e2
  exact row_cap h
theorem Lent.rd {w : World} {base b cap : Nat} {l : List Int} (h : Lent w base b cap l) : RdI w (some ⟨b, 0, none⟩) l ∧ l.length + 2 ≤ cap := by
  obtain ⟨A, c, e, hl, hr⟩ := Own.reads h
  injection e with e1 e2 e3
  subst e1 e3
  rw [marks_len] at hl
  refine ⟨⟨rfl, by have := hr.2.1; rw [marks_len] at this; omega, fun hp => ?_⟩, hl⟩
  obtain ⟨ad, e, hc⟩ := hr.2.2 (by rw [marks_len]; omega)
  refine ⟨ad, e, fun j p hj => hc j p ?_⟩
  have hjl := (List.getElem?_eq_some_iff.1 hj).1
  unfold marks
  rw [List.getElem?_append_left hjl]
  exact hj
end Go.Proofs.Ytfgabafbcephaaa.My

namespace Go.Proofs.Ytfgabafbcephaaa.My
open Go.RowKit Pa Go.Proofs.YtfgabafbcephaaaW.PrintWords
set_option linter.unusedSimpArgs false
def pushR (bs : List Int) (L : List S36) (a : S36) : Int × List S36 := if (joinRes bs [(joinRes bs L).1, a]).2 = 0 then (0, L ++ [a]) else (1700, L)
theorem own_rd {w : World} {base n c : Nat} {A : Option Addr} {l : List Int} (h : Own w base (.slice A n c) l) : l.length ≤ c ∧ RdI w A l := by
  obtain ⟨A', c', e, h1, h2⟩ := h.reads
  injection e with e1 _ e3
  subst e1 e3
  exact ⟨h1, h2⟩
structure QP (w0 w : World) (F R : Nat → Prop) (g r : Nat) (bs : List Int) (L M : List S36) : Prop where
  q : QS w0 w F g bs L
  r : RL w R r bs M
  newR : ∀ i, R i → w0.heap.size ≤ i ∧ i < w.heap.size
  dis : ∀ i, F i → ¬ R i
section
variable {w0 w w1 : World} {F R S : Nat → Prop} {g r : Nat} {bs : List Int} {L M : List S36}
theorem QP.quiet (h : QP w0 w F R g r bs L M) (hb : Below w.heap.size w w1) : QP w0 w1 F R g r bs L M :=
  ⟨h.q.quiet hb, h.r.below hb, fun i hi => ⟨(h.newR i hi).1, Nat.lt_of_lt_of_le (h.newR i hi).2 hb.size⟩, h.dis⟩
end
end Go.Proofs.Ytfgabafbcephaaa.My

namespace Go.Proofs.Ytfgabafbcephaaa.My
open Go.RowKit Pa Go.Proofs.YtfgabafbcephaaaW.PrintWords

theorem and_bound (x : Int) (m : Nat) (hm : m < 9223372036854775808) : 0 ≤ bits .and .i64 x m ∧ bits .and .i64 x m ≤ m := by
  have e : bits .and .i64 x m = IntKind.i64.wrap ((BitVec.ofInt 64 x &&& BitVec.ofInt 64 m).toNat : Int) := rfl
  rw [e, BitVec.toNat_and]
  have h1 : (BitVec.ofInt 64 x).toNat &&& (BitVec.ofInt 64 (m : Int)).toNat ≤ (BitVec.ofInt 64 (m : Int)).toNat := Nat.and_le_right
  have h2 : (BitVec.ofInt 64 (m : Int)).toNat = m := by
    rw [BitVec.ofInt_natCast, BitVec.toNat_ofNat]
    exact Nat.mod_eq_of_lt (by omega)
  rw [h2] at h1 ⊢
  generalize (BitVec.ofInt 64 x).toNat &&& m = n at *
  rw [IntKind.wrap_i64]
  omega

end Go.Proofs.Ytfgabafbcephaaa.My

namespace Go.Proofs.Ytfgabafbcephaaa.My
open Go.RowKit Pa Go.Proofs.YtfgabafbcephaaaW.PrintWords
set_option linter.unusedSimpArgs false
theorem bm_zero : bmay [0] = true := by kernel_rfl
def so (l : List Int) (j : Nat) : S36 := one ⟨0, j, j + 1, bv (l.getD j 0)⟩ [0]
def Ls (l : List Int) (a : Nat) : Nat → List S36
  | 0 => []
  | n + 1 => Ls l a n ++ [so l (a + n)]
theorem Ls_len (l : List Int) (a : Nat) : ∀ n, (Ls l a n).length = n
  | 0 => rfl
  | n + 1 => by
    show (Ls l a n ++ _).length = _
    rw [List.length_append, Ls_len l a n]
    rfl
theorem Ls_cons (l : List Int) (a : Nat) : ∀ n, Ls l a (n + 1) = so l a :: Ls l (a + 1) n
  | 0 => rfl
  | n + 1 => by
    show Ls l a (n + 1) ++ [so l (a + (n + 1))] = _
    rw [Ls_cons l a n, show a + (n + 1) = a + 1 + n by omega]
    rfl
theorem bv_b2 (n : Int) : -500 ≤ bv n ∧ bv n ≤ 523 := by
  obtain ⟨h1, h2⟩ : 0 ≤ bits .and .i64 n 1023 ∧ bits .and .i64 n 1023 ≤ 1023 := and_bound n 1023 (by decide)
  unfold bv
  omega
theorem so_may (l : List Int) {j : Nat} (hj : j ≤ 100) : oneRes ⟨0, j, j + 1, bv (l.getD j 0)⟩ [0] = (so l j, 0) ∧ May1 [0] (so l j) ∧ (so l j).f4.f0 = 0 := by
  obtain ⟨h1, h2⟩ := bv_b2 (l.getD j 0)
  have hm : imay ⟨0, j, j + 1, bv (l.getD j 0)⟩ = true := by
    unfold imay
    rw [decide_eq_true_eq]
    simp only []
    omega
  refine ⟨?_, may1_one hm bm_zero, rfl⟩
  unfold oneRes
  rw [hm, bm_zero]
  rfl
theorem Ls_gd (l : List Int) (a : Nat) : ∀ n, a + n ≤ 100 → n ≤ 100 → Gd [0] 0 (Ls l a n) ∧ cnt (Ls l a n) = n
  | 0, _, _ => ⟨Gd.nil bm_zero, rfl⟩
  | n + 1, h, h2 => by
    obtain ⟨g, hc⟩ := Ls_gd l a n (by omega) (by omega)
    obtain ⟨_, m, s⟩ := so_may l (j := a + n) (by omega)
    have e : cnt (Ls l a (n + 1)) = n + 1 := by
      show cnt (Ls l a n ++ [so l (a + n)]) = _
      rw [cnt_append, hc]
      rfl
    refine ⟨⟨bm_zero, fun x hx => ?_, by rw [e]; omega⟩, by rw [e]; rfl⟩
    rcases List.mem_append.1 hx with hx | hx
    · exact g.z x hx
    · rw [List.mem_singleton.1 hx]
      exact .inr ⟨m, s⟩
theorem Ls_push (l : List Int) {a n : Nat} (h : a + n ≤ 99) (h2 : n ≤ 99) : pushR [0] (Ls l a n) (so l (a + n)) = (0, Ls l a (n + 1)) := by
  obtain ⟨g, _⟩ := Ls_gd l a (n + 1) (by omega) (by omega)
  have g' : Gd [0] 0 (Ls l a n ++ [so l (a + n)]) := g
  have e := g'.two
  rw [joinA_one, zero_zs (g'.z _ (by simp))] at e
  unfold pushR
  rw [g'.left.join, if_pos (by show (joinRes [0] [joinA [0] (Ls l a n), so l (a + n)]).2 = 0; rw [e])]
  rfl
structure Sl (l : List Int) (a n : Nat) (s lo hi up : Int) : Prop where
  none : n = 0 → s = 0 ∧ lo = 1099511627776 ∧ hi = -1099511627776 ∧ up = 0
  some : 0 < n → joinA [0] (Ls l a n) = ⟨n, s, lo, hi, ⟨0, a, a + 1, bv (l.getD a 0)⟩, ⟨0, (a + n : Nat) - 1, (a + n : Nat), bv (l.getD (a + n - 1) 0)⟩, [n - up, up]⟩
  u : 0 ≤ up ∧ up ≤ n
  b : -500 * n ≤ s ∧ s ≤ 523 * n
theorem Sl.zero (l : List Int) (a : Nat) : Sl l a 0 0 1099511627776 (-1099511627776) 0 := ⟨fun _ => ⟨rfl, rfl, rfl, rfl⟩, fun h => absurd h (by omega), by omega, by omega⟩
theorem bk_zero (v : Int) : bucket [0] v = if v ≤ 0 then 0 else 1 := by
  unfold bucket
  simp [bkt]
theorem so_eq (l : List Int) (j : Nat) : so l j = ⟨1, bv (l.getD j 0), bv (l.getD j 0), bv (l.getD j 0), ⟨0, j, j + 1, bv (l.getD j 0)⟩, ⟨0, j, j + 1, bv (l.getD j 0)⟩, if bv (l.getD j 0) ≤ 0 then [1, 0] else [0, 1]⟩ := by
  unfold so one
  rw [bk_zero]
  split <;> rfl
theorem Sl.succ {l : List Int} {a n : Nat} {s lo hi up : Int} (h : Sl l a n s lo hi up) (hn : a + n ≤ 90) (hn2 : n ≤ 90) : Sl l a (n + 1) (s + bv (l.getD (a + n) 0)) (if bv (l.getD (a + n) 0) < lo then bv (l.getD (a + n) 0) else lo) (if hi < bv (l.getD (a + n) 0) then bv (l.getD (a + n) 0) else hi) (if 0 < bv (l.getD (a + n) 0) then up + 1 else up) := by
  have hb := bv_b2 (l.getD (a + n) 0)
  have hu := h.u
  have hs := h.b
  have e : joinA [0] (Ls l a (n + 1)) = stepA (joinA [0] (Ls l a n)) (so l (a + n)) := joinA_append _ _ _
  refine ⟨fun h0 => absurd h0 (by omega), fun _ => ?_, by split <;> omega, by omega⟩
  rw [e]
  rcases Nat.eq_zero_or_pos n with rfl | hp
  · obtain ⟨rfl, rfl, rfl, rfl⟩ := h.none rfl
    obtain ⟨_, m, _⟩ := so_may l (j := a + 0) (by omega)
    show stepA (join0 [0]) _ = _
    rw [zero_step m, so_eq]
    simp only [Nat.add_zero] at *
    rw [if_pos (show bv (l.getD a 0) < 1099511627776 by omega), if_pos (show -1099511627776 < bv (l.getD a 0) by omega)]
    refine s28_ext rfl (by simp) rfl rfl rfl ?_ ?_
    · simp
    · by_cases hv : bv (l.getD a 0) ≤ 0
      · rw [if_pos hv, if_neg (by omega)]
        rfl
      · rw [if_neg hv, if_pos (by omega)]
        rfl
  · have hA := h.some hp
    rw [hA, step_pos (by rw [so_eq]; show (0 : Int) < 1; omega)]
    obtain ⟨p0, p1, p2, p3, p4, p5, p6⟩ := add_parts (⟨n, s, lo, hi, ⟨0, a, a + 1, bv (l.getD a 0)⟩, ⟨0, (a + n : Nat) - 1, (a + n : Nat), bv (l.getD (a + n - 1) 0)⟩, [n - up, up]⟩ : S36) (so l (a + n)) (by show (n : Int) ≠ 0; omega)
    rw [so_eq] at p0 p1 p2 p3 p4 p5 p6 ⊢
    simp only at p0 p1 p2 p3 p4 p5 p6
    refine s28_ext (by rw [p0]; simp) (by rw [p1]) (by rw [p2]) (by rw [p3]) ?_ ?_ ?_
    · rw [p4, if_neg]
      unfold ord
      simp only
      rw [if_neg (by omega)]
      split
      · omega
      · rw [if_neg (by omega)]
        split <;> omega
    · rw [p5, if_pos]
      · rw [show a + (n + 1) - 1 = a + n by omega]
        congr 1 <;> simp <;> omega
      · unfold ord
        simp only
        rw [if_neg (by omega), if_pos (by omega)]
        omega
    · rw [p6]
      by_cases hv : bv (l.getD (a + n) 0) ≤ 0
      · rw [if_pos hv, if_neg (show ¬ 0 < bv (l.getD (a + n) 0) by omega)]
        simp [hadd]
        omega
      · rw [if_neg hv, if_pos (show 0 < bv (l.getD (a + n) 0) by omega)]
        simp [hadd]
        omega
end Go.Proofs.Ytfgabafbcephaaa.My

namespace Go.Proofs.Ytfgabafbcephaaa.My
open Go.RowKit Pa Go.Proofs.YtfgabafbcephaaaW.PrintWords Go.Proofs.YtfgabafbcephaaaW.PrintMore
set_option linter.unusedSimpArgs false
attribute [local go_sem] max2_int min2_int max_two min_two
theorem bv_fold (n : Int) : wrap64 (bits .and .i64 n 1023 - 500) = bv n := by
  have := bv_b2 n
  unfold bv at *
  unfold wrap64
  omega
set_option maxHeartbeats 16000000 in
set_option maxRecDepth 100000 in
theorem qslides_any (A : Option Addr) (l : List Int) (c : Nat) (u : Int) (w : World) (hA : RdI w A l) (hc : l.length ≤ c) (hl : l.length ≤ 17592186044415) :
    Calls Try.prog 4 #[.slice A l.length c, .int .i64 u] w fun e w' => e = .returned (.bool true) ∧ Below w.heap.size w w' := by
  obtain ⟨d1, d2⟩ : 0 ≤ bits .and .i64 u 7 ∧ bits .and .i64 u 7 ≤ 7 := and_bound u 7 (by decide)
  have HA := Lib.hid (And.intro hA (And.intro hc hl))
  clear hA hc hl
  go_enter Try.func4, Try.ntmps4
  go_wp2_with fail
  refine (awake17_any _).mono ?_
  rintro e wa ⟨rfl, hb⟩
  have HW := Lib.hid hb
  clear hb
  go_wp2_with fail
  have hal : Below wa.heap.size wa (wa.alloc (.cells #[.int .i64 0] 3)) := (Below.refl wa.heap.size wa).alloc (Nat.le_refl _) _
  have RB := Lib.hid (rdI_blk (l := [0]) (heap_alloc_new wa (.cells #[.int .i64 0] 3)) (by simp))
  replace HW := Lib.hid (HW.out.trans (hal.mono HW.out.size))
  clear hal
  generalize wa.alloc (.cells #[.int .i64 0] 3) = wb at *
  refine (qsnew_any (w0 := w) [0] (some ⟨wa.heap.size, 0, none⟩) 1 HW.out RB.out (by simp) (by simp)).mono ?_
  rintro e w1 (⟨h, _⟩ | ⟨_, g, F1, rfl, hq, -, -⟩)
  · exact absurd h (by rw [bm_zero]; simp)
  have Q1 := Lib.hid hq
  clear hq HW RB
  go_wp2_with fail
  refine (num_any _ _).mono ?_
  rintro e w' ⟨rfl, rfl⟩
  obtain ⟨W, hW⟩ : ∃ W : Nat, 1 + bits .and .i64 u 7 = W := ⟨(1 + bits .and .i64 u 7).toNat, by omega⟩
  have HWW := Lib.hid (show 1 ≤ W ∧ W ≤ 8 by omega)
  go_wp2_with fail
  clear hW d1 d2
  go_loopw [8] (fun i wr => ∃ (k a n : Nat) (F : Nat → Prop), i = .int .i64 k ∧ k ≤ l.length ∧ k ≤ 40 ∧ Rel (a + n = k ∧ a = k - W) ∧ QS w wr F g [0] (Ls l a n)) (fun i _ => l.length - (intOf i).toNat)
  case atStart => exact ⟨0, 0, 0, _, rfl, by omega, by omega, ⟨rfl, by omega⟩, Q1.out⟩
  case round =>
    clear Q1
    obtain ⟨k, a, n, F, rfl, hk, hk40, hrl, hq⟩ := hrel
    have HR := Lib.hid hrl
    have QQ := Lib.hid hq
    clear hrl hq
    by_cases hlt : k < l.length ∧ k < 40
    · obtain ⟨hk1, hk2⟩ := hlt
      have hd1 : decide ((k : Int) < l.length) = true := decide_eq_true (by omega)
      have hd2 : decide ((k : Int) < 40) = true := decide_eq_true (by omega)
      obtain ⟨ad, hA0, e0⟩ := RdI.at_ (RdI.below HA.out.1 QQ.out.bel) hk1
      subst hA0
      have HK := Lib.hid (And.intro hk1 hk2)
      have hbv := bv_fold (l.getD k 0)
      have HV := Lib.hid (so_may l (j := k) (by omega))
      have hw1 : wrap64 ((k : Int) + 1) = (k : Int) + 1 := by unfold wrap64; omega
      have HPU := Lib.hid (Ls_push l (a := a) (n := n) (by have := HR.out.1; omega) (by have := HR.out.1; omega))
      rw [HR.out.1] at HPU
      obtain ⟨vk, hvk⟩ : ∃ vk, vk = bv (l.getD k 0) := ⟨_, rfl⟩
      rw [← hvk] at hbv HV
      obtain ⟨nk, hnk⟩ : ∃ nk, nk = l.getD k 0 := ⟨_, rfl⟩
      have HVK := Lib.hid hvk
      rw [← hnk] at e0 hbv
      clear hvk hnk
      go_wp2_with fail
      clear hbv hd1 hd2
      refine (item17_any 0 k (k + 1) vk _).mono ?_
      rintro e w2 ⟨rfl, hb⟩
      have hal : Below w2.heap.size w2 (w2.alloc (.cells #[.int .i64 0] 3)) := (Below.refl w2.heap.size w2).alloc (Nat.le_refl _) _
      have RB := Lib.hid (rdI_blk (l := [0]) (heap_alloc_new w2 (.cells #[.int .i64 0] 3)) (by simp))
      have Q2 := Lib.hid ((QQ.out.quiet hb).quiet hal)
      clear hb hal QQ e0
      go_wp2_with fail
      generalize w2.alloc (.cells #[.int .i64 0] 3) = w3 at *
      refine (one17_any ⟨0, k, k + 1, vk⟩ [0] (some ⟨w2.heap.size, 0, none⟩) 1 w3 RB.out (by simp)).mono ?_
      rintro e w4 ⟨v, rfl, how, hb⟩
      rw [HV.out.1] at how ⊢
      obtain ⟨A2, c2, rfl, _, _⟩ := how.reads
      have Q4 := Lib.hid (Q2.out.quiet hb)
      have HO := Lib.hid (own_zero how)
      clear hb how Q2 RB
      go_wp2_with fail
      refine (qspush_any Q4.out (by rw [Ls_len]; have := HR.out.1; omega) (so l k) A2 c2 HO.out).mono ?_
      have hpu := HPU.out
      unfold pushR at hpu
      rintro e w5 (⟨h0, _⟩ | ⟨h0, rfl, F5, hq, -, -⟩)
      · rw [if_neg h0] at hpu
        injection hpu with hpu
        exact absurd hpu (by decide)
      rw [if_pos h0] at hpu
      injection hpu with _ hpu
      rw [hpu] at hq
      have Q5 := Lib.hid hq
      clear hq h0 hpu Q4 HO HPU HV
      go_wp2_with fail
      refine (num_any _ _).mono ?_
      rintro e w' ⟨rfl, rfl⟩
      obtain ⟨a', m, ham, hcase⟩ : ∃ a' m : Nat, a' + m = k ∧ ((W ≤ k ∧ a' = a + 1 ∧ m + 1 = n) ∨ (k < W ∧ a' = 0 ∧ a = 0 ∧ m = n)) := by
        have := HR.out
        unfold Rel at this
        have := HWW.out
        by_cases hkw : W ≤ k
        · exact ⟨a + 1, n - 1, by omega, .inl ⟨hkw, rfl, by omega⟩⟩
        · exact ⟨0, n, by omega, .inr ⟨by omega, rfl, by omega, rfl⟩⟩
      have HAM := Lib.hid ham
      have HA1 := Lib.hid (show a' = k + 1 - W by
        have := HR.out.2
        rcases hcase with h | h <;> omega)
      rcases hcase with ⟨hkw, ha1, hm1⟩ | ⟨hkw, ha1, ha0, hm1⟩
      case' inl =>
        have hge : decide ((W : Int) ≤ (k : Int)) = true := decide_eq_true (by omega)
        have HAA := Lib.hid (And.intro ha1 hm1)
        have HKW := Lib.hid hkw
        clear ham ha1 hm1 hkw
        go_wp2_with fail
        refine (qspop_any Q5.out (by rw [Ls_len]; have := HR.out.1; omega)).mono ?_
        rintro e w6 (⟨h, _⟩ | ⟨x, L', v, F6, hL, rfl, how, -, hq, -, -⟩)
        · rw [Ls_cons] at h
          cases h
        rw [Ls_cons] at hL
        injection hL with h1 h2
        subst h1
        rw [← h2, ← HAA.out.1, ← HAA.out.2] at hq
        clear h2
        obtain ⟨A3, c3, rfl, _, _⟩ := how.reads
        have hal : Below w6.heap.size w6 (w6.alloc (acO (so l a) (.slice A3 (so l a).f6.length c3))) := (Below.refl _ _).alloc (Nat.le_refl _) _
        have Q6 := Lib.hid (hq.quiet hal)
        have VX := Lib.hid (heap_alloc_new w6 (acO (so l a) (.slice A3 (so l a).f6.length c3)))
        clear hq how hal Q5
        simp only [acV]
        go_wp2_with fail
        change Code.wp _ _ _ _ (w6.alloc (acO (so l a) (.slice A3 (so l a).f6.length c3)))
        generalize w6.alloc (acO (so l a) (.slice A3 (so l a).f6.length c3)) = w7 at *
        generalize w6.heap.size = xb at *
        obtain ⟨y0, y1, y2, y3, y4, y5, y6, y7, y8, y9, y10, y11, y12, yl⟩ := acO_facts VX.out
        clear y0 y2 y3 y4 y5 y6 y7 y8 y9 y10 y11 y12
        obtain ⟨ad2, hA1, e1⟩ := RdI.at_ (RdI.below HA.out.1 Q6.out.bel) (show a < l.length by have := HR.out.1; have := HK.out; omega)
        injection hA1 with hA1
        subst hA1
        have hba := bv_fold (l.getD a 0)
        have e2 : w7.cell? (ad.add (k - W)) = some (.int .i64 (l.getD a 0)) := by
          have := HR.out.2
          rw [← this]
          exact e1
        clear e1
        rw [show (so l a).f1 = bv (l.getD a 0) from rfl] at y1
        generalize bv (l.getD a 0) = va at *
        generalize l.getD a 0 = na at *
        have hkw1 : wrap64 ((k : Int) - (W : Int)) = (a : Int) := by
          have := HR.out
          unfold Rel at this
          have := HKW.out
          unfold wrap64
          omega
        refine Txt.wp_region_mix (by kernel_rfl) (by kernel_rfl) (fun HB => ?_)
        repeat (first
          | (refine Txt.mix_p (by rfl) rfl rfl (fun K hK => ?_); go_big_quiet_op; refine hK _ ?_; clear hK K)
          | (refine Txt.mix_re (by rfl) (by decide +kernel) (by rfl) (by rfl) (by go_simp) HB (fun K hK => ?_); go_big_quiet_op; refine hK _ ?_; clear hK K)
          | (refine Txt.mix_rl (by rfl) (by decide +kernel) (by rfl) (by rfl) (by go_simp) HB (fun K hK => ?_); go_big_quiet_op; refine hK _ ?_; clear hK K)
          | (refine Txt.mix_pass (by rfl) (by rfl) ?_; simp only [List.set_cons_succ, List.set_cons_zero]))
        refine Txt.mix_c (by rfl) (by decide +kernel) HB ?_
        intro w8 hw8 K hK
        replace HB := HB.trans hw8
        clear hw8
        go_wp2_with fail
        refine (num_any _ _).mono ?_
        rintro e w' ⟨rfl, rfl⟩
        refine hK _ _ ⟨Txt.Bw.refl _, ?_⟩
        clear hK K
        repeat (first
          | (refine Txt.mix_p (by rfl) rfl rfl (fun K hK => ?_); go_big_quiet_op; refine hK _ ?_; clear hK K)
          | (refine Txt.mix_re (by rfl) (by decide +kernel) (by rfl) (by rfl) (by go_simp) HB (fun K hK => ?_); go_big_quiet_op; refine hK _ ?_; clear hK K)
          | (refine Txt.mix_rl (by rfl) (by decide +kernel) (by rfl) (by rfl) (by go_simp) HB (fun K hK => ?_); go_big_quiet_op; refine hK _ ?_; clear hK K)
          | (refine Txt.mix_pass (by rfl) (by rfl) ?_; simp only [List.set_cons_succ, List.set_cons_zero]))
        refine Txt.mix_nil ?_
        have QF := Lib.hid (Q6.out.quiet HB.undrew)
        clear HB Q6 VX y1 yl e2 hba
        have hkw2 : wrap64 ((k : Int) - (W : Int) + 1) = (a' : Int) := by have := HAA.out.1; have := HR.out; unfold Rel at this; have := HKW.out; unfold wrap64; omega
        have hif : (if (0 : Int) < (a' : Int) then (a' : Int) else 0) = (a' : Int) := by
          have := HAA.out.1
          rw [if_pos (by omega)]
        go_wp2_with fail
        clear hge hkw1 hkw2 hif
        have hz : (k : Int) - (W : Int) + 1 = (a' : Int) := by
          have := HAA.out.1
          have := HR.out
          unfold Rel at this
          have := HKW.out
          omega
        rw [hz]
        clear hz
      case' inr =>
        have hge : decide ((W : Int) ≤ (k : Int)) = false := decide_eq_false (by omega)
        have hge2 : decide (W ≤ k) = false := decide_eq_false (by omega)
        have hge3 : ¬ W ≤ k := by omega
        obtain ⟨z, hz⟩ : ∃ z, (k : Int) - (W : Int) + 1 = z := ⟨_, rfl⟩
        have hkw1 : wrap64 ((k : Int) - (W : Int)) = (k : Int) - (W : Int) := by unfold wrap64; have := HWW.out; omega
        have hkw2 : wrap64 ((k : Int) - (W : Int) + 1) = z := by rw [← hz]; unfold wrap64; have := HWW.out; omega
        have hif : (if (0 : Int) < z then z else 0) = (a' : Int) := by
          rw [if_neg (by omega), ha1]
          rfl
        have QF := Lib.hid (show QS w w5 F5 g [0] (Ls l a' (m + 1)) from by rw [ha1, hm1]; have := Q5.out; rw [ha0] at this; exact this)
        clear hz ham ha1 ha0 hm1 hkw Q5
        go_wp2_with fail
        clear hge hge2 hge3 hkw1 hkw2 hif
      all_goals (
        go_loopw [14, 15, 16, 17, 18] (fun s lo hi up j wr => ∃ (n : Nat) (F : Nat → Prop) (sv lv hv uv : Int), s = .int .i64 sv ∧ lo = .int .i64 lv ∧ hi = .int .i64 hv ∧ up = .int .i64 uv ∧ j = .int .i64 ((a' + n : Nat) : Int) ∧ n ≤ m + 1 ∧ QS w wr F g [0] (Ls l a' (m + 1)) ∧ Rel (Sl l a' n sv lv hv uv)) (fun _ _ _ _ j _ => k + 1 - (intOf j).toNat)
        case atStart => exact ⟨0, _, 0, 1099511627776, -1099511627776, 0, rfl, rfl, rfl, rfl, by first | rfl | rw [Nat.add_zero], by omega, QF.out, Sl.zero l a'⟩
        case round =>
          clear QF
          obtain ⟨n', F', sv, lv, hv, uv, rfl, rfl, rfl, rfl, rfl, hn', hq, hsl⟩ := hrel
          have QI := Lib.hid hq
          have HS := Lib.hid hsl
          clear hq hsl
          by_cases hlt : n' < m + 1
          · have hd : decide (((a' + n' : Nat) : Int) ≤ (k : Int)) = true := decide_eq_true (by have := HAM.out; omega)
            obtain ⟨ad3, hA3, e3⟩ := RdI.at_ (RdI.below HA.out.1 QI.out.bel) (show a' + n' < l.length by have := HAM.out; have := HK.out; omega)
            injection hA3 with hA3
            subst hA3
            have hb3 := bv_fold (l.getD (a' + n') 0)
            have hbb := bv_b2 (l.getD (a' + n') 0)
            have HSN := Lib.hid (Sl.succ HS.out (by have := HAM.out; omega) (by have := HAM.out; omega))
            have hsb := HS.out.b
            have hub := HS.out.u
            generalize bv (l.getD (a' + n') 0) = v3 at *
            generalize l.getD (a' + n') 0 = n3 at *
            obtain ⟨j', hj'⟩ : ∃ j', a' + n' = j' := ⟨_, rfl⟩
            have HJ := Lib.hid hj'
            rw [hj'] at hd e3 ⊢
            clear hj'
            have hjk : j' ≤ 40 := by have := HJ.out; have := HAM.out; omega
            have hws : wrap64 (sv + v3) = sv + v3 := by unfold wrap64; have := HAM.out; omega
            have hwu : wrap64 (uv + 1) = uv + 1 := by unfold wrap64; have := HAM.out; omega
            have hwj : wrap64 ((j' : Int) + 1) = ((j' + 1 : Nat) : Int) := by unfold wrap64; omega
            obtain ⟨lv', hlv⟩ : ∃ z, (if v3 < lv then v3 else lv) = z := ⟨_, rfl⟩
            obtain ⟨hv', hhv⟩ : ∃ z, (if hv < v3 then v3 else hv) = z := ⟨_, rfl⟩
            clear hsb hub hbb hjk
            by_cases hpos : 0 < v3
            case' pos =>
              have hdp : decide ((0 : Int) < v3) = true := decide_eq_true hpos
            case' neg =>
              have hdp : decide ((0 : Int) < v3) = false := decide_eq_false hpos
            case' pos =>
              go_wp2_with fail
              any_goals (exfalso; have := of_decide_eq_true hd; omega)
              have hsn := HSN.out
              rw [hlv, hhv, if_pos hpos] at hsn
              have h1 := HJ.out
              have h2 := HAM.out
              refine ⟨⟨n' + 1, F', sv + v3, lv', hv', uv + 1, by rw [hws], rfl, rfl, by rw [hwu], ?_, by omega, QI.out, hsn⟩, ?_⟩
              · rw [show ((a' + (n' + 1) : Nat) : Int) = (j' : Int) + 1 by omega]
              · simp [intOf]; omega
            case' neg =>
              go_wp2_with fail
              any_goals (exfalso; have := of_decide_eq_true hd; omega)
              have hsn := HSN.out
              rw [hlv, hhv, if_neg hpos] at hsn
              have h1 := HJ.out
              have h2 := HAM.out
              refine ⟨⟨n' + 1, F', sv + v3, lv', hv', uv, by rw [hws], rfl, rfl, rfl, ?_, by omega, QI.out, hsn⟩, ?_⟩
              · rw [show ((a' + (n' + 1) : Nat) : Int) = (j' : Int) + 1 by omega]
              · simp [intOf]; omega
          · have hnm : n' = m + 1 := by omega
            subst hnm
            have hub := HS.out.u
            have hsm := HS.out.some (by omega)
            have hT : (joinRes [0] (Ls l a' (m + 1))).1 = ⟨(k : Int) - a' + 1, sv, lv, hv, ⟨0, a', (a' : Int) + 1, bv (l.getD a' 0)⟩, ⟨0, k, (k : Int) + 1, bv (l.getD k 0)⟩, [(k : Int) - a' + 1 - uv, uv]⟩ := by
              obtain ⟨gd, _⟩ := Ls_gd l a' (m + 1) (by have := HAM.out; omega) (by have := HAM.out; omega)
              have h2 := HAM.out
              rw [gd.join]
              show joinA [0] (Ls l a' (m + 1)) = _
              rw [hsm, show a' + (m + 1) - 1 = k by omega, show ((a' + (m + 1) : Nat) : Int) = (k : Int) + 1 by omega, show ((m + 1 : Nat) : Int) = (k : Int) - a' + 1 by omega, show (k : Int) + 1 - 1 = k by omega]
            have hjk : a' + (m + 1) = k + 1 := by have := HAM.out; omega
            have HT := Lib.hid hT
            have HU := Lib.hid hub
            rw [hjk]
            clear hsm hT hlt hjk hub
            have hd : decide (k + 1 ≤ k) = false := decide_eq_false (by omega)
            have hd3 : decide (((k + 1 : Nat) : Int) ≤ (k : Int)) = false := decide_eq_false (by omega)
            go_wp2_with fail
            clear hd hd3
            refine (qltotal_any QI.out.q (by rw [Ls_len]; have := HAM.out; omega)).mono ?_
            rintro e v1 ⟨v, rfl, how, hb⟩
            rw [HT.out] at how ⊢
            obtain ⟨A6, c6, rfl, _, _⟩ := how.reads
            obtain ⟨T, hT⟩ : ∃ T : S36, T = ⟨(k : Int) - a' + 1, sv, lv, hv, ⟨0, a', (a' : Int) + 1, bv (l.getD a' 0)⟩, ⟨0, k, (k : Int) + 1, bv (l.getD k 0)⟩, [(k : Int) - a' + 1 - uv, uv]⟩ := ⟨_, rfl⟩
            rw [← hT] at how ⊢
            have HTT := Lib.hid hT
            have hal : Below v1.heap.size v1 (v1.alloc (acO T (.slice A6 T.f6.length c6))) := (Below.refl _ _).alloc (Nat.le_refl _) _
            have QG := Lib.hid ((QI.out.quiet hb).quiet hal)
            have VT := Lib.hid (heap_alloc_new v1 (acO T (.slice A6 T.f6.length c6)))
            have RT := Lib.hid (own_rd (Own.below how hal))
            clear how hb hal hT QI HT
            simp only [acV]
            go_wp2_with fail
            change Code.wp _ _ _ _ (v1.alloc (acO T (.slice A6 T.f6.length c6)))
            generalize v1.alloc (acO T (.slice A6 T.f6.length c6)) = v2 at *
            generalize v1.heap.size = tb at *
            obtain ⟨y0, y1, y2, y3, y4, y5, y6, y7, y8, y9, y10, y11, y12, yl⟩ := acO_facts VT.out
            clear y4 y5 y7 y8 y9 y11
            have hlen : T.f6.length = 2 := by rw [HTT.out]; rfl
            rw [HTT.out] at y0 y1 y2 y3 y6 y10
            rw [hlen] at y12
            simp only at y0 y1 y2 y3 y6 y10
            have hak : a' ≤ k := by have := HAM.out; omega
            have hu1 : 0 ≤ uv := HU.out.1
            have hu2 : uv ≤ 41 := by have := HU.out.2; have := HAM.out; omega
            clear hw1
            refine Txt.wp_region_mix (by kernel_rfl) (by kernel_rfl) (fun HB => ?_)
            repeat (first
              | (refine Txt.mix_p (by rfl) rfl rfl (fun K hK => ?_); go_big_quiet_op; refine hK _ ?_; clear hK K)
              | (refine Txt.mix_re (by rfl) (by decide +kernel) (by rfl) (by rfl) (by go_simp) HB (fun K hK => ?_); go_big_quiet_op; refine hK _ ?_; clear hK K)
              | (refine Txt.mix_rl (by rfl) (by decide +kernel) (by rfl) (by rfl) (by go_simp) HB (fun K hK => ?_); go_big_quiet_op; refine hK _ ?_; clear hK K)
              | (refine Txt.mix_pass (by rfl) (by rfl) ?_; simp only [List.set_cons_succ, List.set_cons_zero]))
            refine Txt.mix_m (fun g => .slice (some ⟨g, 0, none⟩) 2 2) (.cells #[.int .i64 ((k : Int) - a' + 1 - uv), .int .i64 uv] 3) (by rfl) (by decide +kernel) (fun w1 => by go_simp) HB ?_
            intro pb v3' hb2 hg2 ho2
            have hrd2 : RdI v3' (some ⟨pb, 0, none⟩) [(k : Int) - a' + 1 - uv, uv] := rdI_blk ho2 (by simp)
            replace HB := HB.trans hb2
            have RD2 := Lib.hid hrd2
            clear hrd2 hb2 hg2 ho2
            simp only [Act.put, List.setIfInBounds_toArray, List.set_cons_succ, List.set_cons_zero]
            repeat (first
              | (refine Txt.mix_p (by rfl) rfl rfl (fun K hK => ?_); go_big_quiet_op; refine hK _ ?_; clear hK K)
              | (refine Txt.mix_re (by rfl) (by decide +kernel) (by rfl) (by rfl) (by go_simp) HB (fun K hK => ?_); go_big_quiet_op; refine hK _ ?_; clear hK K)
              | (refine Txt.mix_rl (by rfl) (by decide +kernel) (by rfl) (by rfl) (by go_simp) HB (fun K hK => ?_); go_big_quiet_op; refine hK _ ?_; clear hK K)
              | (refine Txt.mix_pass (by rfl) (by rfl) ?_; simp only [List.set_cons_succ, List.set_cons_zero]))
            refine Txt.mix_c (by rfl) (by decide +kernel) HB ?_
            intro v4 hw4 K hK
            replace RD2 := Lib.hid (RdI.below RD2.out hw4)
            replace HB := HB.trans hw4
            clear hw4
            go_wp2_with fail
            have hf6 : T.f6 = [(k : Int) - a' + 1 - uv, uv] := by rw [HTT.out]
            have hr6 := RdI.below RT.out.2 HB.undrew
            have hl6 := RT.out.1
            rw [hf6] at hr6 hl6
            refine (ints_yes [(k : Int) - a' + 1 - uv, uv] A6 (some ⟨pb, 0, none⟩) c6 2 v4 hr6 hl6 RD2.out (by simp) (by simp)).mono ?_
            rintro e v5 ⟨rfl, hb⟩
            refine hK _ _ ⟨hb, ?_⟩
            replace HB := HB.trans hb
            clear hK K hb hf6 hr6 hl6 RD2
            repeat (first
              | (refine Txt.mix_p (by rfl) rfl rfl (fun K hK => ?_); go_big_quiet_op; refine hK _ ?_; clear hK K)
              | (refine Txt.mix_re (by rfl) (by decide +kernel) (by rfl) (by rfl) (by go_simp) HB (fun K hK => ?_); go_big_quiet_op; refine hK _ ?_; clear hK K)
              | (refine Txt.mix_rl (by rfl) (by decide +kernel) (by rfl) (by rfl) (by go_simp) HB (fun K hK => ?_); go_big_quiet_op; refine hK _ ?_; clear hK K)
              | (refine Txt.mix_pass (by rfl) (by rfl) ?_; simp only [List.set_cons_succ, List.set_cons_zero]))
            refine Txt.mix_c (by rfl) (by decide +kernel) HB ?_
            intro v6 hw6 K hK
            replace HB := HB.trans hw6
            clear hw6
            go_wp2_with fail
            have hln := qllen_any (QG.out.q.below HB.undrew) (by rw [Ls_len]; have := HAM.out; omega)
            rw [Ls_len, show ((m + 1 : Nat) : Int) = (k : Int) - a' + 1 by have := HAM.out; omega] at hln
            refine hln.mono ?_
            clear hln
            rintro e v7 ⟨rfl, hb⟩
            refine hK _ _ ⟨hb, ?_⟩
            replace HB := HB.trans hb
            clear hK K hb
            repeat (first
              | (refine Txt.mix_p (by rfl) rfl rfl (fun K hK => ?_); go_big_quiet_op; refine hK _ ?_; clear hK K)
              | (refine Txt.mix_re (by rfl) (by decide +kernel) (by rfl) (by rfl) (by go_simp) HB (fun K hK => ?_); go_big_quiet_op; refine hK _ ?_; clear hK K)
              | (refine Txt.mix_rl (by rfl) (by decide +kernel) (by rfl) (by rfl) (by go_simp) HB (fun K hK => ?_); go_big_quiet_op; refine hK _ ?_; clear hK K)
              | (refine Txt.mix_pass (by rfl) (by rfl) ?_; simp only [List.set_cons_succ, List.set_cons_zero]))
            refine Txt.mix_nil ?_
            have QH := Lib.hid (QG.out.quiet HB.undrew)
            clear HB QG VT RT y0 y1 y2 y3 y6 y10 y12 yl
            go_wp2_with fail
            have h1 := HA1.out
            have h2 := HAM.out
            have h3 := HK.out
            exact ⟨⟨k + 1, a', m + 1, F', by simp, by omega, by omega, ⟨by omega, h1⟩, QH.out⟩, by simp [intOf]; omega⟩)
    · have hk5 : (k = l.length ∨ k = 40) := by omega
      rcases hk5 with hk5 | hk5
      · have hd : decide (k < l.length) = false := decide_eq_false (by omega)
        go_wp2_with fail
        go_ret
        exact ⟨rfl, QQ.out.bel⟩
      · by_cases hk6 : k < l.length
        · have hd : decide (k < l.length) = true := decide_eq_true hk6
          have hd2 : decide (k < 40) = false := decide_eq_false (by omega)
          go_wp2_with fail
          go_ret
          exact ⟨rfl, QQ.out.bel⟩
        · have hd : decide (k < l.length) = false := decide_eq_false (by omega)
          go_wp2_with fail
          go_ret
          exact ⟨rfl, QQ.out.bel⟩
theorem qslides_walk (A : Option Addr) (l : List Int) (c : Nat) (u : Int) (w : World) (hA : RdI w A l) (hc : l.length ≤ c) (hl : l.length * 8 ≤ 140737488351232) (_ : (Lit.int .i64 u).wf = true) :
    Calls Try.prog 4 #[.slice A l.length c, .int .i64 u] w fun e w' => e = .returned (.bool true) ∧ Below w.heap.size w w' := qslides_any A l c u w hA hc (by omega)
end Go.Proofs.Ytfgabafbcephaaa.My

namespace Go.Proofs.Ytfgabafbcephaaa.My
open Go.RowKit Pa Go.Proofs.YtfgabafbcephaaaW.PrintWords

theorem rd_of_row {w : World} {x : Addr} {len cap : Nat} {zs : List Int} (hl : len ≤ cap) (hm : cap ≤ maxLen) (hz : zs.length = cap)
    (hc : ∀ i, i < zs.length → w.cell? (x.add i) = some (.int .i64 (zs.getD i 0))) (hw : ∀ n ∈ zs, (Lit.int .i64 n).wf = true) :
    ∃ l : List Int, len = l.length ∧ RdI w (some x) l ∧ ∀ n ∈ l, (Lit.int .i64 n).wf = true := by
  refine ⟨zs.take len, by rw [List.length_take]; omega, ⟨rfl, ?_, fun _ => ⟨x, rfl, fun j p hp => ⟨[.int .i64 p], rfl, rfl, fun i u hu => ?_⟩⟩⟩, fun n hn => hw n (List.mem_of_mem_take hn)⟩
  · rw [List.length_take]
    have h : maxLen = 9223372036854775807 := by simp [maxLen]
    omega
  · rw [show j * (Kd.int .i64).sz + i = j + i by rw [show (Kd.int .i64).sz = 1 from rfl, Nat.mul_one]]
    cases i with
    | zero =>
      simp at hu
      subst hu
      have hj := (List.getElem?_eq_some_iff.1 hp).1
      rw [List.length_take] at hj
      have h1 := hc j (by omega)
      rw [List.getElem?_take] at hp
      split at hp
      · rw [List.getD_eq_getElem?_getD, hp] at h1
        exact h1
      · cases hp
    | succ i => simp at hu
end Go.Proofs.Ytfgabafbcephaaa.My

namespace Go.Proofs.Ytfgabafbcephaaa.My
open Go.RowKit Go.ChangeShapes Go.WideShapes Go.Deep Go.Joins Pa Go.Proofs.YtfgabafbcephaaaW.PrintWords

section
variable {H : Type} {enc : TypeId × Value → H} {W : World} {fuel base : Nat} {spare : Nat → Bool} {held : Bool} {x : DataW H × List MemPlace}

theorem open_int {cs : List Value} (h : DataW.trod enc Try.prog W base spare held fuel 3 cs = some x) : ∃ n, cs = [.int .i64 n] ∧ (Lit.int .i64 n).wf = true := by
  obtain ⟨n, e, _, hw⟩ := DataW.trod_int Try.underlying3 h
  exact ⟨n, e, hw⟩
theorem open_row {A : Option Addr} {len cap : Nat} (h : DataW.trod enc Try.prog W base spare held fuel 22 [.slice A len cap] = some x) : ∃ l : List Int, len = l.length ∧ RdI W A l ∧ len ≤ cap ∧ ∀ n ∈ l, (Lit.int .i64 n).wf = true := by
  rcases open_ints Try.underlying22 Try.underlying3 (by kernel_rfl) h with ⟨hcs, _⟩ | ⟨x, l, c, zs, hcs, _, hl, hm, hz, _, hcell, hwz⟩
  · simp at hcs
    obtain ⟨rfl, rfl, rfl⟩ := hcs
    exact ⟨[], rfl, rdI_nil _, Nat.le_refl _, by simp⟩
  · simp at hcs
    obtain ⟨rfl, rfl, rfl⟩ := hcs
    have hzl : len ≤ zs.length := by rw [hz]; split <;> omega
    have hzc : zs.length ≤ cap := by rw [hz]; split <;> omega
    obtain ⟨l, e, hr, hw⟩ := rd_of_row hzl (Nat.le_trans hzc hm) rfl hcell hwz
    exact ⟨l, e, hr, hl, hw⟩
end
end Go.Proofs.Ytfgabafbcephaaa.My
