/- A region of open order, walked once in the order of its text, where loads, new blocks and calls that leave what there is alone may stand unordered. Plain theorems over any program; no statement of the seed is proved here. -/
import Derived.Test.YtggaefklcpbfnaaText
import Derived.Below
namespace Go.Txt
open Go.RowKit

/-- p: touches no memory. re: reads what there was when the region began. rl: reads. m: lays one new block. c: a call that leaves what there is alone. a: all else. -/
inductive Ck where
  | p
  | re
  | rl
  | m
  | c
  | a
  deriving DecidableEq

def Bw (wb w : World) : Prop := Below wb.heap.size wb w
theorem Bw.refl (w : World) : Bw w w := Below.refl _ _
theorem Bw.trans {a b c : World} (h : Bw a b) (k : Bw b c) : Bw a c := Below.trans h (Below.mono k h.size)
theorem Bw.alloc (w : World) (o : Obj) : Bw w (w.alloc o) := (Below.refl _ _).alloc (Nat.le_refl _) o
theorem Bw.obj {w w' : World} (h : Bw w w') {g : Nat} {o : Obj} (hg : w.heap[g]? = some o) : w'.heap[g]? = some o := (h.block g (Array.getElem?_eq_some_iff.1 hg).1).trans hg

theorem Bw.undrew {w w' : World} (h : Bw w.drew w') : Below w.heap.size w w' := ⟨h.os, h.tape, h.output, h.size, h.block⟩

def stepF (P : Program) (wb : World) (k : Ck) (s : Sem Next) (w : World) (F : Tr → World → Prop) : Prop :=
  match k with
  | .p => ∃ v, (∀ w1, s.run P w1 = .ok (.value v) w1) ∧ F (.put v) w
  | .re => Bw wb w ∧ ∃ v, (∀ w1, Bw wb w1 → s.run P w1 = .ok (.value v) w1) ∧ F (.put v) w
  | .rl => Bw wb w ∧ ∃ v, (∀ w1, Bw w w1 → s.run P w1 = .ok (.value v) w1) ∧ F (.put v) w
  | .m => Bw wb w ∧ ∃ (mk : Nat → Value) (obj : Obj), (∀ w1, s.run P w1 = .ok (.value (mk w1.heap.size)) (w1.alloc obj)) ∧ ∀ g w', Bw w w' → wb.heap.size ≤ g → w'.heap[g]? = some obj → F (.put (mk g)) w'
  | .c => Bw wb w ∧ ∀ w1, Bw w w1 → outc P (s.run P w1) fun t w' => Bw w1 w' ∧ F t w'
  | .a => outc P (s.run P w) F

section
variable {P : Program} {wb w : World} {k kj ki : Ck} {s sj si : Sem Next} {F G : Tr → World → Prop}

theorem stepF_mono (h : ∀ t w', (k = .c ∨ k = .a ∨ ∃ v, t = .put v) → F t w' → G t w') (hs : stepF P wb k s w F) : stepF P wb k s w G := by
  cases k with
  | p =>
    obtain ⟨v, h1, h2⟩ := hs
    exact ⟨v, h1, h _ _ (.inr (.inr ⟨v, rfl⟩)) h2⟩
  | re =>
    obtain ⟨h0, v, h1, h2⟩ := hs
    exact ⟨h0, v, h1, h _ _ (.inr (.inr ⟨v, rfl⟩)) h2⟩
  | rl =>
    obtain ⟨h0, v, h1, h2⟩ := hs
    exact ⟨h0, v, h1, h _ _ (.inr (.inr ⟨v, rfl⟩)) h2⟩
  | m =>
    obtain ⟨h0, mk, obj, h1, h2⟩ := hs
    exact ⟨h0, mk, obj, h1, fun g w' a1 a2 a3 => h _ _ (.inr (.inr ⟨_, rfl⟩)) (h2 g w' a1 a2 a3)⟩
  | c =>
    obtain ⟨h0, h1⟩ := hs
    exact ⟨h0, fun w1 hw => outc_mono (fun t w' hk => ⟨hk.1, h _ _ (.inl rfl) hk.2⟩) (h1 w1 hw)⟩
  | a => exact outc_mono (fun t w' hk => h _ _ (.inr (.inl rfl)) hk) hs

theorem outc_some {r : Result Next} {φ : Prop} (h : outc P r fun _ _ => φ) : φ := by
  by_cases hp : φ
  · exact hp
  · exact (outc_false (outc_mono (fun _ _ hk => hp hk) h)).elim

/-- There is an outcome. -/
theorem stepF_some {φ : Prop} (hs : stepF P wb k s w fun _ _ => φ) : φ := by
  cases k with
  | p => obtain ⟨v, h1, h2⟩ := hs; exact h2
  | re => obtain ⟨h0, v, h1, h2⟩ := hs; exact h2
  | rl => obtain ⟨h0, v, h1, h2⟩ := hs; exact h2
  | m =>
    obtain ⟨h0, mk, obj, h1, h2⟩ := hs
    exact h2 w.heap.size (w.alloc obj) (Bw.alloc w obj) h0.size (heap_alloc_new w obj)
  | c =>
    obtain ⟨h0, h1⟩ := hs
    exact outc_some (outc_mono (fun _ _ hk => hk.2) (h1 w (Bw.refl w)))
  | a => exact outc_some hs

theorem value_inj {v u : Value} {w w' : World} (h : (Result.ok (Next.value v) w) = .ok (.value u) w') : v = u ∧ w = w' := by
  injection h with h1 h2
  injection h1 with h1
  exact ⟨h1, h2⟩

def swapK (kj ki : Ck) : Bool :=
  match kj, ki with
  | .p, _ => true
  | _, .p => true
  | .re, .re => true
  | .re, .rl => true
  | .rl, .re => true
  | .rl, .rl => true
  | .re, .m => true
  | .rl, .m => true
  | .re, .c => true
  | .rl, .c => true
  | .m, .re => true
  | .c, .re => true
  | .m, .m => true
  | .c, .m => true
  | _, _ => false

/-- The first touches no memory. -/
theorem swap_p {H : Tr → Tr → World → Prop} (h : stepF P wb .p sj w fun tj w1 => stepF P wb ki si w1 fun ti w2 => H tj ti w2) : stepF P wb ki si w fun ti w1 => stepF P wb .p sj w1 fun tj w2 => H tj ti w2 := by
  obtain ⟨v, h1, h2⟩ := h
  exact stepF_mono (fun t w' _ hk => ⟨v, h1, hk⟩) h2

/-- The second touches no memory. -/
theorem swap_ip {H : Tr → Tr → World → Prop} (h : stepF P wb kj sj w fun tj w1 => stepF P wb .p si w1 fun ti w2 => H tj ti w2) : stepF P wb .p si w fun ti w1 => stepF P wb kj sj w1 fun tj w2 => H tj ti w2 := by
  obtain ⟨v, hv⟩ : ∃ v, ∀ w1, si.run P w1 = .ok (.value v) w1 := stepF_some (stepF_mono (fun t w' _ hk => by obtain ⟨v, h1, _⟩ := hk; exact ⟨v, h1⟩) h)
  refine ⟨v, hv, stepF_mono (fun t w' _ hk => ?_) h⟩
  obtain ⟨u, hu, hk⟩ := hk
  have := (value_inj ((hv w').symm.trans (hu w'))).1
  rw [this]
  exact hk

/-- The second reads what there was. -/
theorem swap_ire {H : Tr → Tr → World → Prop} (hw : Bw wb w) (h : stepF P wb kj sj w fun tj w1 => stepF P wb .re si w1 fun ti w2 => H tj ti w2) : stepF P wb .re si w fun ti w1 => stepF P wb kj sj w1 fun tj w2 => H tj ti w2 := by
  obtain ⟨v, hv⟩ : ∃ v, ∀ w1, Bw wb w1 → si.run P w1 = .ok (.value v) w1 := stepF_some (stepF_mono (fun t w' _ hk => by obtain ⟨_, v, h1, _⟩ := hk; exact ⟨v, h1⟩) h)
  refine ⟨hw, v, hv, stepF_mono (fun t w' _ hk => ?_) h⟩
  obtain ⟨h0, u, hu, hk⟩ := hk
  have := (value_inj ((hv wb (Bw.refl wb)).symm.trans (hu wb (Bw.refl wb)))).1
  rw [this]
  exact hk

theorem stepF_swap (hk : swapK kj ki = true) {H : Tr → Tr → World → Prop} (h : stepF P wb kj sj w fun tj w1 => stepF P wb ki si w1 fun ti w2 => H tj ti w2) : stepF P wb ki si w fun ti w1 => stepF P wb kj sj w1 fun tj w2 => H tj ti w2 := by
  have late : ∀ {w1 : World}, Bw wb w → (∃ v, (∀ w2, Bw w w2 → sj.run P w2 = .ok (.value v) w2) ∧ H (.put v) (.put v) w1) → True := fun _ _ => trivial
  clear late
  cases ki with
  | p => exact swap_ip h
  | re =>
    cases kj with
    | p => exact swap_p h
    | re => exact swap_ire h.1 h
    | rl => exact swap_ire h.1 h
    | m => exact swap_ire h.1 h
    | c => exact swap_ire h.1 h
    | a => exact absurd hk (by decide)
  | rl =>
    cases kj with
    | p => exact swap_p h
    | re =>
      obtain ⟨h0, v, h1, _, u, h2, h3⟩ := h
      exact ⟨h0, u, h2, h0, v, h1, h3⟩
    | rl =>
      obtain ⟨h0, v, h1, _, u, h2, h3⟩ := h
      exact ⟨h0, u, h2, h0, v, h1, h3⟩
    | m => exact absurd hk (by decide)
    | c => exact absurd hk (by decide)
    | a => exact absurd hk (by decide)
  | m =>
    cases kj with
    | p => exact swap_p h
    | re =>
      obtain ⟨h0, v, h1, _, mk, obj, h2, h3⟩ := h
      exact ⟨h0, mk, obj, h2, fun g w' a1 a2 a3 => ⟨h0.trans a1, v, h1, h3 g w' a1 a2 a3⟩⟩
    | rl =>
      obtain ⟨h0, v, h1, _, mk, obj, h2, h3⟩ := h
      exact ⟨h0, mk, obj, h2, fun g w' a1 a2 a3 => ⟨h0.trans a1, v, fun w1 hb => h1 w1 (a1.trans hb), h3 g w' a1 a2 a3⟩⟩
    | m =>
      obtain ⟨h0, mkj, oj, h1, h2⟩ := h
      have hi := h2 w.heap.size (w.alloc oj) (Bw.alloc w oj) h0.size (heap_alloc_new w oj)
      obtain ⟨_, mki, oi, h3, _⟩ := hi
      refine ⟨h0, mki, oi, h3, fun gi wi a1 a2 a3 => ⟨h0.trans a1, mkj, oj, h1, fun gj wj b1 b2 b3 => ?_⟩⟩
      obtain ⟨_, mki', oi', h3', h4⟩ := h2 gj wj (a1.trans b1) b2 b3
      have e := (h3 wb).symm.trans (h3' wb)
      obtain ⟨e1, e2⟩ := value_inj e
      have eo : oi = oi' := by
        have := congrArg (fun w : World => w.heap[wb.heap.size]?) e2
        simp only [heap_alloc_new] at this
        exact Option.some.inj this
      subst eo
      have em : ∀ n, n = wb.heap.size → mki n = mki' n := fun n hn => by rw [hn]; exact e1
      clear em
      have all : mki gi = mki' gi := by
        have hgi := (h3 ⟨Array.replicate gi (Obj.chan 0 #[] false 0 0 false), wb.tape, wb.drawn, wb.os, wb.output⟩).symm.trans (h3' ⟨Array.replicate gi (Obj.chan 0 #[] false 0 0 false), wb.tape, wb.drawn, wb.os, wb.output⟩)
        have := (value_inj hgi).1
        simpa using this
      rw [all]
      exact h4 gi wj (Bw.refl _) a2 (b1.obj a3)
    | c =>
      obtain ⟨h0, h1⟩ := h
      obtain ⟨mki, oi, h3⟩ : ∃ (mk : Nat → Value) (obj : Obj), ∀ w1, si.run P w1 = .ok (.value (mk w1.heap.size)) (w1.alloc obj) :=
        outc_some (outc_mono (fun _ _ hk => by obtain ⟨_, _, mk, obj, h3, _⟩ := hk; exact ⟨mk, obj, h3⟩) (h1 w (Bw.refl w)))
      refine ⟨h0, mki, oi, h3, fun gi wi a1 a2 a3 => ⟨h0.trans a1, fun w1 b1 => outc_mono (fun t w' hk => ⟨hk.1, ?_⟩) (h1 w1 (a1.trans b1))⟩⟩
      obtain ⟨hk1, _, mki', oi', h3', h4⟩ := hk
      have all : ∀ n, mki n = mki' n := fun n => by
        have hgi := (h3 ⟨Array.replicate n (Obj.chan 0 #[] false 0 0 false), wb.tape, wb.drawn, wb.os, wb.output⟩).symm.trans (h3' ⟨Array.replicate n (Obj.chan 0 #[] false 0 0 false), wb.tape, wb.drawn, wb.os, wb.output⟩)
        have := (value_inj hgi).1
        simpa using this
      have eo : oi = oi' := by
        have := congrArg (fun w : World => w.heap[wb.heap.size]?) (value_inj ((h3 wb).symm.trans (h3' wb))).2
        simp only [heap_alloc_new] at this
        exact Option.some.inj this
      subst eo
      rw [all]
      exact h4 gi w' (Bw.refl _) a2 ((b1.trans hk1).obj a3)
    | a => exact absurd hk (by decide)
  | c =>
    cases kj with
    | p => exact swap_p h
    | re =>
      obtain ⟨h0, v, h1, _, h2⟩ := h
      exact ⟨h0, fun w1 hw => outc_mono (fun t w' hk => ⟨hk.1, (h0.trans hw).trans hk.1, v, h1, hk.2⟩) (h2 w1 hw)⟩
    | rl =>
      obtain ⟨h0, v, h1, _, h2⟩ := h
      exact ⟨h0, fun w1 hw => outc_mono (fun t w' hk => ⟨hk.1, (h0.trans hw).trans hk.1, v, fun w2 hb => h1 w2 ((hw.trans hk.1).trans hb), hk.2⟩) (h2 w1 hw)⟩
    | m => exact absurd hk (by decide)
    | c => exact absurd hk (by decide)
    | a => exact absurd hk (by decide)
  | a =>
    cases kj with
    | p => exact swap_p h
    | re => exact absurd hk (by decide)
    | rl => exact absurd hk (by decide)
    | m => exact absurd hk (by decide)
    | c => exact absurd hk (by decide)
    | a => exact absurd hk (by decide)

/-- What a step is worth in the machine. -/
theorem outc_of_stepF (hs : stepF P wb k s w F) : outc P (s.run P w) F := by
  cases k with
  | p => obtain ⟨v, h1, h2⟩ := hs; rw [h1]; exact h2
  | re => obtain ⟨h0, v, h1, h2⟩ := hs; rw [h1 w h0]; exact h2
  | rl => obtain ⟨h0, v, h1, h2⟩ := hs; rw [h1 w (Bw.refl w)]; exact h2
  | m =>
    obtain ⟨h0, mk, obj, h1, h2⟩ := hs
    rw [h1]
    exact h2 _ _ (Bw.alloc w obj) h0.size (heap_alloc_new w obj)
  | c =>
    obtain ⟨h0, h1⟩ := hs
    exact outc_mono (fun _ _ hk => hk.2) (h1 w (Bw.refl w))
  | a => exact hs
end

section
variable {P : Program} {ops : Array Oper} {wb : World}

def stepM (P : Program) (ops : Array Oper) (wb : World) (k : Ck) (o : Oper) (K : Act → World → Prop) (a : Act) (w : World) : Prop :=
  if Region.wanted o (yielded ops a.tmps) then stepF P wb k (execOp a.eval o) w fun t w' => K (t.on o.dst a) w' else K ((Tr.put undef).on o.dst a) w

theorem stepM_mono {k : Ck} {o : Oper} {K K' : Act → World → Prop} {a : Act} {w : World} (h : ∀ a w, K a w → K' a w) (hs : stepM P ops wb k o K a w) : stepM P ops wb k o K' a w := by
  unfold stepM at *
  split
  · rename_i hw
    rw [if_pos hw] at hs
    exact stepF_mono (fun _ _ _ he => h _ _ he) hs
  · rename_i hw
    rw [if_neg hw] at hs
    exact h _ _ hs

theorem on_comm {t u : Tr} (h : (∃ v, t = .put v) ∨ ∃ v, u = .put v) (x y : Option Tmp) (a : Act) (hd : ∀ d, x = some d → y ≠ some d) : t.on x (u.on y a) = u.on y (t.on x a) := by
  have hd' : ∀ d, y = some d → x ≠ some d := fun d h1 h2 => hd d h2 h1
  rcases h with ⟨v, rfl⟩ | ⟨v, rfl⟩
  · exact (put_on_comm u y x a v hd).symm
  · exact put_on_comm t x y a v hd'

theorem swapK_put {kj ki : Ck} (h : swapK kj ki = true) : (kj ≠ .c ∧ kj ≠ .a) ∨ (ki ≠ .c ∧ ki ≠ .a) := by
  cases kj <;> cases ki <;> first | exact absurd h (by decide) | (left; constructor <;> (intro hh; cases hh); done) | (right; constructor <;> (intro hh; cases hh); done)

theorem stepM_swap {kj ki : Ck} {oi oj : Oper} (hap : oj.apart ops oi = true) (hsi : ∀ cs b, oi.op ≠ .select cs b) (hsj : ∀ cs b, oj.op ≠ .select cs b) (hk : swapK kj ki = true) {K : Act → World → Prop} {a : Act} {w : World}
    (h : stepM P ops wb kj oj (stepM P ops wb ki oi K) a w) : stepM P ops wb ki oi (stepM P ops wb kj oj K) a w := by
  obtain ⟨h1, h2, h3⟩ := Oper.apart_spec hap
  have ej : ∀ (t : Tr), execOp (t.on oi.dst a).eval oj = execOp a.eval oj := fun t => exec_on t _ _ oj hsj h3
  have wj : ∀ (t : Tr), Region.wanted oj (yielded ops (t.on oi.dst a).tmps) = Region.wanted oj (yielded ops a.tmps) := fun t => wanted_on t _ _ oj h3
  have ei : ∀ (t : Tr), execOp (t.on oj.dst a).eval oi = execOp a.eval oi := fun t => exec_on t _ _ oi hsi h1
  have wi : ∀ (t : Tr), Region.wanted oi (yielded ops (t.on oj.dst a).tmps) = Region.wanted oi (yielded ops a.tmps) := fun t => wanted_on t _ _ oi h1
  have cm : ∀ (ti tj : Tr), ((∃ v, ti = .put v) ∨ ∃ v, tj = .put v) → ti.on oi.dst (tj.on oj.dst a) = tj.on oj.dst (ti.on oi.dst a) := fun ti tj hh => on_comm hh _ _ a (fun d e1 e2 => h2 d e2 e1)
  unfold stepM at h ⊢
  by_cases wa : Region.wanted oj (yielded ops a.tmps) = true
  · by_cases wb' : Region.wanted oi (yielded ops a.tmps) = true
    · rw [if_pos wa] at h
      rw [if_pos wb']
      simp only [wi, if_pos wb', ei] at h
      simp only [wj, if_pos wa, ej]
      have hs := stepF_swap hk (H := fun tj ti w2 => K (ti.on oi.dst (tj.on oj.dst a)) w2) h
      refine stepF_mono (fun ti w1 hti hk1 => stepF_mono (fun tj w2 htj hk2 => ?_) hk1) hs
      rw [← cm ti tj ?_]
      · exact hk2
      · rcases swapK_put hk with ⟨n1, n2⟩ | ⟨n1, n2⟩
        · exact .inr ((htj.resolve_left n1).resolve_left n2)
        · exact .inl ((hti.resolve_left n1).resolve_left n2)
    · rw [if_pos wa] at h
      rw [if_neg wb']
      simp only [wi, if_neg wb'] at h
      simp only [wj, if_pos wa, ej]
      refine stepF_mono (fun tj w2 htj hk2 => ?_) h
      rw [← cm (.put undef) tj (.inl ⟨_, rfl⟩)]
      exact hk2
  · rw [if_neg wa] at h
    simp only [wi, ei] at h
    simp only [wj, if_neg wa]
    by_cases wb' : Region.wanted oi (yielded ops a.tmps) = true
    · rw [if_pos wb'] at h ⊢
      refine stepF_mono (fun ti w2 hti hk2 => ?_) h
      rw [← cm ti (.put undef) (.inr ⟨_, rfl⟩)]
      exact hk2
    · rw [if_neg wb'] at h ⊢
      rw [← cm (.put undef) (.put undef) (.inr ⟨_, rfl⟩)]
      exact h

theorem wpOp_of_stepM {i : Nat} {k : Ck} {o : Oper} (hi : ops[i]? = some o) {K : Act → World → Prop} {Q : Exit → Act → World → Prop} {a : Act} {w : World} (hs : stepM P ops wb k o K a w) : wpOp P ops Q i K a w := by
  unfold stepM at hs
  unfold wpOp
  simp only [hi]
  split
  · rename_i hw
    rw [if_pos hw] at hs
    exact .inl (wp_of_outc (outc_of_stepF hs))
  · rename_i hw
    rw [if_neg hw] at hs
    exact hs

def kop : Op → Ck
  | .move _ => .p
  | .assign _ => .p
  | .pick .. => .p
  | .nilCheck _ => .p
  | .binOp .. => .p
  | .unOp .. => .p
  | .convert .. => .p
  | .fieldAddr .. => .p
  | .field .. => .p
  | .indexAddr .. => .p
  | .index .. => .p
  | .extract .. => .p
  | .slice .. => .p
  | .build .. => .p
  | .makeFunc .. => .p
  | .load .. => .re
  | .alloc _ => .m
  | .box .. => .m
  | .buildSlice .. => .m
  | .makeSlice .. => .m
  | .call c => match c.callee with
    | .builtin .len => .p
    | .builtin .cap => .p
    | .builtin .max => .p
    | .builtin .min => .p
    | .value _ => .c
    | _ => .a
  | _ => .a

/-- Is operation i reached, by data, from a new block or a call? -/
def dat (ops : Array Oper) : Nat → Nat → Bool
  | 0, _ => true
  | n + 1, i => match ops[i]? with
    | some o => o.after.toList.any fun e => decide (e.ground = .data) && ((match ops[e.on]? with | some oj => decide (kop oj.op = .m) || decide (kop oj.op = .c) | none => false) || dat ops n e.on)
    | none => false

/-- The kind of operation i in its region: behind an 'a' all that touches memory counts as one; a load whose address comes from a new block or a call reads late. -/
def kat (ops : Array Oper) (B : Array Nat) (i : Nat) (o : Oper) : Ck :=
  match kop o.op with
  | .p => .p
  | .a => .a
  | k => if (List.range i).any (fun j => match ops[j]? with | some oj => decide (kop oj.op = .a) | none => false) then .a
    else match k with
      | .re => if (List.range i).any (fun j => (B.getD i 0).testBit j && match ops[j]? with | some oj => decide (kop oj.op = .m) || decide (kop oj.op = .c) | none => false) && dat ops (i + 1) i then .rl else .re
      | k => k
theorem kat_p {ops : Array Oper} {B : Array Nat} {i : Nat} {o : Oper} (h : kop o.op = .p) : kat ops B i o = .p := by unfold kat; rw [h]

def runM (P : Program) (ops : Array Oper) (wb : World) (B : Array Nat) (Q : Act → World → Prop) : List Nat → Act → World → Prop
  | [], a, w => Q a w
  | i :: r, a, w => match ops[i]? with
    | some o => stepM P ops wb (kat ops B i o) o (runM P ops wb B Q r) a w
    | none => runM P ops wb B Q r a w

def orderedOrSwapsM (ops : Array Oper) (B : Array Nat) (j i : Nat) : Bool :=
  (B.getD i 0).testBit j || match ops[j]?, ops[i]? with
    | some oj, some oi => oj.apart ops oi && swapK (kat ops B j oj) (kat ops B i oi)
    | _, _ => false

def mixB (ops : Array Oper) (B : Array Nat) : Bool :=
  Region.noSelect ops && (List.range ops.size).all fun i =>
    (match ops[i]? with
      | some o => o.after.toList.all (fun e => !Region.binds .any e || decide (e.on < i)) && ((B.getD i 0 ||| upOf B o) == upOf B o)
      | none => true) && (List.range i).all fun j => orderedOrSwapsM ops B j i

theorem mixB_row {B : Array Nat} (h : mixB ops B = true) {i : Nat} {o : Oper} (hi : ops[i]? = some o) :
    (∀ e ∈ o.after, Region.binds .any e = true → e.on < i) ∧ (∀ j, (B.getD i 0).testBit j = true → ∃ e ∈ o.after, Region.binds .any e = true ∧ (e.on = j ∨ (B.getD e.on 0).testBit j = true)) ∧ ∀ j, j < i → orderedOrSwapsM ops B j i = true := by
  have hlt : i < ops.size := (Array.getElem?_eq_some_iff.1 hi).1
  simp only [mixB, Bool.and_eq_true, List.all_eq_true, List.mem_range] at h
  have h1 := h.2 i hlt
  rw [hi] at h1
  simp only [Bool.and_eq_true, List.all_eq_true, Bool.or_eq_true, Bool.not_eq_true', decide_eq_true_eq, beq_iff_eq] at h1
  obtain ⟨⟨h2, h3⟩, h4⟩ := h1
  refine ⟨fun e he hb => ?_, fun j hj => ?_, h4⟩
  · rcases h2 e (by simpa using he) with h | h
    · rw [hb] at h; cases h
    · exact h
  · refine upOf_bit ?_
    rw [← h3, Nat.testBit_or, hj, Bool.true_or]

theorem bits_listedM {B : Array Nat} (hB : mixB ops B = true) {listed : Array Bool} (hs : Shut ops listed) : ∀ (m i : Nat), i ≤ m → ∀ o, ops[i]? = some o → (∀ e ∈ o.after, Region.binds .any e = true → listed.getD e.on false = true) →
    ∀ j, (B.getD i 0).testBit j = true → listed.getD j false = true := by
  intro m
  induction m with
  | zero =>
    intro i hi o ho hd j hj
    obtain ⟨h1, h2, _⟩ := mixB_row hB ho
    obtain ⟨e, he, hb, _⟩ := h2 j hj
    have := h1 e he hb
    omega
  | succ m ih =>
    intro i hi o ho hd j hj
    obtain ⟨h1, h2, _⟩ := mixB_row hB ho
    obtain ⟨e, he, hb, hj⟩ := h2 j hj
    have hlt := h1 e he hb
    have hl := hd e he hb
    rcases hj with rfl | hj
    · exact hl
    · have hsz : i < ops.size := (Array.getElem?_eq_some_iff.1 ho).1
      have hoe : ops[e.on]? = some ops[e.on] := Array.getElem?_eq_getElem (by omega)
      exact ih e.on (by omega) _ hoe (fun e' he' hb' => hs _ _ hoe hl e' he' hb') j hj

theorem runM_front {B : Array Nat} {Q : Act → World → Prop} {i : Nat} {oi : Oper} (hi : ops[i]? = some oi) (hsel : ∀ (j : Nat) (o : Oper) cs b, ops[j]? = some o → o.op ≠ .select cs b) :
    ∀ (l1 l2 : List Nat) (a : Act) (w : World),
      (∀ j ∈ l1, ∃ oj, ops[j]? = some oj ∧ oj.apart ops oi = true ∧ swapK (kat ops B j oj) (kat ops B i oi) = true) →
      runM P ops wb B Q (l1 ++ i :: l2) a w → stepM P ops wb (kat ops B i oi) oi (runM P ops wb B Q (l1 ++ l2)) a w := by
  intro l1
  induction l1 with
  | nil =>
    intro l2 a w _ h
    simp only [List.nil_append, runM, hi] at h
    exact h
  | cons j r ih =>
    intro l2 a w hl h
    obtain ⟨oj, hj, hap, hc⟩ := hl j List.mem_cons_self
    simp only [List.cons_append, runM, hj] at h
    have h' : stepM P ops wb (kat ops B j oj) oj (stepM P ops wb (kat ops B i oi) oi (runM P ops wb B Q (r ++ l2))) a w := stepM_mono (fun b w' hb => ih l2 b w' (fun k hk => hl k (List.mem_cons_of_mem _ hk)) hb) h
    have h'' := stepM_swap hap (fun cs b => hsel i oi cs b hi) (fun cs b => hsel j oj cs b hj) hc h'
    refine stepM_mono (fun b w' hb => ?_) h''
    simp only [List.cons_append, runM, hj]
    exact hb

theorem wpAny_of_runM {B : Array Nat} (hB : mixB ops B = true) {Q : Exit → Act → World → Prop} : ∀ (fuel : Nat) (listed : Array Bool) (a : Act) (w : World), listed.size = ops.size → Shut ops listed → (rest ops.size listed).length = fuel →
    runM P ops wb B (fun a w => Q .normal a w) (rest ops.size listed) a w → wpAny P .any ops Q fuel listed a w := by
  have hsel := Region.noSelect_spec (by simp only [mixB, Bool.and_eq_true] at hB; exact hB.1)
  intro fuel
  induction fuel with
  | zero =>
    intro listed a w hn hs hl h
    have hnil := List.eq_nil_of_length_eq_zero hl
    rw [hnil] at h
    refine ⟨?_, h⟩
    refine List.eq_nil_iff_forall_not_mem.2 fun i hi => ?_
    obtain ⟨h0, o, ho, _⟩ := mem_ready.1 hi
    have hlt : i < ops.size := (Array.getElem?_eq_some_iff.1 ho).1
    have : i ∈ rest ops.size listed := by
      unfold rest
      rw [List.mem_filter, List.mem_range]
      exact ⟨hlt, by rw [h0]; rfl⟩
    rw [hnil] at this
    cases this
  | succ fuel ih =>
    intro listed a w hn hs hl h
    refine ⟨fun hr => ?_, fun i hi => ?_⟩
    · exfalso
      cases hrest : rest ops.size listed with
      | nil => rw [hrest] at hl; simp at hl
      | cons x r =>
        have hx : x ∈ rest ops.size listed := by rw [hrest]; exact List.mem_cons_self
        have hex : ∀ k, (∃ i, i ≤ k ∧ i ∈ rest ops.size listed) → ∃ i, i ∈ rest ops.size listed ∧ ∀ j, j < i → j ∉ rest ops.size listed := by
          intro k
          induction k with
          | zero =>
            rintro ⟨i, h1, h2⟩
            exact ⟨i, h2, fun j hj => by omega⟩
          | succ k ihk =>
            rintro ⟨i, h1, h2⟩
            by_cases hlow : ∃ j, j ≤ k ∧ j ∈ rest ops.size listed
            · exact ihk hlow
            · exact ⟨i, h2, fun j hj hm => hlow ⟨j, by omega, hm⟩⟩
        obtain ⟨i, him, hmin⟩ := hex x ⟨x, Nat.le_refl _, hx⟩
        have him' := him
        unfold rest at him'
        rw [List.mem_filter, List.mem_range] at him'
        have ho : ops[i]? = some ops[i] := Array.getElem?_eq_getElem him'.1
        have : i ∈ Region.ready .any ops listed := by
          refine mem_ready.2 ⟨by simpa using him'.2, _, ho, fun e he hb => ?_⟩
          have hlt := (mixB_row hB ho).1 e he hb
          have hno := hmin e.on hlt
          unfold rest at hno
          rw [List.mem_filter, List.mem_range] at hno
          have hsz : e.on < listed.size := by omega
          have e1 : listed.getD e.on true = listed.getD e.on false := by simp [hsz]
          cases hb2 : listed.getD e.on false with
          | true => rfl
          | false =>
            rw [hb2] at e1
            exact absurd ⟨by omega, by rw [e1]; rfl⟩ hno
        rw [hr] at this
        cases this
    · obtain ⟨h0, oi, ho, hd⟩ := mem_ready.1 hi
      have hlt : i < ops.size := (Array.getElem?_eq_some_iff.1 ho).1
      obtain ⟨l1, l2, e1, e2, hl1⟩ := rest_split hn hlt h0
      rw [e1] at h
      have hfront := runM_front ho hsel l1 l2 a w (fun j hj => by
        obtain ⟨hji, hju⟩ := hl1 j hj
        have hsw := (mixB_row hB ho).2.2 j hji
        have hoj : ops[j]? = some ops[j] := Array.getElem?_eq_getElem (by omega)
        unfold orderedOrSwapsM at hsw
        rw [Bool.or_eq_true] at hsw
        rcases hsw with hsw | hsw
        · have := bits_listedM hB hs i i (Nat.le_refl _) oi ho hd j hsw
          have hsz : j < listed.size := by omega
          have e3 : listed.getD j true = listed.getD j false := by simp [hsz]
          rw [hju, this] at e3
          cases e3
        · rw [hoj, ho] at hsw
          simp only [Bool.and_eq_true] at hsw
          exact ⟨_, hoj, hsw.1, hsw.2⟩) h
      refine wpOp_of_stepM ho (stepM_mono (fun b w' hb => ih _ b w' (by simpa using hn) ?_ ?_ (by rw [e2]; exact hb)) hfront)
      · intro k o hk hkl e he hb
        rw [getD_set _ _ _ _ (by omega)] at hkl
        by_cases hik : i = k
        · subst hik
          rw [ho] at hk
          injection hk with hk
          subst hk
          exact getD_set_true (hd e he hb)
        · rw [if_neg hik] at hkl
          exact getD_set_true (hs k o hk hkl e he hb)
      · rw [e2]
        rw [e1] at hl
        simp only [List.length_append, List.length_cons] at hl ⊢
        omega

/-- The walk over the operations themselves; the next one's number goes with it. -/
def mixD (P : Program) (ops : Array Oper) (wb : World) (B : Array Nat) (Q : Act → World → Prop) : Nat → List Oper → Act → World → Prop
  | _, [], a, w => Q a w
  | i, o :: r, a, w => stepM P ops wb (kat ops B i o) o (mixD P ops wb B Q (i + 1) r) a w

theorem runM_of_mix {B : Array Nat} {Q : Act → World → Prop} (l : List Oper) : ∀ k, (∀ j, l[j]? = ops[k + j]?) → ∀ a w, mixD P ops wb B Q k l a w → runM P ops wb B Q (List.range' k l.length) a w := by
  induction l with
  | nil => intro k _ a w h; exact h
  | cons o l ih =>
    intro k h a w hw
    have h0 : ops[k]? = some o := by simpa using (h 0).symm
    simp only [List.length_cons, List.range'_succ, runM, h0]
    exact stepM_mono (fun b w' hb => ih (k + 1) (fun j => by have := h (j + 1); simpa [Nat.add_assoc, Nat.add_comm 1 j] using this) b w' hb) hw

/-- The walk, closed: nothing looks into it by itself. -/
structure wpMix (P : Program) (ops : Array Oper) (wb : World) (Q : Act → World → Prop) (i : Nat) (l : List Oper) (a : Act) (w : World) : Prop where
  mk :: (out : mixD P ops wb (Region.before ops) Q i l a w)

/-- A REGION OF OPEN ORDER IN THE ORDER OF ITS TEXT, loads, new blocks and quiet calls beside one another. -/
theorem wp_region_mix {id : Nat} {Q : Exit → Act → World → Prop} {a : Act} {w : World} {l : List Oper} (hm : P.follows .mixedOrders = true) (hB : mixB l.toArray (Region.before l.toArray) = true)
    (h : Bw w.drew w.drew → wpMix P l.toArray w.drew (fun a w => Q .normal a w) 0 l a w.drew) : (Code.region id l.toArray true).wp P Q a w := by
  refine wp_region_any hm ?_
  have h1 := runM_of_mix (ops := l.toArray) l 0 (by simp) a _ (h (Bw.refl _)).out
  refine wpAny_of_runM (wb := w.drew) hB _ _ _ _ (by simp) ?_ ?_ ?_
  · intro k o hk hl
    by_cases hlt : k < l.length
    · simp [hlt] at hl
    · simp [hlt] at hl
  · rw [rest_none]; simp
  · rw [rest_none]
    rw [List.range_eq_range']
    simpa using h1

/-! The steps, for the walk. -/
variable {Q : Act → World → Prop} {r : List Oper} {o : Oper} {a : Act} {w : World} {i : Nat}

theorem mix_nil (h : Q a w) : wpMix P ops wb Q i [] a w := ⟨h⟩

theorem mix_pass {ts : List Value} {ds : List Deferred} {d : Nat} (hd : o.dst = some d) (hw : Region.wanted o (yielded ops ts.toArray) = false) (h : wpMix P ops wb Q (i + 1) r ⟨(ts.set d undef).toArray, ds⟩ w) : wpMix P ops wb Q i (o :: r) ⟨ts.toArray, ds⟩ w := by
  refine ⟨?_⟩
  show stepM P ops wb (kat ops _ i o) o (mixD P ops wb _ Q (i + 1) r) _ w
  unfold stepM
  rw [hw, hd]
  have := h.out
  simpa [Act.put, Tr.on] using this

theorem vals_kop {ρ : Operand → Value} {x : Next} {w w' : World} (hc : cl o.op ≠ .a) (h : (execOp ρ o).run P w = .ok x w') : ∃ v, x = .value v := value_of_cl hc h

/-- It touches no memory: it is run in whatever world. -/
theorem mix_p (hw : Region.wanted o (yielded ops a.tmps) = true) (hc : cl o.op = .p) (hk : kop o.op = .p) (h : ∀ K : Act → Prop, (∀ a', wpMix P ops wb Q (i + 1) r a' w → K a') → o.quiet P a (fun _ => True) K) : wpMix P ops wb Q i (o :: r) a w := by
  obtain ⟨v, h1, h2⟩ := h (fun a' => wpMix P ops wb Q (i + 1) r a' w) (fun _ h => h)
  refine ⟨?_⟩
  show stepM P ops wb (kat ops _ i o) o (mixD P ops wb _ Q (i + 1) r) a w
  unfold stepM
  rw [if_pos hw, kat_p hk]
  refine ⟨v, fun w' => ?_, h2.out⟩
  have h3 := h1 w' trivial
  unfold Oper.quietAt at h3
  cases hr : (execOp a.eval o).run P w' with
  | halt x w1 => rw [hr] at h3; exact h3.elim
  | ok n w1 =>
    obtain ⟨u, rfl⟩ := value_of_cl (by rw [hc]; decide) hr
    rw [hr] at h3
    obtain ⟨e1, e2⟩ := h3
    rw [e1, e2]

/-- It looks at one block of cells alone. -/
def Near {α : Type} (b : Nat) (s : Sem α) : Prop := ∀ (P : Program) (w w1 w' : World) (x : α), w1.heap[b]? = w.heap[b]? → (∃ cs t fr, w.heap[b]? = some (.cells cs t fr)) → s.run P w = .ok x w' → s.run P w1 = .ok x w1
theorem near_pure {α : Type} {b : Nat} (x : α) : Near b (pure x : Sem α) := fun P w w1 w' y _ _ h => by
  rw [Sem.run_pure] at h ⊢
  injection h with h _
  rw [h]
/-- It leaves the world alone. -/
def Lone {α : Type} (b : Nat) (s : Sem α) : Prop := ∀ (P : Program) (w w' : World) (x : α), (∃ cs t fr, w.heap[b]? = some (.cells cs t fr)) → s.run P w = .ok x w' → w' = w
theorem lone_pure {α : Type} {b : Nat} (x : α) : Lone b (pure x : Sem α) := fun P w w' y _ h => by
  rw [Sem.run_pure] at h
  injection h with _ h
  exact h.symm
theorem lone_bind {α β : Type} {b : Nat} {s : Sem α} {f : α → Sem β} (h1 : Lone b s) (h2 : ∀ y, Lone b (f y)) : Lone b (s >>= f) := fun P w w' x hb h => by
  rw [Sem.run_bind] at h
  cases hs : s.run P w with
  | ok y w1 =>
    rw [hs] at h
    simp only [Result.andThen_ok] at h
    have e := h1 P w w1 y hb hs
    subst e
    exact h2 y P w1 w' x hb h
  | halt e w1 => rw [hs] at h; simp [Result.andThen] at h
theorem near_bind {α β : Type} {b : Nat} {s : Sem α} {f : α → Sem β} (h1 : Near b s) (h3 : Lone b s) (h2 : ∀ y, Near b (f y)) : Near b (s >>= f) := fun P w w1 w' x he hb h => by
  rw [Sem.run_bind] at h ⊢
  cases hs : s.run P w with
  | ok y w2 =>
    rw [hs] at h
    simp only [Result.andThen_ok] at h
    have e := h3 P w w2 y hb hs
    subst e
    rw [h1 P w2 w1 w2 y he hb hs]
    simp only [Result.andThen_ok]
    exact h2 y P w2 w1 w' x he hb h
  | halt e w2 => rw [hs] at h; simp [Result.andThen] at h
theorem near_prog {α : Type} {b : Nat} {f : Program → Sem α} (h : ∀ p, Near b (f p)) : Near b (Go.program >>= f) := fun P w w1 w' x he hb hr => by
  rw [Sem.run_bind] at hr ⊢
  have e : ∀ w : World, (Go.program).run P w = .ok P w := fun _ => rfl
  rw [e] at hr ⊢
  simp only [Result.andThen_ok] at hr ⊢
  exact h P P w w1 w' x he hb hr
theorem lone_prog {α : Type} {b : Nat} {f : Program → Sem α} (h : ∀ p, Lone b (f p)) : Lone b (Go.program >>= f) := fun P w w' x hb hr => by
  rw [Sem.run_bind] at hr
  have e : ∀ w : World, (Go.program).run P w = .ok P w := fun _ => rfl
  rw [e] at hr
  simp only [Result.andThen_ok] at hr
  exact h P P w w' x hb hr
theorem near_halt {α : Type} {b : Nat} (h : Halt) : Near b (.halt h : Sem α) := fun P w w1 w' x _ _ hr => by simp [Sem.run] at hr
theorem lone_halt {α : Type} {b : Nat} (h : Halt) : Lone b (.halt h : Sem α) := fun P w w' x _ hr => by simp [Sem.run] at hr
theorem near_load {a : Addr} : Near a.block (Go.load a) := fun P w w1 w' x he hb hr => by
  obtain ⟨cs, t, fr, hb⟩ := hb
  have hc : w1.cell? a = w.cell? a := by simp [World.cell?, he]
  unfold Go.load at hr ⊢
  unfold Sem.run at hr ⊢
  rw [hc]
  cases hcell : w.cell? a with
  | some v =>
    rw [hcell] at hr
    simp only [Sem.run] at hr ⊢
    injection hr with hr _
    rw [hr]
  | none =>
    rw [hcell] at hr
    simp [World.farLoad, hb] at hr
theorem lone_load {a : Addr} : Lone a.block (Go.load a) := fun P w w' x hb hr => by
  obtain ⟨cs, t, fr, hb⟩ := hb
  unfold Go.load at hr
  unfold Sem.run at hr
  cases hcell : w.cell? a with
  | some v =>
    rw [hcell] at hr
    simp only [Sem.run] at hr
    injection hr with _ hr
    exact hr.symm
  | none =>
    rw [hcell] at hr
    simp [World.farLoad, hb] at hr
theorem add_block (a : Addr) (n : Nat) : (a.add n).block = a.block := by unfold Addr.add; split <;> rfl
theorem near_cells (a : Addr) : ∀ (n i : Nat) (acc : Array Value), Near a.block (loadCellsFrom a i n acc) ∧ Lone a.block (loadCellsFrom a i n acc)
  | 0, i, acc => ⟨near_pure _, lone_pure _⟩
  | n + 1, i, acc => by
    have hn : Near a.block (Go.load (a.add i)) := by have := near_load (a := a.add i); rwa [add_block] at this
    have hl : Lone a.block (Go.load (a.add i)) := by have := lone_load (a := a.add i); rwa [add_block] at this
    exact ⟨near_bind hn hl fun y => (near_cells a n (i + 1) (acc.push y)).1, lone_bind hl fun y => (near_cells a n (i + 1) (acc.push y)).2⟩
theorem near_under {b : Nat} (t : TypeId) : Near b (Go.underlying t) ∧ Lone b (Go.underlying t) := by
  unfold Go.underlying
  refine ⟨near_prog fun p => ?_, lone_prog fun p => ?_⟩ <;> cases p.underlying t <;> first | exact near_pure _ | exact near_halt _ | exact lone_pure _ | exact lone_halt _
theorem near_size {b : Nat} (t : TypeId) : Near b (Go.sizeOf t) ∧ Lone b (Go.sizeOf t) := by
  have h : Near b (Go.typeInfo t) ∧ Lone b (Go.typeInfo t) := by
    unfold Go.typeInfo
    refine ⟨near_prog fun p => ?_, lone_prog fun p => ?_⟩ <;> cases p.info? t <;> first | exact near_pure _ | exact near_halt _ | exact lone_pure _ | exact lone_halt _
  unfold Go.sizeOf
  exact ⟨near_bind h.1 h.2 fun _ => near_pure _, lone_bind h.2 fun _ => lone_pure _⟩
theorem near_agg {b : Nat} (t : TypeId) : Near b (Go.isAgg t) ∧ Lone b (Go.isAgg t) := by
  unfold Go.isAgg
  refine ⟨near_bind (near_under t).1 (near_under t).2 fun d => ?_, lone_bind (near_under t).2 fun d => ?_⟩ <;> cases d <;> first | exact near_pure _ | exact lone_pure _
theorem near_var (t : TypeId) (a : Addr) : Near a.block (Go.loadVar t a) ∧ Lone a.block (Go.loadVar t a) := by
  unfold Go.loadVar
  refine ⟨near_bind (near_agg t).1 (near_agg t).2 fun d => ?_, lone_bind (near_agg t).2 fun d => ?_⟩
  · cases d
    · exact near_load
    · exact near_bind (near_size t).1 (near_size t).2 fun n => near_bind (near_cells a n 0 #[]).1 (near_cells a n 0 #[]).2 fun _ => near_pure _
  · cases d
    · exact lone_load
    · exact lone_bind (near_size t).2 fun n => lone_bind (near_cells a n 0 #[]).2 fun _ => lone_pure _

theorem load_sure {wr w1 : World} {t : TypeId} {x : Operand} {ad : Addr} {v : Value} (ho : o.op = .load t x) (hx : a.eval x = .pointer (some ad)) (hc : (wr.cell? ad).isSome = true) (hr : (execOp a.eval o).run P wr = .ok (.value v) wr) (hb : Bw wr w1) : (execOp a.eval o).run P w1 = .ok (.value v) w1 := by
  obtain ⟨u, hu⟩ := Option.isSome_iff_exists.1 hc
  have hlt := World.block_lt_of_cell? wr ad hu
  have hcells : ∃ cs t fr, wr.heap[ad.block]? = some (.cells cs t fr) := by
    unfold World.cell? at hu
    split at hu
    · rename_i c e f hh
      exact ⟨_, _, _, hh⟩
    · cases hu
  have hs : execOp a.eval o = (do let y ← Go.loadVar t ad; pure (Next.value y) : Sem Next) := by
    obtain ⟨dst, op, type, pos, after, guard⟩ := o
    simp only at ho
    subst ho
    simp only [execOp, hx]
    rfl
  rw [hs] at hr ⊢
  exact near_bind (near_var t ad).1 (near_var t ad).2 (fun y => near_pure _) P wr w1 wr _ (hb.block _ hlt) hcells hr

theorem quiet_run {C : World → Prop} {wr : World} {K : Act → Prop} (hc : cl o.op ≠ .a) (hC : C wr) (h : o.quiet P a C K) : ∃ v, (execOp a.eval o).run P wr = .ok (.value v) wr ∧ K (a.put o.dst v) := by
  obtain ⟨v, h1, h2⟩ := h
  refine ⟨v, ?_, h2⟩
  have h3 := h1 wr hC
  unfold Oper.quietAt at h3
  cases hr : (execOp a.eval o).run P wr with
  | halt x w1 => rw [hr] at h3; exact h3.elim
  | ok n w1 =>
    obtain ⟨u, rfl⟩ := value_of_cl hc hr
    rw [hr] at h3
    obtain ⟨e1, e2⟩ := h3
    rw [e1, e2]

/-- A load of what there was when the region began. -/
theorem mix_re {t : TypeId} {x : Operand} {ad : Addr} (hw : Region.wanted o (yielded ops a.tmps) = true) (hk : kat ops (Region.before ops) i o = .re ∨ kat ops (Region.before ops) i o = .rl) (ho : o.op = .load t x) (hx : a.eval x = .pointer (some ad)) (hc : (wb.cell? ad).isSome = true) (hB : Bw wb w)
    (h : ∀ K : Act → Prop, (∀ a', wpMix P ops wb Q (i + 1) r a' w → K a') → o.quiet P a (fun w' => w' = wb) K) : wpMix P ops wb Q i (o :: r) a w := by
  obtain ⟨v, h1, h2⟩ := quiet_run (C := fun w' => w' = wb) (wr := wb) (by rw [ho]; exact fun hh => by cases hh) rfl (h (fun a' => wpMix P ops wb Q (i + 1) r a' w) (fun _ h => h))
  refine ⟨?_⟩
  show stepM P ops wb (kat ops _ i o) o (mixD P ops wb _ Q (i + 1) r) a w
  unfold stepM
  rw [if_pos hw]
  rcases hk with hk | hk
  · rw [hk]
    exact ⟨hB, v, fun w1 hb => load_sure ho hx hc h1 hb, h2.out⟩
  · rw [hk]
    exact ⟨hB, v, fun w1 hb => load_sure ho hx hc h1 (hB.trans hb), h2.out⟩

/-- A load of what is new, too. -/
theorem mix_rl {t : TypeId} {x : Operand} {ad : Addr} (hw : Region.wanted o (yielded ops a.tmps) = true) (hk : kat ops (Region.before ops) i o = .rl) (ho : o.op = .load t x) (hx : a.eval x = .pointer (some ad)) (hc : (w.cell? ad).isSome = true) (hB : Bw wb w)
    (h : ∀ K : Act → Prop, (∀ a', wpMix P ops wb Q (i + 1) r a' w → K a') → o.quiet P a (fun w' => w' = w) K) : wpMix P ops wb Q i (o :: r) a w := by
  obtain ⟨v, h1, h2⟩ := quiet_run (C := fun w' => w' = w) (wr := w) (by rw [ho]; exact fun hh => by cases hh) rfl (h (fun a' => wpMix P ops wb Q (i + 1) r a' w) (fun _ h => h))
  refine ⟨?_⟩
  show stepM P ops wb (kat ops _ i o) o (mixD P ops wb _ Q (i + 1) r) a w
  unfold stepM
  rw [if_pos hw, hk]
  exact ⟨hB, v, fun w1 hb => load_sure ho hx hc h1 hb, h2.out⟩

/-- A new block. -/
theorem mix_m (mk : Nat → Value) (obj : Obj) (hw : Region.wanted o (yielded ops a.tmps) = true) (hk : kat ops (Region.before ops) i o = .m) (hr : ∀ w1, (execOp a.eval o).run P w1 = .ok (.value (mk w1.heap.size)) (w1.alloc obj)) (hB : Bw wb w)
    (h : ∀ g w', Bw w w' → wb.heap.size ≤ g → w'.heap[g]? = some obj → wpMix P ops wb Q (i + 1) r (a.put o.dst (mk g)) w') : wpMix P ops wb Q i (o :: r) a w := by
  refine ⟨?_⟩
  show stepM P ops wb (kat ops _ i o) o (mixD P ops wb _ Q (i + 1) r) a w
  unfold stepM
  rw [if_pos hw, hk]
  exact ⟨hB, mk, obj, hr, fun g w' h1 h2 h3 => (h g w' h1 h2 h3).out⟩

/-- A call that leaves what there is alone. -/
theorem mix_c (hw : Region.wanted o (yielded ops a.tmps) = true) (hk : kat ops (Region.before ops) i o = .c) (hB : Bw wb w)
    (h : ∀ w1, Bw w w1 → ∀ K : Act → World → Prop, (∀ a' w', Bw w1 w' ∧ wpMix P ops wb Q (i + 1) r a' w' → K a' w') → o.wp P a w1 K NoQ) : wpMix P ops wb Q i (o :: r) a w := by
  refine ⟨?_⟩
  show stepM P ops wb (kat ops _ i o) o (mixD P ops wb _ Q (i + 1) r) a w
  unfold stepM
  rw [if_pos hw, hk]
  refine ⟨hB, fun w1 hw1 => ?_⟩
  exact outc_mono (fun t w' hk => ⟨hk.1, hk.2.out⟩) (outc_of_wp (h w1 hw1 (fun a' w' => Bw w1 w' ∧ wpMix P ops wb Q (i + 1) r a' w') (fun _ _ h => h)))

/-- All else. -/
theorem mix_a (hw : Region.wanted o (yielded ops a.tmps) = true) (hk : kat ops (Region.before ops) i o = .a) (h : ∀ K : Act → World → Prop, (∀ a' w', wpMix P ops wb Q (i + 1) r a' w' → K a' w') → o.wp P a w K NoQ) : wpMix P ops wb Q i (o :: r) a w := by
  refine ⟨?_⟩
  show stepM P ops wb (kat ops _ i o) o (mixD P ops wb _ Q (i + 1) r) a w
  unfold stepM
  rw [if_pos hw, hk]
  exact outc_mono (fun t w' hk => hk.out) (outc_of_wp (h _ fun _ _ h => h))
end
end Go.Txt
