/- Lemmas, contracts of functions and plain laws, part 1: what the row's proof uses. No statement of the seed is proved here. -/
import Derived.Deep.Quiet
import Derived.Below
import Derived.Test.YtggaefklcpbfnaaYPaLeaf
import Derived.Test.YtggaefklcpbfnaaYPaEq0
import Derived.BigQuiet
import Derived.Deep.LoopGhost
import Derived.Lib.Hide
import Derived.Test.YtggaefklcpbfnaaProg
import Derived.WalkKit
import Derived.Test.YtggaefklcpbfnaaYWMore
import Derived.Lib.SliceRun
import Derived.Test.YtggaefklcpbfnaaYPaRLeaf
import Derived.Test.YtggaefklcpbfnaaYPa0
import Derived.Test.YtggaefklcpbfnaaYPaBefore
namespace Go.Txt

inductive Cl where
  | p
  | r
  | a
  deriving DecidableEq

def cl : Op → Cl
  | .move _ => .p
  | .assign _ => .p
  | .pick .. => .p
  | .nilCheck _ => .p
  | .binOp .. => .p
  | .unOp .. => .p
  | .convert .. => .p
  | .fieldAddr .. => .p
  | .field .. => .p
  | .indexAddr .. => .p
  | .index .. => .p
  | .extract .. => .p
  | .slice .. => .p
  | .build .. => .p
  | .load .. => .r
  | .call c => match c.callee with
    | .builtin .len => .p
    | .builtin .cap => .p
    | .builtin .max => .p
    | .builtin .min => .p
    | _ => .a
  | _ => .a

def NoQ : Exit → Act → World → Prop := fun _ _ _ => False

theorem NoQ_out : ¬ LetsOut NoQ := fun ⟨_, _, h⟩ => h

inductive Tr where
  | put (v : Value)
  | dfr (d : Deferred)

def Tr.on (t : Tr) (dst : Option Tmp) (a : Act) : Act :=
  match t with
  | .put v => a.put dst v
  | .dfr d => ({ a with defers := d :: a.defers } : Act).put dst undef

def outc (P : Program) (r : Result Next) (F : Tr → World → Prop) : Prop :=
  match r with
  | .ok (.value v) w' => F (.put v) w'
  | .ok .skip w' => F (.put undef) w'
  | .ok (.defer d) w' => F (.dfr d) w'
  | .ok (.enter f args) w' => Calls P f args w' fun
      | .returned v, w'' => F (.put v) w''
      | _, _ => False
  | .ok (.row row args) w' => Rows P row args w' fun v w'' => F (.put v) w''
  | _ => False

section
variable {P : Program} {ops : Array Oper}

theorem outc_mono {r : Result Next} {F G : Tr → World → Prop} (h : ∀ t w, F t w → G t w) (hr : outc P r F) : outc P r G := by
  cases r with
  | ok n w' =>
    cases n <;> simp only [outc] at hr ⊢
    case value v => exact h _ _ hr
    case skip => exact h _ _ hr
    case defer d => exact h _ _ hr
    case enter f args => exact Calls.mono hr fun e w'' he => by cases e <;> first | exact h _ _ he | exact he
    case row row args => exact Rows.mono hr fun _ _ he => h _ _ he
  | halt x w' => cases x <;> simp only [outc] at hr

theorem outc_false {r : Result Next} (hr : outc P r fun _ _ => False) : False := by
  cases r with
  | ok n w' =>
    cases n <;> simp only [outc] at hr
    case enter f args =>
      obtain ⟨e, w'', fr, he, _⟩ := hr []
      cases e <;> exact he
    case row row args =>
      obtain ⟨v, w'', he, _⟩ := hr default []
      exact he
  | halt x w' => cases x <;> simp only [outc] at hr

theorem outc_of_wp {o : Oper} {a : Act} {w : World} {K : Act → World → Prop} (h : o.wp P a w K NoQ) : outc P ((execOp a.eval o).run P w) fun t w' => K (t.on o.dst a) w' := by
  unfold Oper.wp at h
  generalize (execOp a.eval o).run P w = r at *
  cases r with
  | ok n w' =>
    cases n <;> simp only [Oper.upon] at h <;> simp only [outc]
    case value v => exact h
    case skip => exact h
    case defer d => exact h
    case enter f args =>
      refine Calls.mono h fun e w'' he => ?_
      cases e with
      | returned v => exact he
      | panicked c => exact he
      | outgrown => exact (NoQ_out he).elim
    case row row args => exact h
  | halt x w' =>
    cases x <;> simp only [Oper.upon] at h
    case panic v => exact h.elim

theorem wp_of_outc {o : Oper} {a : Act} {w : World} {K : Act → World → Prop} {Q : Exit → Act → World → Prop} (h : outc P ((execOp a.eval o).run P w) fun t w' => K (t.on o.dst a) w') : o.wp P a w K Q := by
  unfold Oper.wp
  generalize (execOp a.eval o).run P w = r at *
  cases r with
  | ok n w' =>
    cases n <;> simp only [outc] at h <;> simp only [Oper.upon]
    case value v => exact h
    case skip => exact h
    case defer d => exact h
    case enter f args =>
      refine Calls.mono h fun e w'' he => ?_
      cases e with
      | returned v => exact he
      | panicked c => exact he.elim
      | outgrown => exact he.elim
    case row row args => exact h
  | halt x w' => cases x <;> simp only [outc] at h

def Sure (P : Program) (o : Oper) (a : Act) (v : Value) : Prop := ∀ w, (execOp a.eval o).run P w = .ok (.value v) w

def stepT (P : Program) (ops : Array Oper) (o : Oper) (K : Act → World → Prop) (a : Act) (w : World) : Prop :=
  if Region.wanted o (yielded ops a.tmps) then
    match cl o.op with
    | .p => ∃ v, Sure P o a v ∧ K (a.put o.dst v) w
    | .r => ∃ v, (execOp a.eval o).run P w = .ok (.value v) w ∧ K (a.put o.dst v) w
    | .a => outc P ((execOp a.eval o).run P w) fun t w' => K (t.on o.dst a) w'
  else K (a.put o.dst undef) w

theorem stepT_mono {o : Oper} {K K' : Act → World → Prop} {a : Act} {w : World} (h : ∀ a w, K a w → K' a w) (hs : stepT P ops o K a w) : stepT P ops o K' a w := by
  unfold stepT at *
  split
  · rename_i hw
    rw [if_pos hw] at hs
    split
    · rename_i hc; rw [hc] at hs; obtain ⟨v, h1, h2⟩ := hs; exact ⟨v, h1, h _ _ h2⟩
    · rename_i hc; rw [hc] at hs; obtain ⟨v, h1, h2⟩ := hs; exact ⟨v, h1, h _ _ h2⟩
    · rename_i hc; rw [hc] at hs; exact outc_mono (fun _ _ he => h _ _ he) hs
  · rename_i hw
    rw [if_neg hw] at hs
    exact h _ _ hs

theorem wpOp_of_stepT {i : Nat} {o : Oper} (hi : ops[i]? = some o) {K : Act → World → Prop} {Q : Exit → Act → World → Prop} {a : Act} {w : World} (hs : stepT P ops o K a w) : wpOp P ops Q i K a w := by
  unfold stepT at hs
  unfold wpOp
  simp only [hi]
  split
  · rename_i hw
    rw [if_pos hw] at hs
    refine .inl ?_
    split at hs
    · obtain ⟨v, h1, h2⟩ := hs
      simp only [Oper.wp, h1 w, Oper.upon]
      exact h2
    · obtain ⟨v, h1, h2⟩ := hs
      simp only [Oper.wp, h1, Oper.upon]
      exact h2
    · exact wp_of_outc hs
  · rename_i hw
    rw [if_neg hw] at hs
    exact hs

theorem put_on_comm (t : Tr) (x y : Option Tmp) (a : Act) (v : Value) (h : ∀ d, y = some d → x ≠ some d) : t.on x (a.put y v) = (t.on x a).put y v := by
  cases t with
  | put u => exact Act.put_comm a v u (fun d hd he => h d hd he)
  | dfr d =>
    simp only [Tr.on]
    rw [Act.put_defers]
    exact Act.put_comm _ v undef (fun d hd he => h d hd he)

theorem exec_on (t : Tr) (x : Option Tmp) (a : Act) (o : Oper) (hs : ∀ cs b, o.op ≠ .select cs b) (h : ∀ d, x = some d → d ∉ o.looksAt ops) : execOp (t.on x a).eval o = execOp a.eval o := by
  cases t with
  | put u => exact execOp_put o hs a x u h
  | dfr d =>
    simp only [Tr.on]
    rw [execOp_put o hs _ x undef h]
    rfl

theorem wanted_on (t : Tr) (x : Option Tmp) (a : Act) (o : Oper) (h : ∀ d, x = some d → d ∉ o.looksAt ops) : Region.wanted o (yielded ops (t.on x a).tmps) = Region.wanted o (yielded ops a.tmps) := by
  cases t with
  | put u => exact wanted_put o a x u h
  | dfr d =>
    simp only [Tr.on]
    rw [wanted_put o _ x undef h]

theorem stepT_swap {oi oj : Oper} (hap : oj.apart ops oi = true) (hsi : ∀ cs b, oi.op ≠ .select cs b) (hsj : ∀ cs b, oj.op ≠ .select cs b)
    (hc : cl oj.op = .p ∨ cl oi.op = .p ∨ (cl oj.op = .r ∧ cl oi.op = .r)) {K : Act → World → Prop} {a : Act} {w : World}
    (h : stepT P ops oj (stepT P ops oi K) a w) : stepT P ops oi (stepT P ops oj K) a w := by
  obtain ⟨h1, h2, h3⟩ := Oper.apart_spec hap
  have h2' : ∀ d, oi.dst = some d → oj.dst ≠ some d := fun d hd he => h2 d he hd
  have ej : ∀ (t : Tr) (b : Act), execOp (t.on oi.dst b).eval oj = execOp b.eval oj := fun t b => exec_on t _ _ oj hsj h3
  have wj : ∀ (t : Tr) (b : Act), Region.wanted oj (yielded ops (t.on oi.dst b).tmps) = Region.wanted oj (yielded ops b.tmps) := fun t b => wanted_on t _ _ oj h3
  have ei : ∀ (t : Tr) (b : Act), execOp (t.on oj.dst b).eval oi = execOp b.eval oi := fun t b => exec_on t _ _ oi hsi h1
  have wi : ∀ (t : Tr) (b : Act), Region.wanted oi (yielded ops (t.on oj.dst b).tmps) = Region.wanted oi (yielded ops b.tmps) := fun t b => wanted_on t _ _ oi h1
  have ejp : ∀ (v : Value) (b : Act), execOp (b.put oi.dst v).eval oj = execOp b.eval oj := fun v b => ej (.put v) b
  have wjp : ∀ (v : Value) (b : Act), Region.wanted oj (yielded ops (b.put oi.dst v).tmps) = Region.wanted oj (yielded ops b.tmps) := fun v b => wj (.put v) b
  have eip : ∀ (v : Value) (b : Act), execOp (b.put oj.dst v).eval oi = execOp b.eval oi := fun v b => ei (.put v) b
  have wip : ∀ (v : Value) (b : Act), Region.wanted oi (yielded ops (b.put oj.dst v).tmps) = Region.wanted oi (yielded ops b.tmps) := fun v b => wi (.put v) b
  have cij : ∀ (t : Tr) (b : Act) (v : Value), t.on oi.dst (b.put oj.dst v) = (t.on oi.dst b).put oj.dst v := fun t b v => put_on_comm t _ _ b v (fun d hd => fun he => h2 d hd he)
  have cji : ∀ (t : Tr) (b : Act) (v : Value), t.on oj.dst (b.put oi.dst v) = (t.on oj.dst b).put oi.dst v := fun t b v => put_on_comm t _ _ b v (fun d hd => h2' d hd)
  have cpp : ∀ (b : Act) (u v : Value), (b.put oj.dst v).put oi.dst u = (b.put oi.dst u).put oj.dst v := fun b u v => cij (.put u) b v
  by_cases wa : Region.wanted oj (yielded ops a.tmps) = true
  · by_cases wb : Region.wanted oi (yielded ops a.tmps) = true
    · -- both are carried out
      rcases hc with hc | hc | ⟨hcj, hci⟩
      · -- the first touches no memory
        have hj : ∃ v, Sure P oj a v ∧ stepT P ops oi K (a.put oj.dst v) w := by
          unfold stepT at h
          rw [if_pos wa, hc] at h
          exact h
        obtain ⟨v, hv, hi⟩ := hj
        have again : ∀ (b : Act) (w' : World), Region.wanted oj (yielded ops b.tmps) = true → execOp b.eval oj = execOp a.eval oj → K (b.put oj.dst v) w' → stepT P ops oj K b w' := fun b w' e1 e2 e3 => by
          unfold stepT
          rw [if_pos e1, hc]
          exact ⟨v, fun x => by rw [e2]; exact hv x, e3⟩
        unfold stepT at hi
        rw [wip, if_pos wb] at hi
        unfold stepT
        rw [if_pos wb]
        cases hci : cl oi.op with
        | p =>
          rw [hci] at hi
          obtain ⟨u, hu, hk⟩ := hi
          refine ⟨u, fun x => ?_, again _ _ ((wjp u a).trans wa) (ejp u a) (by rw [← cpp]; exact hk)⟩
          have := hu x
          rwa [eip] at this
        | r =>
          rw [hci] at hi
          obtain ⟨u, hu, hk⟩ := hi
          refine ⟨u, ?_, again _ _ ((wjp u a).trans wa) (ejp u a) (by rw [← cpp]; exact hk)⟩
          rwa [eip] at hu
        | a =>
          rw [hci] at hi
          simp only [eip] at hi
          refine outc_mono (fun t w' hk => again _ _ ((wj t a).trans wa) (ej t a) ?_) hi
          rw [cij] at hk
          exact hk
      · -- the second touches no memory
        have first : ∀ (b : Act) (w' : World), Region.wanted oi (yielded ops b.tmps) = true → stepT P ops oi K b w' → ∃ u, Sure P oi b u ∧ K (b.put oi.dst u) w' := fun b w' e1 hb => by
          unfold stepT at hb
          rw [if_pos e1, hc] at hb
          exact hb
        have mk : ∀ u, Sure P oi a u → stepT P ops oj K (a.put oi.dst u) w → stepT P ops oi (stepT P ops oj K) a w := fun u hu hk => by
          unfold stepT
          rw [if_pos wb, hc]
          exact ⟨u, hu, hk⟩
        have one : ∀ (b : Act) (u v : Value), execOp b.eval oi = execOp a.eval oi → Sure P oi b u → Sure P oi a v → u = v := fun b u v e1 hu hv => by
          have e2 := hu w
          rw [e1, hv w] at e2
          injection e2 with e2
          injection e2 with e2
          exact e2.symm
        unfold stepT at h
        rw [if_pos wa] at h
        cases hcj : cl oj.op with
        | p =>
          rw [hcj] at h
          obtain ⟨v, hv, hk⟩ := h
          obtain ⟨u, hu, hk⟩ := first _ _ ((wip v a).trans wb) hk
          refine mk u (fun x => by have := hu x; rwa [eip] at this) ?_
          unfold stepT
          rw [if_pos ((wjp u a).trans wa), hcj]
          exact ⟨v, fun x => by rw [ejp]; exact hv x, by rw [← cpp]; exact hk⟩
        | r =>
          rw [hcj] at h
          obtain ⟨v, hv, hk⟩ := h
          obtain ⟨u, hu, hk⟩ := first _ _ ((wip v a).trans wb) hk
          refine mk u (fun x => by have := hu x; rwa [eip] at this) ?_
          unfold stepT
          rw [if_pos ((wjp u a).trans wa), hcj]
          exact ⟨v, by rw [ejp]; exact hv, by rw [← cpp]; exact hk⟩
        | a =>
          rw [hcj] at h
          have h' : outc P ((execOp a.eval oj).run P w) fun t w' => ∃ u, Sure P oi a u ∧ K ((t.on oj.dst a).put oi.dst u) w' :=
            outc_mono (fun t w' hk => by
              obtain ⟨u, hu, hk⟩ := first _ _ ((wi t a).trans wb) hk
              exact ⟨u, fun x => by have := hu x; rwa [ei] at this, hk⟩) h
          by_cases he : ∃ u, Sure P oi a u
          · obtain ⟨u, hu⟩ := he
            refine mk u hu ?_
            unfold stepT
            rw [if_pos ((wjp u a).trans wa), hcj]
            simp only [ejp]
            refine outc_mono (fun t w' hk => ?_) h'
            obtain ⟨u', hu', hk⟩ := hk
            have := one a u' u rfl hu' hu
            subst this
            rw [cji]
            exact hk
          · exact (outc_false (outc_mono (fun _ _ hk => by obtain ⟨u, hu, _⟩ := hk; exact he ⟨u, hu⟩) h')).elim
      · -- both read
        unfold stepT at h
        rw [if_pos wa, hcj] at h
        obtain ⟨v, hv, h⟩ := h
        rw [wip, if_pos wb, hci] at h
        obtain ⟨u, hu, hk⟩ := h
        rw [eip] at hu
        unfold stepT
        rw [if_pos wb, hci]
        refine ⟨u, hu, ?_⟩
        rw [if_pos ((wjp u a).trans wa), hcj]
        exact ⟨v, by rw [ejp]; exact hv, by rw [← cpp]; exact hk⟩
    · -- the second is passed over
      have pass : ∀ (b : Act) (w' : World), ¬ Region.wanted oi (yielded ops b.tmps) = true → stepT P ops oi K b w' → K (b.put oi.dst undef) w' := fun b w' e1 hb => by
        unfold stepT at hb
        rw [if_neg e1] at hb
        exact hb
      have h' : stepT P ops oj (fun b w' => (¬ Region.wanted oi (yielded ops b.tmps) = true → K (b.put oi.dst undef) w')) a w := stepT_mono (fun b w' hb e1 => pass b w' e1 hb) h
      have goal : stepT P ops oi (stepT P ops oj K) a w = stepT P ops oj K (a.put oi.dst undef) w := by
        unfold stepT
        rw [if_neg wb]
      rw [goal]
      unfold stepT at h' ⊢
      rw [if_pos wa] at h'
      rw [if_pos ((wjp undef a).trans wa)]
      cases hcj : cl oj.op with
      | p =>
        rw [hcj] at h'
        obtain ⟨v, hv, hk⟩ := h'
        exact ⟨v, fun x => by rw [ejp]; exact hv x, by rw [← cpp]; exact hk (by rw [wip]; exact wb)⟩
      | r =>
        rw [hcj] at h'
        obtain ⟨v, hv, hk⟩ := h'
        exact ⟨v, by rw [ejp]; exact hv, by rw [← cpp]; exact hk (by rw [wip]; exact wb)⟩
      | a =>
        rw [hcj] at h'
        simp only [ejp]
        refine outc_mono (fun t w' hk => ?_) h'
        rw [cji]
        exact hk (by rw [wi]; exact wb)
  · -- the first is passed over
    unfold stepT at h
    rw [if_neg wa] at h
    have last : ∀ (b : Act) (w' : World), Region.wanted oj (yielded ops b.tmps) = Region.wanted oj (yielded ops a.tmps) → K (b.put oj.dst undef) w' → stepT P ops oj K b w' := fun b w' e1 hb => by
      unfold stepT
      rw [if_neg (by rw [e1]; exact wa)]
      exact hb
    rw [wip] at h
    unfold stepT
    split
    · rename_i wb
      rw [if_pos wb] at h
      cases hci : cl oi.op with
      | p =>
        rw [hci] at h
        obtain ⟨u, hu, hk⟩ := h
        exact ⟨u, fun x => by have := hu x; rwa [eip] at this, last _ _ (wjp u a) (by rw [← cpp]; exact hk)⟩
      | r =>
        rw [hci] at h
        obtain ⟨u, hu, hk⟩ := h
        rw [eip] at hu
        exact ⟨u, hu, last _ _ (wjp u a) (by rw [← cpp]; exact hk)⟩
      | a =>
        rw [hci] at h
        simp only [eip] at h
        refine outc_mono (fun t w' hk => last _ _ (wj t a) ?_) h
        rw [cij] at hk
        exact hk
    · rename_i wb
      rw [if_neg wb] at h
      exact last _ _ (wjp undef a) (by rw [← cpp]; exact h)

def runT (P : Program) (ops : Array Oper) (Q : Act → World → Prop) : List Nat → Act → World → Prop
  | [], a, w => Q a w
  | i :: r, a, w => match ops[i]? with
    | some o => stepT P ops o (runT P ops Q r) a w
    | none => runT P ops Q r a w

def orderedOrSwaps (ops : Array Oper) (B : Array Nat) (j i : Nat) : Bool :=
  (B.getD i 0).testBit j || match ops[j]?, ops[i]? with
    | some oj, some oi => oj.apart ops oi && (decide (cl oj.op = .p) || decide (cl oi.op = .p) || (decide (cl oj.op = .r) && decide (cl oi.op = .r)))
    | _, _ => false

def upOf (B : Array Nat) (o : Oper) : Nat := o.after.toList.foldr (fun e s => if Region.binds .any e then s ||| (2 ^ e.on ||| B.getD e.on 0) else s) 0

def textB (ops : Array Oper) (B : Array Nat) : Bool :=
  Region.noSelect ops && (List.range ops.size).all fun i =>
    (match ops[i]? with
      | some o => o.after.toList.all (fun e => !Region.binds .any e || decide (e.on < i)) && ((B.getD i 0 ||| upOf B o) == upOf B o)
      | none => true) && (List.range i).all fun j => orderedOrSwaps ops B j i

theorem upOf_bit {B : Array Nat} {o : Oper} {j : Nat} (h : (upOf B o).testBit j = true) : ∃ e ∈ o.after, Region.binds .any e = true ∧ (e.on = j ∨ (B.getD e.on 0).testBit j = true) := by
  unfold upOf at h
  have key : ∀ l : List Edge, (l.foldr (fun e s => if Region.binds .any e then s ||| (2 ^ e.on ||| B.getD e.on 0) else s) 0).testBit j = true → ∃ e ∈ l, Region.binds .any e = true ∧ (e.on = j ∨ (B.getD e.on 0).testBit j = true) := by
    intro l
    induction l with
    | nil => intro h; simp at h
    | cons e r ih =>
      intro h
      simp only [List.foldr_cons] at h
      split at h
      · rename_i hb
        rw [Nat.testBit_or, Nat.testBit_or, Bool.or_eq_true, Bool.or_eq_true] at h
        rcases h with h | h | h
        · obtain ⟨e', h1, h2⟩ := ih h
          exact ⟨e', List.mem_cons_of_mem _ h1, h2⟩
        · rw [Nat.testBit_two_pow] at h
          exact ⟨e, List.mem_cons_self, hb, .inl (by simpa using h)⟩
        · exact ⟨e, List.mem_cons_self, hb, .inr h⟩
      · obtain ⟨e', h1, h2⟩ := ih h
        exact ⟨e', List.mem_cons_of_mem _ h1, h2⟩
  obtain ⟨e, h1, h2⟩ := key _ h
  exact ⟨e, by simpa using h1, h2⟩

theorem textB_row {B : Array Nat} (h : textB ops B = true) {i : Nat} {o : Oper} (hi : ops[i]? = some o) :
    (∀ e ∈ o.after, Region.binds .any e = true → e.on < i) ∧ (∀ j, (B.getD i 0).testBit j = true → ∃ e ∈ o.after, Region.binds .any e = true ∧ (e.on = j ∨ (B.getD e.on 0).testBit j = true)) ∧ ∀ j, j < i → orderedOrSwaps ops B j i = true := by
  have hlt : i < ops.size := (Array.getElem?_eq_some_iff.1 hi).1
  simp only [textB, Bool.and_eq_true, List.all_eq_true, List.mem_range] at h
  have h1 := h.2 i hlt
  rw [hi] at h1
  simp only [Bool.and_eq_true, List.all_eq_true, Bool.or_eq_true, Bool.not_eq_true', decide_eq_true_eq, beq_iff_eq] at h1
  obtain ⟨⟨h2, h3⟩, h4⟩ := h1
  refine ⟨fun e he hb => ?_, fun j hj => ?_, h4⟩
  · rcases h2 e (by simpa using he) with h | h
    · rw [hb] at h; cases h
    · exact h
  · refine upOf_bit ?_
    rw [← h3, Nat.testBit_or, hj, Bool.true_or]

def Shut (ops : Array Oper) (listed : Array Bool) : Prop := ∀ k o, ops[k]? = some o → listed.getD k false = true → ∀ e ∈ o.after, Region.binds .any e = true → listed.getD e.on false = true

theorem bits_listed {B : Array Nat} (hB : textB ops B = true) {listed : Array Bool} (hs : Shut ops listed) : ∀ (m i : Nat), i ≤ m → ∀ o, ops[i]? = some o → (∀ e ∈ o.after, Region.binds .any e = true → listed.getD e.on false = true) →
    ∀ j, (B.getD i 0).testBit j = true → listed.getD j false = true := by
  intro m
  induction m with
  | zero =>
    intro i hi o ho hd j hj
    obtain ⟨h1, h2, _⟩ := textB_row hB ho
    obtain ⟨e, he, hb, _⟩ := h2 j hj
    have := h1 e he hb
    omega
  | succ m ih =>
    intro i hi o ho hd j hj
    obtain ⟨h1, h2, _⟩ := textB_row hB ho
    obtain ⟨e, he, hb, hj⟩ := h2 j hj
    have hlt := h1 e he hb
    have hl := hd e he hb
    rcases hj with rfl | hj
    · exact hl
    · have hsz : i < ops.size := (Array.getElem?_eq_some_iff.1 ho).1
      have hoe : ops[e.on]? = some ops[e.on] := Array.getElem?_eq_getElem (by omega)
      exact ih e.on (by omega) _ hoe (fun e' he' hb' => hs _ _ hoe hl e' he' hb') j hj

def rest (n : Nat) (listed : Array Bool) : List Nat := (List.range n).filter fun i => !listed.getD i true

theorem runT_front {Q : Act → World → Prop} {i : Nat} {oi : Oper} (hi : ops[i]? = some oi) (hsel : ∀ (j : Nat) (o : Oper) cs b, ops[j]? = some o → o.op ≠ .select cs b) :
    ∀ (l1 l2 : List Nat) (a : Act) (w : World),
      (∀ j ∈ l1, ∃ oj, ops[j]? = some oj ∧ oj.apart ops oi = true ∧ (cl oj.op = .p ∨ cl oi.op = .p ∨ (cl oj.op = .r ∧ cl oi.op = .r))) →
      runT P ops Q (l1 ++ i :: l2) a w → stepT P ops oi (runT P ops Q (l1 ++ l2)) a w := by
  intro l1
  induction l1 with
  | nil =>
    intro l2 a w _ h
    simp only [List.nil_append, runT, hi] at h
    exact h
  | cons j r ih =>
    intro l2 a w hl h
    obtain ⟨oj, hj, hap, hc⟩ := hl j List.mem_cons_self
    simp only [List.cons_append, runT, hj] at h
    have h' : stepT P ops oj (stepT P ops oi (runT P ops Q (r ++ l2))) a w := stepT_mono (fun b w' hb => ih l2 b w' (fun k hk => hl k (List.mem_cons_of_mem _ hk)) hb) h
    have h'' := stepT_swap hap (fun cs b => hsel i oi cs b hi) (fun cs b => hsel j oj cs b hj) hc h'
    refine stepT_mono (fun b w' hb => ?_) h''
    simp only [List.cons_append, runT, hj]
    exact hb

theorem getD_set (listed : Array Bool) (i j : Nat) (d : Bool) (hi : i < listed.size) : (listed.setIfInBounds i true).getD j d = if i = j then true else listed.getD j d := by
  by_cases h : i = j
  · subst h; simp [hi]
  · rw [if_neg h, getD_set_ne d h]

theorem rest_split {n : Nat} {listed : Array Bool} (hn : listed.size = n) {i : Nat} (hi : i < n) (hu : listed.getD i true = false) :
    ∃ l1 l2, rest n listed = l1 ++ i :: l2 ∧ rest n (listed.setIfInBounds i true) = l1 ++ l2 ∧ ∀ j ∈ l1, j < i ∧ listed.getD j true = false := by
  have hsplit : List.range n = List.range i ++ i :: (List.range (n - i - 1)).map (· + (i + 1)) := by
    apply List.ext_getElem
    · simp; omega
    · intro k h1 h2
      simp only [List.getElem_range]
      by_cases hk : k < i
      · rw [List.getElem_append_left (by simpa using hk)]
        simp
      · rw [List.getElem_append_right (by simpa using hk)]
        simp only [List.length_range]
        by_cases hki : k = i
        · subst hki; simp
        · obtain ⟨m, hm⟩ : ∃ m, k - i = m + 1 := ⟨k - i - 1, by omega⟩
          simp only [hm, List.getElem_cons_succ, List.getElem_map, List.getElem_range]
          omega
  refine ⟨(List.range i).filter fun j => !listed.getD j true, ((List.range (n - i - 1)).map (· + (i + 1))).filter fun j => !listed.getD j true, ?_, ?_, ?_⟩
  · unfold rest
    rw [hsplit, List.filter_append, List.filter_cons, if_pos (by rw [hu]; rfl)]
  · unfold rest
    rw [hsplit, List.filter_append, List.filter_cons]
    have e1 : (listed.setIfInBounds i true).getD i true = true := by rw [getD_set _ _ _ _ (by omega), if_pos rfl]
    rw [e1]
    simp only [Bool.not_true, Bool.false_eq_true, if_false]
    congr 1
    · refine List.filter_congr fun j hj => ?_
      have : j < i := by simpa using hj
      rw [getD_set_ne true (by omega)]
    · refine List.filter_congr fun j hj => ?_
      obtain ⟨k, _, rfl⟩ := List.mem_map.1 hj
      rw [getD_set_ne true (by omega)]
  · intro j hj
    rw [List.mem_filter] at hj
    exact ⟨by simpa using hj.1, by simpa using hj.2⟩

theorem wpAny_of_run {B : Array Nat} (hB : textB ops B = true) {Q : Exit → Act → World → Prop} : ∀ (fuel : Nat) (listed : Array Bool) (a : Act) (w : World), listed.size = ops.size → Shut ops listed → (rest ops.size listed).length = fuel →
    runT P ops (fun a w => Q .normal a w) (rest ops.size listed) a w → wpAny P .any ops Q fuel listed a w := by
  have hsel := Region.noSelect_spec (by simp only [textB, Bool.and_eq_true] at hB; exact hB.1)
  intro fuel
  induction fuel with
  | zero =>
    intro listed a w hn hs hl h
    have hnil := List.eq_nil_of_length_eq_zero hl
    rw [hnil] at h
    refine ⟨?_, h⟩
    refine List.eq_nil_iff_forall_not_mem.2 fun i hi => ?_
    obtain ⟨h0, o, ho, _⟩ := mem_ready.1 hi
    have hlt : i < ops.size := (Array.getElem?_eq_some_iff.1 ho).1
    have : i ∈ rest ops.size listed := by
      unfold rest
      rw [List.mem_filter, List.mem_range]
      exact ⟨hlt, by rw [h0]; rfl⟩
    rw [hnil] at this
    cases this
  | succ fuel ih =>
    intro listed a w hn hs hl h
    refine ⟨fun hr => ?_, fun i hi => ?_⟩
    · -- the first of the rest is ready
      exfalso
      cases hrest : rest ops.size listed with
      | nil => rw [hrest] at hl; simp at hl
      | cons x r =>
        -- the least one that is not listed
        have hx : x ∈ rest ops.size listed := by rw [hrest]; exact List.mem_cons_self
        have hex : ∀ k, (∃ i, i ≤ k ∧ i ∈ rest ops.size listed) → ∃ i, i ∈ rest ops.size listed ∧ ∀ j, j < i → j ∉ rest ops.size listed := by
          intro k
          induction k with
          | zero =>
            rintro ⟨i, h1, h2⟩
            exact ⟨i, h2, fun j hj => by omega⟩
          | succ k ihk =>
            rintro ⟨i, h1, h2⟩
            by_cases hlow : ∃ j, j ≤ k ∧ j ∈ rest ops.size listed
            · exact ihk hlow
            · exact ⟨i, h2, fun j hj hm => hlow ⟨j, by omega, hm⟩⟩
        obtain ⟨i, him, hmin⟩ := hex x ⟨x, Nat.le_refl _, hx⟩
        have him' := him
        unfold rest at him'
        rw [List.mem_filter, List.mem_range] at him'
        have ho : ops[i]? = some ops[i] := Array.getElem?_eq_getElem him'.1
        have : i ∈ Region.ready .any ops listed := by
          refine mem_ready.2 ⟨by simpa using him'.2, _, ho, fun e he hb => ?_⟩
          have hlt := (textB_row hB ho).1 e he hb
          have hno := hmin e.on hlt
          unfold rest at hno
          rw [List.mem_filter, List.mem_range] at hno
          have hsz : e.on < listed.size := by omega
          have e1 : listed.getD e.on true = listed.getD e.on false := by simp [hsz]
          cases hb2 : listed.getD e.on false with
          | true => rfl
          | false =>
            rw [hb2] at e1
            exact absurd ⟨by omega, by rw [e1]; rfl⟩ hno
        rw [hr] at this
        cases this
    · obtain ⟨h0, oi, ho, hd⟩ := mem_ready.1 hi
      have hlt : i < ops.size := (Array.getElem?_eq_some_iff.1 ho).1
      obtain ⟨l1, l2, e1, e2, hl1⟩ := rest_split hn hlt h0
      rw [e1] at h
      have hfront := runT_front ho hsel l1 l2 a w (fun j hj => by
        obtain ⟨hji, hju⟩ := hl1 j hj
        have hsw := (textB_row hB ho).2.2 j hji
        have hoj : ops[j]? = some ops[j] := Array.getElem?_eq_getElem (by omega)
        unfold orderedOrSwaps at hsw
        rw [Bool.or_eq_true] at hsw
        rcases hsw with hsw | hsw
        · have := bits_listed hB hs i i (Nat.le_refl _) oi ho hd j hsw
          have hsz : j < listed.size := by omega
          have e3 : listed.getD j true = listed.getD j false := by simp [hsz]
          rw [hju, this] at e3
          cases e3
        · rw [hoj, ho] at hsw
          simp only [Bool.and_eq_true, Bool.or_eq_true, decide_eq_true_eq] at hsw
          exact ⟨_, hoj, hsw.1, by
            rcases hsw.2 with (h | h) | h
            · exact .inl h
            · exact .inr (.inl h)
            · exact .inr (.inr h)⟩) h
      refine wpOp_of_stepT ho (stepT_mono (fun b w' hb => ih _ b w' (by simpa using hn) ?_ ?_ (by rw [e2]; exact hb)) hfront)
      · intro k o hk hkl e he hb
        rw [getD_set _ _ _ _ (by omega)] at hkl
        by_cases hik : i = k
        · subst hik
          rw [ho] at hk
          injection hk with hk
          subst hk
          exact getD_set_true (hd e he hb)
        · rw [if_neg hik] at hkl
          exact getD_set_true (hs k o hk hkl e he hb)
      · rw [e2]
        rw [e1] at hl
        simp only [List.length_append, List.length_cons] at hl ⊢
        omega

def textD (P : Program) (ops : Array Oper) (Q : Act → World → Prop) : List Oper → Act → World → Prop
  | [], a, w => Q a w
  | o :: r, a, w => stepT P ops o (textD P ops Q r) a w

theorem runT_of_text {Q : Act → World → Prop} (l : List Oper) : ∀ k, (∀ j, l[j]? = ops[k + j]?) → ∀ a w, textD P ops Q l a w → runT P ops Q (List.range' k l.length) a w := by
  induction l with
  | nil => intro k _ a w h; exact h
  | cons o l ih =>
    intro k h a w hw
    have h0 : ops[k]? = some o := by simpa using (h 0).symm
    simp only [List.length_cons, List.range'_succ, runT, h0]
    exact stepT_mono (fun b w' hb => ih (k + 1) (fun j => by have := h (j + 1); simpa [Nat.add_assoc, Nat.add_comm 1 j] using this) b w' hb) hw

theorem rest_none (n : Nat) : rest n (Array.replicate n false) = List.range n := by
  unfold rest
  refine List.filter_eq_self.2 fun i hi => ?_
  have : i < n := by simpa using hi
  simp [this]

structure wpText (P : Program) (ops : Array Oper) (Q : Act → World → Prop) (l : List Oper) (a : Act) (w : World) : Prop where
  mk :: (out : textD P ops Q l a w)

theorem wp_region_text {id : Nat} {Q : Exit → Act → World → Prop} {a : Act} {w : World} {l : List Oper} (hm : P.follows .mixedOrders = true) (hB : textB l.toArray (Region.before l.toArray) = true)
    (h : wpText P l.toArray (fun a w => Q .normal a w) l a w.drew) : (Code.region id l.toArray true).wp P Q a w := by
  refine wp_region_any hm ?_
  have h1 := runT_of_text (ops := l.toArray) l 0 (by simp) a _ h.out
  refine wpAny_of_run hB _ _ _ _ (by simp) ?_ ?_ ?_
  · intro k o hk hl
    by_cases hlt : k < l.length
    · simp [hlt] at hl
    · simp [hlt] at hl
  · rw [rest_none]; simp
  · rw [rest_none]
    rw [List.range_eq_range']
    simpa using h1

variable {Q : Act → World → Prop} {r : List Oper} {o : Oper} {a : Act} {w : World}

theorem text_nil (h : Q a w) : wpText P ops Q [] a w := ⟨h⟩

theorem text_skip (hw : Region.wanted o (yielded ops a.tmps) = false) (h : wpText P ops Q r (a.put o.dst undef) w) : wpText P ops Q (o :: r) a w := by
  refine ⟨?_⟩
  show stepT P ops o (textD P ops Q r) a w
  unfold stepT
  rw [hw]
  exact h.out

theorem text_pass {ts : List Value} {ds : List Deferred} {d : Nat} (hd : o.dst = some d) (hw : Region.wanted o (yielded ops ts.toArray) = false) (h : wpText P ops Q r ⟨(ts.set d undef).toArray, ds⟩ w) : wpText P ops Q (o :: r) ⟨ts.toArray, ds⟩ w := by
  refine text_skip hw ?_
  rw [hd]
  simpa [Act.put] using h

def Vals (s : Sem Next) : Prop := ∀ (P : Program) (w : World) (x : Next) (w' : World), s.run P w = .ok x w' → ∃ v, x = .value v

theorem vals_pure (v : Value) : Vals (pure (.value v)) := fun P w x w' h => by
  rw [Sem.run_pure] at h
  injection h with h _
  exact ⟨_, h.symm⟩

theorem vals_halt (h : Halt) : Vals (.halt h) := fun P w x w' hr => by simp [Sem.run] at hr

theorem vals_bind {α : Type} {s : Sem α} {f : α → Sem Next} (h : ∀ y, Vals (f y)) : Vals (s >>= f) := fun P w x w' hr => by
  rw [Sem.run_bind] at hr
  cases hs : s.run P w with
  | ok y w1 =>
    rw [hs] at hr
    simp only [Result.andThen_ok] at hr
    exact h y P w1 x w' hr
  | halt e w1 =>
    rw [hs] at hr
    simp [Result.andThen] at hr

theorem vals_v (s : Sem Value) : Vals (do pure (.value (← s))) := vals_bind fun y => vals_pure y

theorem vals_ite {c : Prop} [Decidable c] {s t : Sem Next} (h1 : Vals s) (h2 : Vals t) : Vals (if c then s else t) := by split <;> assumption

theorem vals_panic (e : RuntimeError) : Vals (runtimePanic e) := by
  unfold runtimePanic
  refine vals_bind fun p => ?_
  cases e <;> first | exact vals_halt _ | (refine vals_bind fun _ => ?_; first | exact vals_halt _ | (refine vals_bind fun _ => ?_; exact vals_halt _))

theorem value_of_cl {ρ : Operand → Value} {x : Next} {w w' : World} (hc : cl o.op ≠ .a) (h : (execOp ρ o).run P w = .ok x w') : ∃ v, x = .value v := by
  revert h
  suffices Vals (execOp ρ o) from this P w x w'
  obtain ⟨dst, op, type, pos, after, guard⟩ := o
  cases op <;> simp only [cl, ne_eq, not_true_eq_false, not_false_eq_true, reduceCtorEq] at hc
  case move y => exact vals_pure _
  case assign y => exact vals_pure _
  case nilCheck y =>
    simp only [execOp]
    split
    · exact vals_panic _
    · exact vals_panic _
    · exact vals_panic _
    · split
      · exact vals_panic _
      · refine vals_bind fun _ => vals_bind fun _ => vals_ite ?_ ?_
        · exact vals_bind fun _ => vals_pure _
        · exact vals_pure _
      · exact vals_pure _
    · exact vals_pure _
  case pick c s t =>
    simp only [execOp]
    exact vals_bind fun _ => vals_pure _
  case call c =>
    obtain ⟨callee, args, argTypes⟩ := c
    cases callee with
    | value f => exact absurd rfl hc
    | invoke f m => exact absurd rfl hc
    | builtin b =>
      cases b
      case len => exact fun P w x w' h => vals_v (Builtin.len_ argTypes type (args.map ρ)) P w x w' (by simp only [execOp, resolve, Sem.run_bind, Sem.run_pure, Result.andThen_ok, invoke, builtin] at h ⊢; exact h)
      case cap => exact fun P w x w' h => vals_v (Builtin.cap_ argTypes type (args.map ρ)) P w x w' (by simp only [execOp, resolve, Sem.run_bind, Sem.run_pure, Result.andThen_ok, invoke, builtin] at h ⊢; exact h)
      case max => exact fun P w x w' h => vals_v (Builtin.max_ argTypes type (args.map ρ)) P w x w' (by simp only [execOp, resolve, Sem.run_bind, Sem.run_pure, Result.andThen_ok, invoke, builtin] at h ⊢; exact h)
      case min => exact fun P w x w' h => vals_v (Builtin.min_ argTypes type (args.map ρ)) P w x w' (by simp only [execOp, resolve, Sem.run_bind, Sem.run_pure, Result.andThen_ok, invoke, builtin] at h ⊢; exact h)
      all_goals exact absurd rfl hc
  all_goals (simp only [execOp]; exact vals_v _)

theorem text_p (hw : Region.wanted o (yielded ops a.tmps) = true) (hc : cl o.op = .p) (h : ∀ K : Act → Prop, (∀ a', wpText P ops Q r a' w → K a') → o.quiet P a (fun _ => True) K) : wpText P ops Q (o :: r) a w := by
  obtain ⟨v, h1, h2⟩ := h (fun a' => wpText P ops Q r a' w) (fun _ h => h)
  refine ⟨?_⟩
  show stepT P ops o (textD P ops Q r) a w
  unfold stepT
  rw [if_pos hw, hc]
  refine ⟨v, fun w' => ?_, h2.out⟩
  have h3 := h1 w' trivial
  unfold Oper.quietAt at h3
  cases hr : (execOp a.eval o).run P w' with
  | halt x w1 => rw [hr] at h3; exact h3.elim
  | ok n w1 =>
    obtain ⟨u, rfl⟩ := value_of_cl (by rw [hc]; decide) hr
    rw [hr] at h3
    obtain ⟨e1, e2⟩ := h3
    rw [e1, e2]

theorem text_r (hw : Region.wanted o (yielded ops a.tmps) = true) (hc : cl o.op = .r) (h : ∀ K : Act → Prop, (∀ a', wpText P ops Q r a' w → K a') → o.quiet P a (fun w' => w' = w) K) : wpText P ops Q (o :: r) a w := by
  obtain ⟨v, h1, h2⟩ := h (fun a' => wpText P ops Q r a' w) (fun _ h => h)
  refine ⟨?_⟩
  show stepT P ops o (textD P ops Q r) a w
  unfold stepT
  rw [if_pos hw, hc]
  refine ⟨v, ?_, h2.out⟩
  have h3 := h1 w rfl
  unfold Oper.quietAt at h3
  cases hr : (execOp a.eval o).run P w with
  | halt x w1 => rw [hr] at h3; exact h3.elim
  | ok n w1 =>
    obtain ⟨u, rfl⟩ := value_of_cl (by rw [hc]; decide) hr
    rw [hr] at h3
    obtain ⟨e1, e2⟩ := h3
    rw [e1, e2]

theorem text_a (hw : Region.wanted o (yielded ops a.tmps) = true) (hc : cl o.op = .a) (h : ∀ K : Act → World → Prop, (∀ a' w', wpText P ops Q r a' w' → K a' w') → o.wp P a w K NoQ) : wpText P ops Q (o :: r) a w := by
  refine ⟨?_⟩
  show stepT P ops o (textD P ops Q r) a w
  unfold stepT
  rw [if_pos hw, hc]
  exact outc_of_wp (h _ fun _ _ h => h.out)
end
end Go.Txt

namespace Go.Txt
open Go.RowKit

inductive Ck where
  | p
  | re
  | rl
  | m
  | c
  | a
  deriving DecidableEq

def Bw (wb w : World) : Prop := Below wb.heap.size wb w
theorem Bw.refl (w : World) : Bw w w := Below.refl _ _
theorem Bw.trans {a b c : World} (h : Bw a b) (k : Bw b c) : Bw a c := Below.trans h (Below.mono k h.size)
theorem Bw.alloc (w : World) (o : Obj) : Bw w (w.alloc o) := (Below.refl _ _).alloc (Nat.le_refl _) o
theorem Bw.obj {w w' : World} (h : Bw w w') {g : Nat} {o : Obj} (hg : w.heap[g]? = some o) : w'.heap[g]? = some o := (h.block g (Array.getElem?_eq_some_iff.1 hg).1).trans hg

theorem Bw.undrew {w w' : World} (h : Bw w.drew w') : Below w.heap.size w w' := ⟨h.os, h.tape, h.output, h.size, h.block⟩

def stepF (P : Program) (wb : World) (k : Ck) (s : Sem Next) (w : World) (F : Tr → World → Prop) : Prop :=
  match k with
  | .p => ∃ v, (∀ w1, s.run P w1 = .ok (.value v) w1) ∧ F (.put v) w
  | .re => Bw wb w ∧ ∃ v, (∀ w1, Bw wb w1 → s.run P w1 = .ok (.value v) w1) ∧ F (.put v) w
  | .rl => Bw wb w ∧ ∃ v, (∀ w1, Bw w w1 → s.run P w1 = .ok (.value v) w1) ∧ F (.put v) w
  | .m => Bw wb w ∧ ∃ (mk : Nat → Value) (obj : Obj), (∀ w1, s.run P w1 = .ok (.value (mk w1.heap.size)) (w1.alloc obj)) ∧ ∀ g w', Bw w w' → wb.heap.size ≤ g → w'.heap[g]? = some obj → F (.put (mk g)) w'
  | .c => Bw wb w ∧ ∀ w1, Bw w w1 → outc P (s.run P w1) fun t w' => Bw w1 w' ∧ F t w'
  | .a => outc P (s.run P w) F

section
variable {P : Program} {wb w : World} {k kj ki : Ck} {s sj si : Sem Next} {F G : Tr → World → Prop}

theorem stepF_mono (h : ∀ t w', (k = .c ∨ k = .a ∨ ∃ v, t = .put v) → F t w' → G t w') (hs : stepF P wb k s w F) : stepF P wb k s w G := by
  cases k with
  | p =>
    obtain ⟨v, h1, h2⟩ := hs
    exact ⟨v, h1, h _ _ (.inr (.inr ⟨v, rfl⟩)) h2⟩
  | re =>
    obtain ⟨h0, v, h1, h2⟩ := hs
    exact ⟨h0, v, h1, h _ _ (.inr (.inr ⟨v, rfl⟩)) h2⟩
  | rl =>
    obtain ⟨h0, v, h1, h2⟩ := hs
    exact ⟨h0, v, h1, h _ _ (.inr (.inr ⟨v, rfl⟩)) h2⟩
  | m =>
    obtain ⟨h0, mk, obj, h1, h2⟩ := hs
    exact ⟨h0, mk, obj, h1, fun g w' a1 a2 a3 => h _ _ (.inr (.inr ⟨_, rfl⟩)) (h2 g w' a1 a2 a3)⟩
  | c =>
    obtain ⟨h0, h1⟩ := hs
    exact ⟨h0, fun w1 hw => outc_mono (fun t w' hk => ⟨hk.1, h _ _ (.inl rfl) hk.2⟩) (h1 w1 hw)⟩
  | a => exact outc_mono (fun t w' hk => h _ _ (.inr (.inl rfl)) hk) hs

theorem outc_some {r : Result Next} {φ : Prop} (h : outc P r fun _ _ => φ) : φ := by
  by_cases hp : φ
  · exact hp
  · exact (outc_false (outc_mono (fun _ _ hk => hp hk) h)).elim

theorem stepF_some {φ : Prop} (hs : stepF P wb k s w fun _ _ => φ) : φ := by
  cases k with
  | p => obtain ⟨v, h1, h2⟩ := hs; exact h2
  | re => obtain ⟨h0, v, h1, h2⟩ := hs; exact h2
  | rl => obtain ⟨h0, v, h1, h2⟩ := hs; exact h2
  | m =>
    obtain ⟨h0, mk, obj, h1, h2⟩ := hs
    exact h2 w.heap.size (w.alloc obj) (Bw.alloc w obj) h0.size (heap_alloc_new w obj)
  | c =>
    obtain ⟨h0, h1⟩ := hs
    exact outc_some (outc_mono (fun _ _ hk => hk.2) (h1 w (Bw.refl w)))
  | a => exact outc_some hs

theorem value_inj {v u : Value} {w w' : World} (h : (Result.ok (Next.value v) w) = .ok (.value u) w') : v = u ∧ w = w' := by
  injection h with h1 h2
  injection h1 with h1
  exact ⟨h1, h2⟩

def swapK (kj ki : Ck) : Bool :=
  match kj, ki with
  | .p, _ => true
  | _, .p => true
  | .re, .re => true
  | .re, .rl => true
  | .rl, .re => true
  | .rl, .rl => true
  | .re, .m => true
  | .rl, .m => true
  | .re, .c => true
  | .rl, .c => true
  | .m, .re => true
  | .c, .re => true
  | .m, .m => true
  | .c, .m => true
  | _, _ => false

theorem swap_p {H : Tr → Tr → World → Prop} (h : stepF P wb .p sj w fun tj w1 => stepF P wb ki si w1 fun ti w2 => H tj ti w2) : stepF P wb ki si w fun ti w1 => stepF P wb .p sj w1 fun tj w2 => H tj ti w2 := by
  obtain ⟨v, h1, h2⟩ := h
  exact stepF_mono (fun t w' _ hk => ⟨v, h1, hk⟩) h2

theorem swap_ip {H : Tr → Tr → World → Prop} (h : stepF P wb kj sj w fun tj w1 => stepF P wb .p si w1 fun ti w2 => H tj ti w2) : stepF P wb .p si w fun ti w1 => stepF P wb kj sj w1 fun tj w2 => H tj ti w2 := by
  obtain ⟨v, hv⟩ : ∃ v, ∀ w1, si.run P w1 = .ok (.value v) w1 := stepF_some (stepF_mono (fun t w' _ hk => by obtain ⟨v, h1, _⟩ := hk; exact ⟨v, h1⟩) h)
  refine ⟨v, hv, stepF_mono (fun t w' _ hk => ?_) h⟩
  obtain ⟨u, hu, hk⟩ := hk
  have := (value_inj ((hv w').symm.trans (hu w'))).1
  rw [this]
  exact hk

theorem swap_ire {H : Tr → Tr → World → Prop} (hw : Bw wb w) (h : stepF P wb kj sj w fun tj w1 => stepF P wb .re si w1 fun ti w2 => H tj ti w2) : stepF P wb .re si w fun ti w1 => stepF P wb kj sj w1 fun tj w2 => H tj ti w2 := by
  obtain ⟨v, hv⟩ : ∃ v, ∀ w1, Bw wb w1 → si.run P w1 = .ok (.value v) w1 := stepF_some (stepF_mono (fun t w' _ hk => by obtain ⟨_, v, h1, _⟩ := hk; exact ⟨v, h1⟩) h)
  refine ⟨hw, v, hv, stepF_mono (fun t w' _ hk => ?_) h⟩
  obtain ⟨h0, u, hu, hk⟩ := hk
  have := (value_inj ((hv wb (Bw.refl wb)).symm.trans (hu wb (Bw.refl wb)))).1
  rw [this]
  exact hk

theorem stepF_swap (hk : swapK kj ki = true) {H : Tr → Tr → World → Prop} (h : stepF P wb kj sj w fun tj w1 => stepF P wb ki si w1 fun ti w2 => H tj ti w2) : stepF P wb ki si w fun ti w1 => stepF P wb kj sj w1 fun tj w2 => H tj ti w2 := by
  have late : ∀ {w1 : World}, Bw wb w → (∃ v, (∀ w2, Bw w w2 → sj.run P w2 = .ok (.value v) w2) ∧ H (.put v) (.put v) w1) → True := fun _ _ => trivial
  clear late
  cases ki with
  | p => exact swap_ip h
  | re =>
    cases kj with
    | p => exact swap_p h
    | re => exact swap_ire h.1 h
    | rl => exact swap_ire h.1 h
    | m => exact swap_ire h.1 h
    | c => exact swap_ire h.1 h
    | a => exact absurd hk (by decide)
  | rl =>
    cases kj with
    | p => exact swap_p h
    | re =>
      obtain ⟨h0, v, h1, _, u, h2, h3⟩ := h
      exact ⟨h0, u, h2, h0, v, h1, h3⟩
    | rl =>
      obtain ⟨h0, v, h1, _, u, h2, h3⟩ := h
      exact ⟨h0, u, h2, h0, v, h1, h3⟩
    | m => exact absurd hk (by decide)
    | c => exact absurd hk (by decide)
    | a => exact absurd hk (by decide)
  | m =>
    cases kj with
    | p => exact swap_p h
    | re =>
      obtain ⟨h0, v, h1, _, mk, obj, h2, h3⟩ := h
      exact ⟨h0, mk, obj, h2, fun g w' a1 a2 a3 => ⟨h0.trans a1, v, h1, h3 g w' a1 a2 a3⟩⟩
    | rl =>
      obtain ⟨h0, v, h1, _, mk, obj, h2, h3⟩ := h
      exact ⟨h0, mk, obj, h2, fun g w' a1 a2 a3 => ⟨h0.trans a1, v, fun w1 hb => h1 w1 (a1.trans hb), h3 g w' a1 a2 a3⟩⟩
    | m =>
      obtain ⟨h0, mkj, oj, h1, h2⟩ := h
      have hi := h2 w.heap.size (w.alloc oj) (Bw.alloc w oj) h0.size (heap_alloc_new w oj)
      obtain ⟨_, mki, oi, h3, _⟩ := hi
      refine ⟨h0, mki, oi, h3, fun gi wi a1 a2 a3 => ⟨h0.trans a1, mkj, oj, h1, fun gj wj b1 b2 b3 => ?_⟩⟩
      obtain ⟨_, mki', oi', h3', h4⟩ := h2 gj wj (a1.trans b1) b2 b3
      have e := (h3 wb).symm.trans (h3' wb)
      obtain ⟨e1, e2⟩ := value_inj e
      have eo : oi = oi' := by
        have := congrArg (fun w : World => w.heap[wb.heap.size]?) e2
        simp only [heap_alloc_new] at this
        exact Option.some.inj this
      subst eo
      have em : ∀ n, n = wb.heap.size → mki n = mki' n := fun n hn => by rw [hn]; exact e1
      clear em
      have all : mki gi = mki' gi := by
        have hgi := (h3 ⟨Array.replicate gi (Obj.chan 0 #[] false 0 0 false), wb.tape, wb.drawn, wb.os, wb.output⟩).symm.trans (h3' ⟨Array.replicate gi (Obj.chan 0 #[] false 0 0 false), wb.tape, wb.drawn, wb.os, wb.output⟩)
        have := (value_inj hgi).1
        simpa using this
      rw [all]
      exact h4 gi wj (Bw.refl _) a2 (b1.obj a3)
    | c =>
      obtain ⟨h0, h1⟩ := h
      obtain ⟨mki, oi, h3⟩ : ∃ (mk : Nat → Value) (obj : Obj), ∀ w1, si.run P w1 = .ok (.value (mk w1.heap.size)) (w1.alloc obj) :=
        outc_some (outc_mono (fun _ _ hk => by obtain ⟨_, _, mk, obj, h3, _⟩ := hk; exact ⟨mk, obj, h3⟩) (h1 w (Bw.refl w)))
      refine ⟨h0, mki, oi, h3, fun gi wi a1 a2 a3 => ⟨h0.trans a1, fun w1 b1 => outc_mono (fun t w' hk => ⟨hk.1, ?_⟩) (h1 w1 (a1.trans b1))⟩⟩
      obtain ⟨hk1, _, mki', oi', h3', h4⟩ := hk
      have all : ∀ n, mki n = mki' n := fun n => by
        have hgi := (h3 ⟨Array.replicate n (Obj.chan 0 #[] false 0 0 false), wb.tape, wb.drawn, wb.os, wb.output⟩).symm.trans (h3' ⟨Array.replicate n (Obj.chan 0 #[] false 0 0 false), wb.tape, wb.drawn, wb.os, wb.output⟩)
        have := (value_inj hgi).1
        simpa using this
      have eo : oi = oi' := by
        have := congrArg (fun w : World => w.heap[wb.heap.size]?) (value_inj ((h3 wb).symm.trans (h3' wb))).2
        simp only [heap_alloc_new] at this
        exact Option.some.inj this
      subst eo
      rw [all]
      exact h4 gi w' (Bw.refl _) a2 ((b1.trans hk1).obj a3)
    | a => exact absurd hk (by decide)
  | c =>
    cases kj with
    | p => exact swap_p h
    | re =>
      obtain ⟨h0, v, h1, _, h2⟩ := h
      exact ⟨h0, fun w1 hw => outc_mono (fun t w' hk => ⟨hk.1, (h0.trans hw).trans hk.1, v, h1, hk.2⟩) (h2 w1 hw)⟩
    | rl =>
      obtain ⟨h0, v, h1, _, h2⟩ := h
      exact ⟨h0, fun w1 hw => outc_mono (fun t w' hk => ⟨hk.1, (h0.trans hw).trans hk.1, v, fun w2 hb => h1 w2 ((hw.trans hk.1).trans hb), hk.2⟩) (h2 w1 hw)⟩
    | m => exact absurd hk (by decide)
    | c => exact absurd hk (by decide)
    | a => exact absurd hk (by decide)
  | a =>
    cases kj with
    | p => exact swap_p h
    | re => exact absurd hk (by decide)
    | rl => exact absurd hk (by decide)
    | m => exact absurd hk (by decide)
    | c => exact absurd hk (by decide)
    | a => exact absurd hk (by decide)

theorem outc_of_stepF (hs : stepF P wb k s w F) : outc P (s.run P w) F := by
  cases k with
  | p => obtain ⟨v, h1, h2⟩ := hs; rw [h1]; exact h2
  | re => obtain ⟨h0, v, h1, h2⟩ := hs; rw [h1 w h0]; exact h2
  | rl => obtain ⟨h0, v, h1, h2⟩ := hs; rw [h1 w (Bw.refl w)]; exact h2
  | m =>
    obtain ⟨h0, mk, obj, h1, h2⟩ := hs
    rw [h1]
    exact h2 _ _ (Bw.alloc w obj) h0.size (heap_alloc_new w obj)
  | c =>
    obtain ⟨h0, h1⟩ := hs
    exact outc_mono (fun _ _ hk => hk.2) (h1 w (Bw.refl w))
  | a => exact hs
end

section
variable {P : Program} {ops : Array Oper} {wb : World}

def stepM (P : Program) (ops : Array Oper) (wb : World) (k : Ck) (o : Oper) (K : Act → World → Prop) (a : Act) (w : World) : Prop :=
  if Region.wanted o (yielded ops a.tmps) then stepF P wb k (execOp a.eval o) w fun t w' => K (t.on o.dst a) w' else K ((Tr.put undef).on o.dst a) w

theorem stepM_mono {k : Ck} {o : Oper} {K K' : Act → World → Prop} {a : Act} {w : World} (h : ∀ a w, K a w → K' a w) (hs : stepM P ops wb k o K a w) : stepM P ops wb k o K' a w := by
  unfold stepM at *
  split
  · rename_i hw
    rw [if_pos hw] at hs
    exact stepF_mono (fun _ _ _ he => h _ _ he) hs
  · rename_i hw
    rw [if_neg hw] at hs
    exact h _ _ hs

theorem on_comm {t u : Tr} (h : (∃ v, t = .put v) ∨ ∃ v, u = .put v) (x y : Option Tmp) (a : Act) (hd : ∀ d, x = some d → y ≠ some d) : t.on x (u.on y a) = u.on y (t.on x a) := by
  have hd' : ∀ d, y = some d → x ≠ some d := fun d h1 h2 => hd d h2 h1
  rcases h with ⟨v, rfl⟩ | ⟨v, rfl⟩
  · exact (put_on_comm u y x a v hd).symm
  · exact put_on_comm t x y a v hd'

theorem swapK_put {kj ki : Ck} (h : swapK kj ki = true) : (kj ≠ .c ∧ kj ≠ .a) ∨ (ki ≠ .c ∧ ki ≠ .a) := by
  cases kj <;> cases ki <;> first | exact absurd h (by decide) | (left; constructor <;> (intro hh; cases hh); done) | (right; constructor <;> (intro hh; cases hh); done)

theorem stepM_swap {kj ki : Ck} {oi oj : Oper} (hap : oj.apart ops oi = true) (hsi : ∀ cs b, oi.op ≠ .select cs b) (hsj : ∀ cs b, oj.op ≠ .select cs b) (hk : swapK kj ki = true) {K : Act → World → Prop} {a : Act} {w : World}
    (h : stepM P ops wb kj oj (stepM P ops wb ki oi K) a w) : stepM P ops wb ki oi (stepM P ops wb kj oj K) a w := by
  obtain ⟨h1, h2, h3⟩ := Oper.apart_spec hap
  have ej : ∀ (t : Tr), execOp (t.on oi.dst a).eval oj = execOp a.eval oj := fun t => exec_on t _ _ oj hsj h3
  have wj : ∀ (t : Tr), Region.wanted oj (yielded ops (t.on oi.dst a).tmps) = Region.wanted oj (yielded ops a.tmps) := fun t => wanted_on t _ _ oj h3
  have ei : ∀ (t : Tr), execOp (t.on oj.dst a).eval oi = execOp a.eval oi := fun t => exec_on t _ _ oi hsi h1
  have wi : ∀ (t : Tr), Region.wanted oi (yielded ops (t.on oj.dst a).tmps) = Region.wanted oi (yielded ops a.tmps) := fun t => wanted_on t _ _ oi h1
  have cm : ∀ (ti tj : Tr), ((∃ v, ti = .put v) ∨ ∃ v, tj = .put v) → ti.on oi.dst (tj.on oj.dst a) = tj.on oj.dst (ti.on oi.dst a) := fun ti tj hh => on_comm hh _ _ a (fun d e1 e2 => h2 d e2 e1)
  unfold stepM at h ⊢
  by_cases wa : Region.wanted oj (yielded ops a.tmps) = true
  · by_cases wb' : Region.wanted oi (yielded ops a.tmps) = true
    · rw [if_pos wa] at h
      rw [if_pos wb']
      simp only [wi, if_pos wb', ei] at h
      simp only [wj, if_pos wa, ej]
      have hs := stepF_swap hk (H := fun tj ti w2 => K (ti.on oi.dst (tj.on oj.dst a)) w2) h
      refine stepF_mono (fun ti w1 hti hk1 => stepF_mono (fun tj w2 htj hk2 => ?_) hk1) hs
      rw [← cm ti tj ?_]
      · exact hk2
      · rcases swapK_put hk with ⟨n1, n2⟩ | ⟨n1, n2⟩
        · exact .inr ((htj.resolve_left n1).resolve_left n2)
        · exact .inl ((hti.resolve_left n1).resolve_left n2)
    · rw [if_pos wa] at h
      rw [if_neg wb']
      simp only [wi, if_neg wb'] at h
      simp only [wj, if_pos wa, ej]
      refine stepF_mono (fun tj w2 htj hk2 => ?_) h
      rw [← cm (.put undef) tj (.inl ⟨_, rfl⟩)]
      exact hk2
  · rw [if_neg wa] at h
    simp only [wi, ei] at h
    simp only [wj, if_neg wa]
    by_cases wb' : Region.wanted oi (yielded ops a.tmps) = true
    · rw [if_pos wb'] at h ⊢
      refine stepF_mono (fun ti w2 hti hk2 => ?_) h
      rw [← cm ti (.put undef) (.inr ⟨_, rfl⟩)]
      exact hk2
    · rw [if_neg wb'] at h ⊢
      rw [← cm (.put undef) (.put undef) (.inr ⟨_, rfl⟩)]
      exact h

theorem wpOp_of_stepM {i : Nat} {k : Ck} {o : Oper} (hi : ops[i]? = some o) {K : Act → World → Prop} {Q : Exit → Act → World → Prop} {a : Act} {w : World} (hs : stepM P ops wb k o K a w) : wpOp P ops Q i K a w := by
  unfold stepM at hs
  unfold wpOp
  simp only [hi]
  split
  · rename_i hw
    rw [if_pos hw] at hs
    exact .inl (wp_of_outc (outc_of_stepF hs))
  · rename_i hw
    rw [if_neg hw] at hs
    exact hs

def kop : Op → Ck
  | .move _ => .p
  | .assign _ => .p
  | .pick .. => .p
  | .nilCheck _ => .p
  | .binOp .. => .p
  | .unOp .. => .p
  | .convert .. => .p
  | .fieldAddr .. => .p
  | .field .. => .p
  | .indexAddr .. => .p
  | .index .. => .p
  | .extract .. => .p
  | .slice .. => .p
  | .build .. => .p
  | .makeFunc .. => .p
  | .load .. => .re
  | .alloc _ => .m
  | .box .. => .m
  | .buildSlice .. => .m
  | .makeSlice .. => .m
  | .call c => match c.callee with
    | .builtin .len => .p
    | .builtin .cap => .p
    | .builtin .max => .p
    | .builtin .min => .p
    | .value _ => .c
    | _ => .a
  | _ => .a

def dat (ops : Array Oper) : Nat → Nat → Bool
  | 0, _ => true
  | n + 1, i => match ops[i]? with
    | some o => o.after.toList.any fun e => decide (e.ground = .data) && ((match ops[e.on]? with | some oj => decide (kop oj.op = .m) || decide (kop oj.op = .c) | none => false) || dat ops n e.on)
    | none => false

def kat (ops : Array Oper) (B : Array Nat) (i : Nat) (o : Oper) : Ck :=
  match kop o.op with
  | .p => .p
  | .a => .a
  | k => if (List.range i).any (fun j => match ops[j]? with | some oj => decide (kop oj.op = .a) | none => false) then .a
    else match k with
      | .re => if (List.range i).any (fun j => (B.getD i 0).testBit j && match ops[j]? with | some oj => decide (kop oj.op = .m) || decide (kop oj.op = .c) | none => false) && dat ops (i + 1) i then .rl else .re
      | k => k
theorem kat_p {ops : Array Oper} {B : Array Nat} {i : Nat} {o : Oper} (h : kop o.op = .p) : kat ops B i o = .p := by unfold kat; rw [h]

def runM (P : Program) (ops : Array Oper) (wb : World) (B : Array Nat) (Q : Act → World → Prop) : List Nat → Act → World → Prop
  | [], a, w => Q a w
  | i :: r, a, w => match ops[i]? with
    | some o => stepM P ops wb (kat ops B i o) o (runM P ops wb B Q r) a w
    | none => runM P ops wb B Q r a w

def orderedOrSwapsM (ops : Array Oper) (B : Array Nat) (j i : Nat) : Bool :=
  (B.getD i 0).testBit j || match ops[j]?, ops[i]? with
    | some oj, some oi => oj.apart ops oi && swapK (kat ops B j oj) (kat ops B i oi)
    | _, _ => false

def mixB (ops : Array Oper) (B : Array Nat) : Bool :=
  Region.noSelect ops && (List.range ops.size).all fun i =>
    (match ops[i]? with
      | some o => o.after.toList.all (fun e => !Region.binds .any e || decide (e.on < i)) && ((B.getD i 0 ||| upOf B o) == upOf B o)
      | none => true) && (List.range i).all fun j => orderedOrSwapsM ops B j i

theorem mixB_row {B : Array Nat} (h : mixB ops B = true) {i : Nat} {o : Oper} (hi : ops[i]? = some o) :
    (∀ e ∈ o.after, Region.binds .any e = true → e.on < i) ∧ (∀ j, (B.getD i 0).testBit j = true → ∃ e ∈ o.after, Region.binds .any e = true ∧ (e.on = j ∨ (B.getD e.on 0).testBit j = true)) ∧ ∀ j, j < i → orderedOrSwapsM ops B j i = true := by
  have hlt : i < ops.size := (Array.getElem?_eq_some_iff.1 hi).1
  simp only [mixB, Bool.and_eq_true, List.all_eq_true, List.mem_range] at h
  have h1 := h.2 i hlt
  rw [hi] at h1
  simp only [Bool.and_eq_true, List.all_eq_true, Bool.or_eq_true, Bool.not_eq_true', decide_eq_true_eq, beq_iff_eq] at h1
  obtain ⟨⟨h2, h3⟩, h4⟩ := h1
  refine ⟨fun e he hb => ?_, fun j hj => ?_, h4⟩
  · rcases h2 e (by simpa using he) with h | h
    · rw [hb] at h; cases h
    · exact h
  · refine upOf_bit ?_
    rw [← h3, Nat.testBit_or, hj, Bool.true_or]

theorem bits_listedM {B : Array Nat} (hB : mixB ops B = true) {listed : Array Bool} (hs : Shut ops listed) : ∀ (m i : Nat), i ≤ m → ∀ o, ops[i]? = some o → (∀ e ∈ o.after, Region.binds .any e = true → listed.getD e.on false = true) →
    ∀ j, (B.getD i 0).testBit j = true → listed.getD j false = true := by
  intro m
  induction m with
  | zero =>
    intro i hi o ho hd j hj
    obtain ⟨h1, h2, _⟩ := mixB_row hB ho
    obtain ⟨e, he, hb, _⟩ := h2 j hj
    have := h1 e he hb
    omega
  | succ m ih =>
    intro i hi o ho hd j hj
    obtain ⟨h1, h2, _⟩ := mixB_row hB ho
    obtain ⟨e, he, hb, hj⟩ := h2 j hj
    have hlt := h1 e he hb
    have hl := hd e he hb
    rcases hj with rfl | hj
    · exact hl
    · have hsz : i < ops.size := (Array.getElem?_eq_some_iff.1 ho).1
      have hoe : ops[e.on]? = some ops[e.on] := Array.getElem?_eq_getElem (by omega)
      exact ih e.on (by omega) _ hoe (fun e' he' hb' => hs _ _ hoe hl e' he' hb') j hj

theorem runM_front {B : Array Nat} {Q : Act → World → Prop} {i : Nat} {oi : Oper} (hi : ops[i]? = some oi) (hsel : ∀ (j : Nat) (o : Oper) cs b, ops[j]? = some o → o.op ≠ .select cs b) :
    ∀ (l1 l2 : List Nat) (a : Act) (w : World),
      (∀ j ∈ l1, ∃ oj, ops[j]? = some oj ∧ oj.apart ops oi = true ∧ swapK (kat ops B j oj) (kat ops B i oi) = true) →
      runM P ops wb B Q (l1 ++ i :: l2) a w → stepM P ops wb (kat ops B i oi) oi (runM P ops wb B Q (l1 ++ l2)) a w := by
  intro l1
  induction l1 with
  | nil =>
    intro l2 a w _ h
    simp only [List.nil_append, runM, hi] at h
    exact h
  | cons j r ih =>
    intro l2 a w hl h
    obtain ⟨oj, hj, hap, hc⟩ := hl j List.mem_cons_self
    simp only [List.cons_append, runM, hj] at h
    have h' : stepM P ops wb (kat ops B j oj) oj (stepM P ops wb (kat ops B i oi) oi (runM P ops wb B Q (r ++ l2))) a w := stepM_mono (fun b w' hb => ih l2 b w' (fun k hk => hl k (List.mem_cons_of_mem _ hk)) hb) h
    have h'' := stepM_swap hap (fun cs b => hsel i oi cs b hi) (fun cs b => hsel j oj cs b hj) hc h'
    refine stepM_mono (fun b w' hb => ?_) h''
    simp only [List.cons_append, runM, hj]
    exact hb

theorem wpAny_of_runM {B : Array Nat} (hB : mixB ops B = true) {Q : Exit → Act → World → Prop} : ∀ (fuel : Nat) (listed : Array Bool) (a : Act) (w : World), listed.size = ops.size → Shut ops listed → (rest ops.size listed).length = fuel →
    runM P ops wb B (fun a w => Q .normal a w) (rest ops.size listed) a w → wpAny P .any ops Q fuel listed a w := by
  have hsel := Region.noSelect_spec (by simp only [mixB, Bool.and_eq_true] at hB; exact hB.1)
  intro fuel
  induction fuel with
  | zero =>
    intro listed a w hn hs hl h
    have hnil := List.eq_nil_of_length_eq_zero hl
    rw [hnil] at h
    refine ⟨?_, h⟩
    refine List.eq_nil_iff_forall_not_mem.2 fun i hi => ?_
    obtain ⟨h0, o, ho, _⟩ := mem_ready.1 hi
    have hlt : i < ops.size := (Array.getElem?_eq_some_iff.1 ho).1
    have : i ∈ rest ops.size listed := by
      unfold rest
      rw [List.mem_filter, List.mem_range]
      exact ⟨hlt, by rw [h0]; rfl⟩
    rw [hnil] at this
    cases this
  | succ fuel ih =>
    intro listed a w hn hs hl h
    refine ⟨fun hr => ?_, fun i hi => ?_⟩
    · exfalso
      cases hrest : rest ops.size listed with
      | nil => rw [hrest] at hl; simp at hl
      | cons x r =>
        have hx : x ∈ rest ops.size listed := by rw [hrest]; exact List.mem_cons_self
        have hex : ∀ k, (∃ i, i ≤ k ∧ i ∈ rest ops.size listed) → ∃ i, i ∈ rest ops.size listed ∧ ∀ j, j < i → j ∉ rest ops.size listed := by
          intro k
          induction k with
          | zero =>
            rintro ⟨i, h1, h2⟩
            exact ⟨i, h2, fun j hj => by omega⟩
          | succ k ihk =>
            rintro ⟨i, h1, h2⟩
            by_cases hlow : ∃ j, j ≤ k ∧ j ∈ rest ops.size listed
            · exact ihk hlow
            · exact ⟨i, h2, fun j hj hm => hlow ⟨j, by omega, hm⟩⟩
        obtain ⟨i, him, hmin⟩ := hex x ⟨x, Nat.le_refl _, hx⟩
        have him' := him
        unfold rest at him'
        rw [List.mem_filter, List.mem_range] at him'
        have ho : ops[i]? = some ops[i] := Array.getElem?_eq_getElem him'.1
        have : i ∈ Region.ready .any ops listed := by
          refine mem_ready.2 ⟨by simpa using him'.2, _, ho, fun e he hb => ?_⟩
          have hlt := (mixB_row hB ho).1 e he hb
          have hno := hmin e.on hlt
          unfold rest at hno
          rw [List.mem_filter, List.mem_range] at hno
          have hsz : e.on < listed.size := by omega
          have e1 : listed.getD e.on true = listed.getD e.on false := by simp [hsz]
          cases hb2 : listed.getD e.on false with
          | true => rfl
          | false =>
            rw [hb2] at e1
            exact absurd ⟨by omega, by rw [e1]; rfl⟩ hno
        rw [hr] at this
        cases this
    · obtain ⟨h0, oi, ho, hd⟩ := mem_ready.1 hi
      have hlt : i < ops.size := (Array.getElem?_eq_some_iff.1 ho).1
      obtain ⟨l1, l2, e1, e2, hl1⟩ := rest_split hn hlt h0
      rw [e1] at h
      have hfront := runM_front ho hsel l1 l2 a w (fun j hj => by
        obtain ⟨hji, hju⟩ := hl1 j hj
        have hsw := (mixB_row hB ho).2.2 j hji
        have hoj : ops[j]? = some ops[j] := Array.getElem?_eq_getElem (by omega)
        unfold orderedOrSwapsM at hsw
        rw [Bool.or_eq_true] at hsw
        rcases hsw with hsw | hsw
        · have := bits_listedM hB hs i i (Nat.le_refl _) oi ho hd j hsw
          have hsz : j < listed.size := by omega
          have e3 : listed.getD j true = listed.getD j false := by simp [hsz]
          rw [hju, this] at e3
          cases e3
        · rw [hoj, ho] at hsw
          simp only [Bool.and_eq_true] at hsw
          exact ⟨_, hoj, hsw.1, hsw.2⟩) h
      refine wpOp_of_stepM ho (stepM_mono (fun b w' hb => ih _ b w' (by simpa using hn) ?_ ?_ (by rw [e2]; exact hb)) hfront)
      · intro k o hk hkl e he hb
        rw [getD_set _ _ _ _ (by omega)] at hkl
        by_cases hik : i = k
        · subst hik
          rw [ho] at hk
          injection hk with hk
          subst hk
          exact getD_set_true (hd e he hb)
        · rw [if_neg hik] at hkl
          exact getD_set_true (hs k o hk hkl e he hb)
      · rw [e2]
        rw [e1] at hl
        simp only [List.length_append, List.length_cons] at hl ⊢
        omega

def mixD (P : Program) (ops : Array Oper) (wb : World) (B : Array Nat) (Q : Act → World → Prop) : Nat → List Oper → Act → World → Prop
  | _, [], a, w => Q a w
  | i, o :: r, a, w => stepM P ops wb (kat ops B i o) o (mixD P ops wb B Q (i + 1) r) a w

theorem runM_of_mix {B : Array Nat} {Q : Act → World → Prop} (l : List Oper) : ∀ k, (∀ j, l[j]? = ops[k + j]?) → ∀ a w, mixD P ops wb B Q k l a w → runM P ops wb B Q (List.range' k l.length) a w := by
  induction l with
  | nil => intro k _ a w h; exact h
  | cons o l ih =>
    intro k h a w hw
    have h0 : ops[k]? = some o := by simpa using (h 0).symm
    simp only [List.length_cons, List.range'_succ, runM, h0]
    exact stepM_mono (fun b w' hb => ih (k + 1) (fun j => by have := h (j + 1); simpa [Nat.add_assoc, Nat.add_comm 1 j] using this) b w' hb) hw

structure wpMix (P : Program) (ops : Array Oper) (wb : World) (Q : Act → World → Prop) (i : Nat) (l : List Oper) (a : Act) (w : World) : Prop where
  mk :: (out : mixD P ops wb (Region.before ops) Q i l a w)

theorem wp_region_mix {id : Nat} {Q : Exit → Act → World → Prop} {a : Act} {w : World} {l : List Oper} (hm : P.follows .mixedOrders = true) (hB : mixB l.toArray (Region.before l.toArray) = true)
    (h : Bw w.drew w.drew → wpMix P l.toArray w.drew (fun a w => Q .normal a w) 0 l a w.drew) : (Code.region id l.toArray true).wp P Q a w := by
  refine wp_region_any hm ?_
  have h1 := runM_of_mix (ops := l.toArray) l 0 (by simp) a _ (h (Bw.refl _)).out
  refine wpAny_of_runM (wb := w.drew) hB _ _ _ _ (by simp) ?_ ?_ ?_
  · intro k o hk hl
    by_cases hlt : k < l.length
    · simp [hlt] at hl
    · simp [hlt] at hl
  · rw [rest_none]; simp
  · rw [rest_none]
    rw [List.range_eq_range']
    simpa using h1

variable {Q : Act → World → Prop} {r : List Oper} {o : Oper} {a : Act} {w : World} {i : Nat}

theorem mix_nil (h : Q a w) : wpMix P ops wb Q i [] a w := ⟨h⟩

theorem mix_pass {ts : List Value} {ds : List Deferred} {d : Nat} (hd : o.dst = some d) (hw : Region.wanted o (yielded ops ts.toArray) = false) (h : wpMix P ops wb Q (i + 1) r ⟨(ts.set d undef).toArray, ds⟩ w) : wpMix P ops wb Q i (o :: r) ⟨ts.toArray, ds⟩ w := by
  refine ⟨?_⟩
  show stepM P ops wb (kat ops _ i o) o (mixD P ops wb _ Q (i + 1) r) _ w
  unfold stepM
  rw [hw, hd]
  have := h.out
  simpa [Act.put, Tr.on] using this

theorem mix_p (hw : Region.wanted o (yielded ops a.tmps) = true) (hc : cl o.op = .p) (hk : kop o.op = .p) (h : ∀ K : Act → Prop, (∀ a', wpMix P ops wb Q (i + 1) r a' w → K a') → o.quiet P a (fun _ => True) K) : wpMix P ops wb Q i (o :: r) a w := by
  obtain ⟨v, h1, h2⟩ := h (fun a' => wpMix P ops wb Q (i + 1) r a' w) (fun _ h => h)
  refine ⟨?_⟩
  show stepM P ops wb (kat ops _ i o) o (mixD P ops wb _ Q (i + 1) r) a w
  unfold stepM
  rw [if_pos hw, kat_p hk]
  refine ⟨v, fun w' => ?_, h2.out⟩
  have h3 := h1 w' trivial
  unfold Oper.quietAt at h3
  cases hr : (execOp a.eval o).run P w' with
  | halt x w1 => rw [hr] at h3; exact h3.elim
  | ok n w1 =>
    obtain ⟨u, rfl⟩ := value_of_cl (by rw [hc]; decide) hr
    rw [hr] at h3
    obtain ⟨e1, e2⟩ := h3
    rw [e1, e2]

def Near {α : Type} (b : Nat) (s : Sem α) : Prop := ∀ (P : Program) (w w1 w' : World) (x : α), w1.heap[b]? = w.heap[b]? → (∃ cs t fr, w.heap[b]? = some (.cells cs t fr)) → s.run P w = .ok x w' → s.run P w1 = .ok x w1
theorem near_pure {α : Type} {b : Nat} (x : α) : Near b (pure x : Sem α) := fun P w w1 w' y _ _ h => by
  rw [Sem.run_pure] at h ⊢
  injection h with h _
  rw [h]
def Lone {α : Type} (b : Nat) (s : Sem α) : Prop := ∀ (P : Program) (w w' : World) (x : α), (∃ cs t fr, w.heap[b]? = some (.cells cs t fr)) → s.run P w = .ok x w' → w' = w
theorem lone_pure {α : Type} {b : Nat} (x : α) : Lone b (pure x : Sem α) := fun P w w' y _ h => by
  rw [Sem.run_pure] at h
  injection h with _ h
  exact h.symm
theorem lone_bind {α β : Type} {b : Nat} {s : Sem α} {f : α → Sem β} (h1 : Lone b s) (h2 : ∀ y, Lone b (f y)) : Lone b (s >>= f) := fun P w w' x hb h => by
  rw [Sem.run_bind] at h
  cases hs : s.run P w with
  | ok y w1 =>
    rw [hs] at h
    simp only [Result.andThen_ok] at h
    have e := h1 P w w1 y hb hs
    subst e
    exact h2 y P w1 w' x hb h
  | halt e w1 => rw [hs] at h; simp [Result.andThen] at h
theorem near_bind {α β : Type} {b : Nat} {s : Sem α} {f : α → Sem β} (h1 : Near b s) (h3 : Lone b s) (h2 : ∀ y, Near b (f y)) : Near b (s >>= f) := fun P w w1 w' x he hb h => by
  rw [Sem.run_bind] at h ⊢
  cases hs : s.run P w with
  | ok y w2 =>
    rw [hs] at h
    simp only [Result.andThen_ok] at h
    have e := h3 P w w2 y hb hs
    subst e
    rw [h1 P w2 w1 w2 y he hb hs]
    simp only [Result.andThen_ok]
    exact h2 y P w2 w1 w' x he hb h
  | halt e w2 => rw [hs] at h; simp [Result.andThen] at h
theorem near_prog {α : Type} {b : Nat} {f : Program → Sem α} (h : ∀ p, Near b (f p)) : Near b (Go.program >>= f) := fun P w w1 w' x he hb hr => by
  rw [Sem.run_bind] at hr ⊢
  have e : ∀ w : World, (Go.program).run P w = .ok P w := fun _ => rfl
  rw [e] at hr ⊢
  simp only [Result.andThen_ok] at hr ⊢
  exact h P P w w1 w' x he hb hr
theorem lone_prog {α : Type} {b : Nat} {f : Program → Sem α} (h : ∀ p, Lone b (f p)) : Lone b (Go.program >>= f) := fun P w w' x hb hr => by
  rw [Sem.run_bind] at hr
  have e : ∀ w : World, (Go.program).run P w = .ok P w := fun _ => rfl
  rw [e] at hr
  simp only [Result.andThen_ok] at hr
  exact h P P w w' x hb hr
theorem near_halt {α : Type} {b : Nat} (h : Halt) : Near b (.halt h : Sem α) := fun P w w1 w' x _ _ hr => by simp [Sem.run] at hr
theorem lone_halt {α : Type} {b : Nat} (h : Halt) : Lone b (.halt h : Sem α) := fun P w w' x _ hr => by simp [Sem.run] at hr
theorem near_load {a : Addr} : Near a.block (Go.load a) := fun P w w1 w' x he hb hr => by
  obtain ⟨cs, t, fr, hb⟩ := hb
  have hc : w1.cell? a = w.cell? a := by simp [World.cell?, he]
  unfold Go.load at hr ⊢
  unfold Sem.run at hr ⊢
  rw [hc]
  cases hcell : w.cell? a with
  | some v =>
    rw [hcell] at hr
    simp only [Sem.run] at hr ⊢
    injection hr with hr _
    rw [hr]
  | none =>
    rw [hcell] at hr
    simp [World.farLoad, hb] at hr
theorem lone_load {a : Addr} : Lone a.block (Go.load a) := fun P w w' x hb hr => by
  obtain ⟨cs, t, fr, hb⟩ := hb
  unfold Go.load at hr
  unfold Sem.run at hr
  cases hcell : w.cell? a with
  | some v =>
    rw [hcell] at hr
    simp only [Sem.run] at hr
    injection hr with _ hr
    exact hr.symm
  | none =>
    rw [hcell] at hr
    simp [World.farLoad, hb] at hr
theorem add_block (a : Addr) (n : Nat) : (a.add n).block = a.block := by unfold Addr.add; split <;> rfl
theorem near_cells (a : Addr) : ∀ (n i : Nat) (acc : Array Value), Near a.block (loadCellsFrom a i n acc) ∧ Lone a.block (loadCellsFrom a i n acc)
  | 0, i, acc => ⟨near_pure _, lone_pure _⟩
  | n + 1, i, acc => by
    have hn : Near a.block (Go.load (a.add i)) := by have := near_load (a := a.add i); rwa [add_block] at this
    have hl : Lone a.block (Go.load (a.add i)) := by have := lone_load (a := a.add i); rwa [add_block] at this
    exact ⟨near_bind hn hl fun y => (near_cells a n (i + 1) (acc.push y)).1, lone_bind hl fun y => (near_cells a n (i + 1) (acc.push y)).2⟩
theorem near_under {b : Nat} (t : TypeId) : Near b (Go.underlying t) ∧ Lone b (Go.underlying t) := by
  unfold Go.underlying
  refine ⟨near_prog fun p => ?_, lone_prog fun p => ?_⟩ <;> cases p.underlying t <;> first | exact near_pure _ | exact near_halt _ | exact lone_pure _ | exact lone_halt _
theorem near_size {b : Nat} (t : TypeId) : Near b (Go.sizeOf t) ∧ Lone b (Go.sizeOf t) := by
  have h : Near b (Go.typeInfo t) ∧ Lone b (Go.typeInfo t) := by
    unfold Go.typeInfo
    refine ⟨near_prog fun p => ?_, lone_prog fun p => ?_⟩ <;> cases p.info? t <;> first | exact near_pure _ | exact near_halt _ | exact lone_pure _ | exact lone_halt _
  unfold Go.sizeOf
  exact ⟨near_bind h.1 h.2 fun _ => near_pure _, lone_bind h.2 fun _ => lone_pure _⟩
theorem near_agg {b : Nat} (t : TypeId) : Near b (Go.isAgg t) ∧ Lone b (Go.isAgg t) := by
  unfold Go.isAgg
  refine ⟨near_bind (near_under t).1 (near_under t).2 fun d => ?_, lone_bind (near_under t).2 fun d => ?_⟩ <;> cases d <;> first | exact near_pure _ | exact lone_pure _
theorem near_var (t : TypeId) (a : Addr) : Near a.block (Go.loadVar t a) ∧ Lone a.block (Go.loadVar t a) := by
  unfold Go.loadVar
  refine ⟨near_bind (near_agg t).1 (near_agg t).2 fun d => ?_, lone_bind (near_agg t).2 fun d => ?_⟩
  · cases d
    · exact near_load
    · exact near_bind (near_size t).1 (near_size t).2 fun n => near_bind (near_cells a n 0 #[]).1 (near_cells a n 0 #[]).2 fun _ => near_pure _
  · cases d
    · exact lone_load
    · exact lone_bind (near_size t).2 fun n => lone_bind (near_cells a n 0 #[]).2 fun _ => lone_pure _

theorem load_sure {wr w1 : World} {t : TypeId} {x : Operand} {ad : Addr} {v : Value} (ho : o.op = .load t x) (hx : a.eval x = .pointer (some ad)) (hc : (wr.cell? ad).isSome = true) (hr : (execOp a.eval o).run P wr = .ok (.value v) wr) (hb : Bw wr w1) : (execOp a.eval o).run P w1 = .ok (.value v) w1 := by
  obtain ⟨u, hu⟩ := Option.isSome_iff_exists.1 hc
  have hlt := World.block_lt_of_cell? wr ad hu
  have hcells : ∃ cs t fr, wr.heap[ad.block]? = some (.cells cs t fr) := by
    unfold World.cell? at hu
    split at hu
    · rename_i c e f hh
      exact ⟨_, _, _, hh⟩
    · cases hu
  have hs : execOp a.eval o = (do let y ← Go.loadVar t ad; pure (Next.value y) : Sem Next) := by
    obtain ⟨dst, op, type, pos, after, guard⟩ := o
    simp only at ho
    subst ho
    simp only [execOp, hx]
    rfl
  rw [hs] at hr ⊢
  exact near_bind (near_var t ad).1 (near_var t ad).2 (fun y => near_pure _) P wr w1 wr _ (hb.block _ hlt) hcells hr

theorem quiet_run {C : World → Prop} {wr : World} {K : Act → Prop} (hc : cl o.op ≠ .a) (hC : C wr) (h : o.quiet P a C K) : ∃ v, (execOp a.eval o).run P wr = .ok (.value v) wr ∧ K (a.put o.dst v) := by
  obtain ⟨v, h1, h2⟩ := h
  refine ⟨v, ?_, h2⟩
  have h3 := h1 wr hC
  unfold Oper.quietAt at h3
  cases hr : (execOp a.eval o).run P wr with
  | halt x w1 => rw [hr] at h3; exact h3.elim
  | ok n w1 =>
    obtain ⟨u, rfl⟩ := value_of_cl hc hr
    rw [hr] at h3
    obtain ⟨e1, e2⟩ := h3
    rw [e1, e2]

theorem mix_re {t : TypeId} {x : Operand} {ad : Addr} (hw : Region.wanted o (yielded ops a.tmps) = true) (hk : kat ops (Region.before ops) i o = .re ∨ kat ops (Region.before ops) i o = .rl) (ho : o.op = .load t x) (hx : a.eval x = .pointer (some ad)) (hc : (wb.cell? ad).isSome = true) (hB : Bw wb w)
    (h : ∀ K : Act → Prop, (∀ a', wpMix P ops wb Q (i + 1) r a' w → K a') → o.quiet P a (fun w' => w' = wb) K) : wpMix P ops wb Q i (o :: r) a w := by
  obtain ⟨v, h1, h2⟩ := quiet_run (C := fun w' => w' = wb) (wr := wb) (by rw [ho]; exact fun hh => by cases hh) rfl (h (fun a' => wpMix P ops wb Q (i + 1) r a' w) (fun _ h => h))
  refine ⟨?_⟩
  show stepM P ops wb (kat ops _ i o) o (mixD P ops wb _ Q (i + 1) r) a w
  unfold stepM
  rw [if_pos hw]
  rcases hk with hk | hk
  · rw [hk]
    exact ⟨hB, v, fun w1 hb => load_sure ho hx hc h1 hb, h2.out⟩
  · rw [hk]
    exact ⟨hB, v, fun w1 hb => load_sure ho hx hc h1 (hB.trans hb), h2.out⟩

theorem mix_rl {t : TypeId} {x : Operand} {ad : Addr} (hw : Region.wanted o (yielded ops a.tmps) = true) (hk : kat ops (Region.before ops) i o = .rl) (ho : o.op = .load t x) (hx : a.eval x = .pointer (some ad)) (hc : (w.cell? ad).isSome = true) (hB : Bw wb w)
    (h : ∀ K : Act → Prop, (∀ a', wpMix P ops wb Q (i + 1) r a' w → K a') → o.quiet P a (fun w' => w' = w) K) : wpMix P ops wb Q i (o :: r) a w := by
  obtain ⟨v, h1, h2⟩ := quiet_run (C := fun w' => w' = w) (wr := w) (by rw [ho]; exact fun hh => by cases hh) rfl (h (fun a' => wpMix P ops wb Q (i + 1) r a' w) (fun _ h => h))
  refine ⟨?_⟩
  show stepM P ops wb (kat ops _ i o) o (mixD P ops wb _ Q (i + 1) r) a w
  unfold stepM
  rw [if_pos hw, hk]
  exact ⟨hB, v, fun w1 hb => load_sure ho hx hc h1 hb, h2.out⟩

theorem mix_m (mk : Nat → Value) (obj : Obj) (hw : Region.wanted o (yielded ops a.tmps) = true) (hk : kat ops (Region.before ops) i o = .m) (hr : ∀ w1, (execOp a.eval o).run P w1 = .ok (.value (mk w1.heap.size)) (w1.alloc obj)) (hB : Bw wb w)
    (h : ∀ g w', Bw w w' → wb.heap.size ≤ g → w'.heap[g]? = some obj → wpMix P ops wb Q (i + 1) r (a.put o.dst (mk g)) w') : wpMix P ops wb Q i (o :: r) a w := by
  refine ⟨?_⟩
  show stepM P ops wb (kat ops _ i o) o (mixD P ops wb _ Q (i + 1) r) a w
  unfold stepM
  rw [if_pos hw, hk]
  exact ⟨hB, mk, obj, hr, fun g w' h1 h2 h3 => (h g w' h1 h2 h3).out⟩

theorem mix_c (hw : Region.wanted o (yielded ops a.tmps) = true) (hk : kat ops (Region.before ops) i o = .c) (hB : Bw wb w)
    (h : ∀ w1, Bw w w1 → ∀ K : Act → World → Prop, (∀ a' w', Bw w1 w' ∧ wpMix P ops wb Q (i + 1) r a' w' → K a' w') → o.wp P a w1 K NoQ) : wpMix P ops wb Q i (o :: r) a w := by
  refine ⟨?_⟩
  show stepM P ops wb (kat ops _ i o) o (mixD P ops wb _ Q (i + 1) r) a w
  unfold stepM
  rw [if_pos hw, hk]
  refine ⟨hB, fun w1 hw1 => ?_⟩
  exact outc_mono (fun t w' hk => ⟨hk.1, hk.2.out⟩) (outc_of_wp (h w1 hw1 (fun a' w' => Bw w1 w' ∧ wpMix P ops wb Q (i + 1) r a' w') (fun _ _ h => h)))

theorem mix_a (hw : Region.wanted o (yielded ops a.tmps) = true) (hk : kat ops (Region.before ops) i o = .a) (h : ∀ K : Act → World → Prop, (∀ a' w', wpMix P ops wb Q (i + 1) r a' w' → K a' w') → o.wp P a w K NoQ) : wpMix P ops wb Q i (o :: r) a w := by
  refine ⟨?_⟩
  show stepM P ops wb (kat ops _ i o) o (mixD P ops wb _ Q (i + 1) r) a w
  unfold stepM
  rw [if_pos hw, hk]
  exact outc_mono (fun t w' hk => hk.out) (outc_of_wp (h _ fun _ _ h => h))
end
end Go.Txt

namespace Go.Proofs.Ytggaefklcpbfnaa.My
open Go.RowKit Pa Go.Proofs.YtggaefklcpbfnaaW.PrintWords

def imay (x : S26) : Bool := decide (0 ≤ x.f0 ∧ x.f0 ≤ 1048575 ∧ -1099511627776 ≤ x.f1 ∧ x.f1 ≤ 1099511627776 ∧ 1 ≤ x.f2 ∧ x.f2 ≤ 1073741823 ∧ -1099511627776 ≤ x.f3 ∧ x.f3 ≤ 1099511627776)
def ord (a b : S26) : Int := if a.f1 < b.f1 then -1 else if b.f1 < a.f1 then 1 else if a.f2 < b.f2 then -1 else if b.f2 < a.f2 then 1 else 0
def wm (x : Int) : Bool := decide (-1099511627776 ≤ x ∧ x ≤ 1099511627776)
def bok (bs : List Int) (i : Nat) : Bool := wm (bs.getD i 0) && (decide (i = 0) || decide (bs.getD (i - 1) 0 < bs.getD i 0))
def ball (bs : List Int) : Nat → Nat → Bool
  | 0, _ => true
  | n + 1, i => bok bs i && ball bs n (i + 1)
def bmay (bs : List Int) : Bool := decide (bs.length ≤ 8) && ball bs bs.length 0
def bkt (bs : List Int) (v : Int) : Nat → Nat → Nat
  | 0, i => i
  | n + 1, i => if v ≤ bs.getD i 0 then i else bkt bs v n (i + 1)
def bucket (bs : List Int) (v : Int) : Nat := bkt bs v bs.length 0
def one (x : S26) (bs : List Int) : S28 := ⟨1, x.f3, x.f3, x.f3, x, x, (List.replicate (bs.length + 1) 0).set (bucket bs x.f3) 1⟩
def oneRes (x : S26) (bs : List Int) : S28 × Int := if imay x && bmay bs then (one x bs, 0) else (z28, 100)
def acV (a : S28) (v : Value) : Value := .agg #[.int .i64 a.f0, .int .i64 a.f1, .int .i64 a.f2, .int .i64 a.f3, .int .i64 a.f4.f0, .int .i64 a.f4.f1, .int .i64 a.f4.f2, .int .i64 a.f4.f3, .int .i64 a.f5.f0, .int .i64 a.f5.f1, .int .i64 a.f5.f2, .int .i64 a.f5.f3, v]

theorem bkt_le (bs : List Int) (v : Int) : ∀ n i, bkt bs v n i ≤ i + n
  | 0, i => by simp [bkt]
  | n + 1, i => by
    unfold bkt
    split
    · omega
    · have := bkt_le bs v n (i + 1)
      omega
theorem bucket_le (bs : List Int) (v : Int) : bucket bs v ≤ bs.length := by
  have := bkt_le bs v bs.length 0
  unfold bucket
  omega
theorem bmay_len {bs : List Int} (h : bmay bs = true) : bs.length ≤ 8 := by
  unfold bmay at h
  rw [Bool.and_eq_true, decide_eq_true_eq] at h
  exact h.1

theorem imay_f (x : S26) : acc_ItemMay.f x.f0 x.f1 x.f2 x.f3 = some (imay x) := by
  unfold acc_ItemMay.f acc_within.f imay
  have e : wrap64 (-1099511627776) = -1099511627776 := by unfold wrap64; rfl
  simp only [e]
  by_cases h1 : x.f0 ≥ 0 <;> by_cases h2 : x.f0 ≤ 1048575 <;> by_cases h3 : x.f1 ≥ -1099511627776 <;> by_cases h4 : x.f1 ≤ 1099511627776 <;> by_cases h5 : x.f2 ≥ 1 <;> by_cases h6 : x.f2 ≤ 1073741823 <;> by_cases h7 : x.f3 ≥ -1099511627776 <;> by_cases h8 : x.f3 ≤ 1099511627776 <;> simp [h1, h2, h3, h4, h5, h6, h7, h8] <;> omega
theorem wm_f (x : Int) : acc_within.f x 1099511627776 = some (wm x) := by
  unfold acc_within.f wm
  have e : wrap64 (-1099511627776) = -1099511627776 := by unfold wrap64; rfl
  simp only [e]
  by_cases h3 : x ≥ -1099511627776 <;> by_cases h4 : x ≤ 1099511627776 <;> simp [h3, h4] <;> omega
theorem wrap_up {i : Nat} (h : i ≤ 17592186044415) : wrap64 ((i : Int) + 1) = ((i + 1 : Nat) : Int) := by unfold wrap64; omega
theorem bm_loop (l : List Int) (hl : l.length ≤ 8) : ∀ n i k, i + n = l.length → n < k → acc_BoundsMay.l0 k l l l.length i = some (ball l n i)
  | 0, i, 0, _, hk => absurd hk (by omega)
  | 0, i, k + 1, h, _ => by
    unfold acc_BoundsMay.l0 ball
    rw [if_neg (by omega)]
  | n + 1, i, 0, _, hk => absurd hk (by omega)
  | n + 1, i, k + 1, h, hk => by
    have ih := bm_loop l hl n (i + 1) k (by omega) (by omega)
    unfold acc_BoundsMay.l0 ball
    rw [if_pos (by omega), if_pos (by omega), if_pos (by omega), wm_f]
    simp only [Option.bind_some]
    rw [wrap_up (by omega), ih]
    unfold bok
    have e1 : rd l (i : Int) = l.getD i 0 := by simp [rd]
    rw [e1]
    by_cases h1 : wm (l.getD i 0) = true
    · rw [if_pos h1, h1]
      by_cases h0 : i = 0
      · subst h0
        simp
      · rw [if_pos (by omega)]
        have e2 : wrap64 ((i : Int) - 1) = ((i - 1 : Nat) : Int) := by unfold wrap64; omega
        rw [e2, if_pos (by omega), if_pos (by omega)]
        have e3 : rd l ((i - 1 : Nat) : Int) = l.getD (i - 1) 0 := by simp [rd]
        rw [e3]
        by_cases h2 : l.getD (i - 1) 0 ≥ l.getD i 0
        · rw [if_pos h2, decide_eq_false h0, decide_eq_false (by omega)]
          simp
        · rw [if_neg h2, decide_eq_false h0, decide_eq_true (by omega)]
          simp
    · have h1' : wm (l.getD i 0) = false := by
        cases h' : wm (l.getD i 0)
        · rfl
        · exact absurd h' h1
      rw [if_neg h1, h1']
      rfl
theorem bmay_f (l : List Int) : acc_BoundsMay.f 9 l = some (bmay l) := by
  unfold acc_BoundsMay.f bmay
  by_cases h : (l.length : Int) > 8
  · rw [if_pos h, decide_eq_false (by omega)]
    simp
  · rw [if_neg h, decide_eq_true (by omega)]
    have := bm_loop l (by omega) l.length 0 9 (by omega) (by omega)
    simpa using this
theorem bm_any (bs : List Int) (A : Option Addr) (c : Nat) (w : World) (hr : Kd.C (Kd.int .i64) w A bs.length bs) (hc : bs.length ≤ c) :
    Calls Try.prog 46 #[.slice A bs.length c] w fun e w' => e = .returned (.bool (bmay bs)) ∧ Below w.heap.size w w' :=
  (acc_BoundsMay.calls 9 A c bs _ w hr hc (bmay_f bs)).mono fun _ _ h => ⟨h.1, h.2.below⟩
theorem im_any (x : S26) (w : World) :
    Calls Try.prog 45 #[.agg #[.int .i64 x.f0, .int .i64 x.f1, .int .i64 x.f2, .int .i64 x.f3]] w fun e w' => e = .returned (.bool (imay x)) ∧ Below w.heap.size w w' :=
  acc_ItemMay.calls _ _ _ _ _ w (imay_f x)
theorem wm_any (x : Int) (w : World) :
    Calls Try.prog 56 #[.int .i64 x, .int .i64 1099511627776] w fun e w' => e = .returned (.bool (wm x)) ∧ Below w.heap.size w w' :=
  (acc_within.calls x 1099511627776 _ w (wm_f x)).mono fun _ _ h => ⟨h.1, h.2.below⟩
theorem ite3 (a b : Int) : cmp_Compare_int.f a b = some (if a < b then -1 else if b < a then 1 else 0) := by
  unfold cmp_Compare_int.f cmp_isNaN_int.f
  by_cases h1 : a < b
  · simp [h1]
  · by_cases h2 : b < a <;> simp [h1, h2]
theorem or2 (a b : Int) : cmp_Or_int.f 9 [a, b] = some (if a = 0 then b else a) := by
  unfold cmp_Or_int.f
  by_cases h1 : a = 0 <;> by_cases h2 : b = 0 <;> simp [cmp_Or_int.l0, rd, h1, h2, wrap64]
theorem ord_f (a b : S26) : acc_Order.f 9 a.f0 a.f1 a.f2 a.f3 b.f0 b.f1 b.f2 b.f3 = some (ord a b) := by
  unfold acc_Order.f ord
  simp only [ite3, or2, Option.bind_some, Option.some.injEq]
  split <;> (try split) <;> (try split) <;> (try split) <;> (try split) <;> omega
theorem ord_any (a b : S26) (w : World) :
    Calls Try.prog 68 #[.agg #[.int .i64 a.f0, .int .i64 a.f1, .int .i64 a.f2, .int .i64 a.f3], .agg #[.int .i64 b.f0, .int .i64 b.f1, .int .i64 b.f2, .int .i64 b.f3]] w fun e w' => e = .returned (.int .i64 (ord a b)) ∧ Below w.heap.size w w' :=
  acc_Order.calls 9 _ _ _ _ _ _ _ _ _ w (ord_f a b)
end Go.Proofs.Ytggaefklcpbfnaa.My

namespace Go.Proofs.Ytggaefklcpbfnaa.My
open Go.RowKit

structure Chg (S : Nat → Prop) (w w' : World) : Prop where
  os : w'.os = w.os
  tape : w'.tape = w.tape
  output : w'.output = w.output
  size : w.heap.size ≤ w'.heap.size
  block : ∀ k, k < w.heap.size → ¬ S k → w'.heap[k]? = w.heap[k]?

section
variable {S T : Nat → Prop} {w w1 w2 : World}
theorem Chg.refl (S : Nat → Prop) (w : World) : Chg S w w := ⟨rfl, rfl, rfl, Nat.le_refl _, fun _ _ _ => rfl⟩
theorem Chg.trans (h : Chg S w w1) (k : Chg T w1 w2) (hT : ∀ i, i < w.heap.size → T i → S i) : Chg S w w2 :=
  ⟨k.os.trans h.os, k.tape.trans h.tape, k.output.trans h.output, Nat.le_trans h.size k.size, fun i hi hn => (k.block i (Nat.lt_of_lt_of_le hi h.size) (fun ht => hn (hT i hi ht))).trans (h.block i hi hn)⟩
theorem Chg.then_ (h : Chg S w w1) (k : Chg S w1 w2) : Chg S w w2 := h.trans k (fun _ _ h => h)
theorem Chg.mono (h : Chg S w w1) (hS : ∀ i, i < w.heap.size → S i → T i) : Chg T w w1 := ⟨h.os, h.tape, h.output, h.size, fun i hi hn => h.block i hi (fun hs => hn (hS i hi hs))⟩
theorem Chg.of_below (h : Below w.heap.size w w1) : Chg S w w1 := ⟨h.os, h.tape, h.output, h.size, fun i hi _ => h.block i hi⟩
theorem Chg.below (h : Chg S w w1) (hb : Below w1.heap.size w1 w2) : Chg S w w2 := h.then_ (Chg.of_below hb)
theorem Chg.drew (h : Chg S w w1) : Chg S w w1.drew := ⟨h.os, h.tape, h.output, h.size, h.block⟩
theorem Chg.alloc (h : Chg S w w1) (o : Obj) : Chg S w (w1.alloc o) := h.below ((Below.refl _ _).alloc (Nat.le_refl _) o)
theorem Chg.setCell (h : Chg S w w1) {p : Addr} (hp : S p.block ∨ w.heap.size ≤ p.block) (u : Value) : Chg S w (w1.setCell p u) :=
  h.trans (T := fun k => k = p.block) ⟨rfl, rfl, rfl, by simp [World.setCell], fun k _ hn => Below.heap_setCell _ _ _ _ hn⟩ (fun i hi e => by
    rcases hp with hp | hp
    · rw [e]; exact hp
    · omega)
theorem Chg.grown {row : Option Nat} (h : Chg S w w1) (hg : w1.grownBy w2 row) (hr : ∀ k, row = some k → S k ∨ w.heap.size ≤ k) : Chg S w w2 :=
  h.trans (T := fun k => some k = row) ⟨hg.os, hg.tape, hg.output, hg.size, fun k hk hn => hg.block k hk hn⟩ (fun i hi e => by
    rcases hr i e.symm with h | h
    · exact h
    · omega)
theorem Chg.base {B : Nat} {w0 : World} (h0 : Below B w0 w) (h : Chg S w w1) (hB : B ≤ w.heap.size) (hS : ∀ i, S i → B ≤ i) : Below B w0 w1 :=
  h0.trans ⟨h.os, h.tape, h.output, h.size, fun i hi => h.block i (by omega) (fun hs => by have := hS i hs; omega)⟩
theorem Chg.obj {o : Obj} {b : Nat} (h : Chg S w w1) (hb : w.heap[b]? = some o) (hn : ¬ S b) : w1.heap[b]? = some o := (h.block b (Array.getElem?_eq_some_iff.1 hb).1 hn).trans hb
end

theorem blk_lt {w : World} {b : Nat} {o : Obj} (h : w.heap[b]? = some o) : b < w.heap.size := (Array.getElem?_eq_some_iff.1 h).1
theorem blk_cell {w : World} {b : Nat} {cs : Array Value} {t : TypeId} {fr : Nat × Nat} (h : w.heap[b]? = some (.cells cs t fr)) (j : Nat) : w.cell? ⟨b, j, none⟩ = cs[j]? := by simp [World.cell?, h]
theorem blk_free {w : World} {b : Nat} {cs : Array Value} {t : TypeId} (h : w.heap[b]? = some (.cells cs t (0, 0))) (j : Nat) : w.frozen? ⟨b, j, none⟩ = false := by simp [World.frozen?, h]
theorem blk_set {w : World} {b : Nat} {cs : Array Value} {t : TypeId} {fr : Nat × Nat} (h : w.heap[b]? = some (.cells cs t fr)) (j : Nat) (u : Value) : (w.setCell ⟨b, j, none⟩ u).heap[b]? = some (.cells (cs.setIfInBounds j u) t fr) := by
  simp [World.setCell, Array.getElem?_modify, h]
theorem blk_far {w : World} {b : Nat} {o : Obj} (h : w.heap[b]? = some o) {p : Addr} (hne : b ≠ p.block) (u : Value) : (w.setCell p u).heap[b]? = some o := (Below.heap_setCell w p u b hne).trans h

theorem row_blk {w : World} {base b n cap : Nat} {e : TypeId} {size : Nat} {cs : List Value} (h : w.ownsRow base e size (.slice (some ⟨b, 0, none⟩) n cap) n cs) : ∃ cur, w.heap[b]? = some (.cells cur e (0, 0)) := by
  rcases h.2 with ⟨h1, _⟩ | ⟨g, cap', cur, h1, _, hh, _⟩
  · cases h1
  · injection h1 with h1
    injection h1 with h1
    injection h1 with h1
    subst h1
    exact ⟨cur, hh⟩
theorem row_cap {w : World} {base b n cap : Nat} {e : TypeId} {size : Nat} {cs : List Value} (h : w.ownsRow base e size (.slice (some ⟨b, 0, none⟩) n cap) n cs) : n ≤ cap ∧ cap ≤ maxLen := by
  rcases h.2 with ⟨h1, _⟩ | ⟨g, cap', cur, h1, _, hh, h2, h3, _⟩
  · cases h1
  · injection h1 with _ _ h1
    subst h1
    exact ⟨h2, h3⟩
theorem row_keep {S : Nat → Prop} {w w1 : World} {base n : Nat} {e : TypeId} {size : Nat} {v : Value} {cs : List Value} (h : w.ownsRow base e size v n cs) (hc : Chg S w w1) (hn : ∀ k, v.ownBlock = some k → ¬ S k) : w1.ownsRow base e size v n cs := by
  obtain ⟨h1, h2⟩ := h
  refine ⟨h1, ?_⟩
  rcases h2 with h2 | ⟨g, cap, cur, rfl, hg, hh, r⟩
  · exact .inl h2
  · exact .inr ⟨g, cap, cur, rfl, hg, hc.obj hh (hn g rfl), r⟩
end Go.Proofs.Ytggaefklcpbfnaa.My

namespace Go.Proofs.Ytggaefklcpbfnaa.My
open Go.RowKit Pa Go.Proofs.YtggaefklcpbfnaaW.PrintWords
attribute [local go_sem high] eqA26

def Own (w : World) (base : Nat) (v : Value) (h : List Int) : Prop := w.ownsRow base 3 1 v h.length (h.map (Value.int .i64))
abbrev RdI (w : World) (A : Option Addr) (h : List Int) : Prop := Kd.C (Kd.int .i64) w A h.length h
theorem Own.reads {w : World} {base : Nat} {v : Value} {h : List Int} (ho : Own w base v h) : ∃ A c, v = .slice A h.length c ∧ h.length ≤ c ∧ RdI w A h :=
  Kd.R_reads (d := Kd.int .i64) (Kd.R_of_own (ok := fun _ => True) ho (fun _ _ => trivial))
theorem Own.nil (w : World) (base : Nat) : Own w base (.slice none 0 0) [] := World.ownsRow_nil _ _ _ _
theorem Own.keep {S : Nat → Prop} {w w1 : World} {base : Nat} {v : Value} {h : List Int} (ho : Own w base v h) (hc : Chg S w w1) (hn : ∀ k, v.ownBlock = some k → ¬ S k) : Own w1 base v h := row_keep ho hc hn
theorem Own.below {w w1 : World} {base : Nat} {v : Value} {h : List Int} (ho : Own w base v h) (hb : Below w.heap.size w w1) : Own w1 base v h := ho.keep (S := fun _ => False) (Chg.of_below hb) (fun _ _ h => h)

def itO (x : S26) : Obj := .cells #[.int .i64 x.f0, .int .i64 x.f1, .int .i64 x.f2, .int .i64 x.f3] 26
def acO (a : S28) (v : Value) : Obj := .cells #[.int .i64 a.f0, .int .i64 a.f1, .int .i64 a.f2, .int .i64 a.f3, .int .i64 a.f4.f0, .int .i64 a.f4.f1, .int .i64 a.f4.f2, .int .i64 a.f4.f3, .int .i64 a.f5.f0, .int .i64 a.f5.f1, .int .i64 a.f5.f2, .int .i64 a.f5.f3, v] 28
theorem itO_facts {w : World} {b : Nat} {x : S26} (h : w.heap[b]? = some (itO x)) : w.cell? ⟨b, 0, none⟩ = some (.int .i64 x.f0) ∧ w.cell? ⟨b, 1, none⟩ = some (.int .i64 x.f1) ∧ w.cell? ⟨b, 2, none⟩ = some (.int .i64 x.f2) ∧ w.cell? ⟨b, 3, none⟩ = some (.int .i64 x.f3) ∧ b < w.heap.size :=
  ⟨(blk_cell h 0).trans rfl, (blk_cell h 1).trans rfl, (blk_cell h 2).trans rfl, (blk_cell h 3).trans rfl, blk_lt h⟩
theorem acO_facts {w : World} {b : Nat} {a : S28} {v : Value} (h : w.heap[b]? = some (acO a v)) : w.cell? ⟨b, 0, none⟩ = some (.int .i64 a.f0) ∧ w.cell? ⟨b, 1, none⟩ = some (.int .i64 a.f1) ∧ w.cell? ⟨b, 2, none⟩ = some (.int .i64 a.f2) ∧ w.cell? ⟨b, 3, none⟩ = some (.int .i64 a.f3) ∧ w.cell? ⟨b, 4, none⟩ = some (.int .i64 a.f4.f0) ∧ w.cell? ⟨b, 5, none⟩ = some (.int .i64 a.f4.f1) ∧ w.cell? ⟨b, 6, none⟩ = some (.int .i64 a.f4.f2) ∧ w.cell? ⟨b, 7, none⟩ = some (.int .i64 a.f4.f3) ∧ w.cell? ⟨b, 8, none⟩ = some (.int .i64 a.f5.f0) ∧ w.cell? ⟨b, 9, none⟩ = some (.int .i64 a.f5.f1) ∧ w.cell? ⟨b, 10, none⟩ = some (.int .i64 a.f5.f2) ∧ w.cell? ⟨b, 11, none⟩ = some (.int .i64 a.f5.f3) ∧ w.cell? ⟨b, 12, none⟩ = some v ∧ b < w.heap.size :=
  ⟨(blk_cell h 0).trans rfl, (blk_cell h 1).trans rfl, (blk_cell h 2).trans rfl, (blk_cell h 3).trans rfl, (blk_cell h 4).trans rfl, (blk_cell h 5).trans rfl, (blk_cell h 6).trans rfl, (blk_cell h 7).trans rfl, (blk_cell h 8).trans rfl, (blk_cell h 9).trans rfl, (blk_cell h 10).trans rfl, (blk_cell h 11).trans rfl, (blk_cell h 12).trans rfl, blk_lt h⟩
theorem blk_below {w w1 : World} {b : Nat} {o : Obj} (h : w.heap[b]? = some o) (hb : Below w.heap.size w w1) : w1.heap[b]? = some o := (Chg.of_below (S := fun _ => False) hb).obj h (fun h => h)

def putA (w : World) (b : Nat) (a : S28) (v : Value) : World := ((((((((((((w.setCell ⟨b, 0, none⟩ (.int .i64 a.f0)).setCell ⟨b, 1, none⟩ (.int .i64 a.f1)).setCell ⟨b, 2, none⟩ (.int .i64 a.f2)).setCell ⟨b, 3, none⟩ (.int .i64 a.f3)).setCell ⟨b, 4, none⟩ (.int .i64 a.f4.f0)).setCell ⟨b, 5, none⟩ (.int .i64 a.f4.f1)).setCell ⟨b, 6, none⟩ (.int .i64 a.f4.f2)).setCell ⟨b, 7, none⟩ (.int .i64 a.f4.f3)).setCell ⟨b, 8, none⟩ (.int .i64 a.f5.f0)).setCell ⟨b, 9, none⟩ (.int .i64 a.f5.f1)).setCell ⟨b, 10, none⟩ (.int .i64 a.f5.f2)).setCell ⟨b, 11, none⟩ (.int .i64 a.f5.f3)).setCell ⟨b, 12, none⟩ v
theorem putA_blk {w : World} {b : Nat} {a0 a : S28} {v0 v : Value} (h : w.heap[b]? = some (acO a0 v0)) : (putA w b a v).heap[b]? = some (acO a v) := by
  have := blk_set (blk_set (blk_set (blk_set (blk_set (blk_set (blk_set (blk_set (blk_set (blk_set (blk_set (blk_set (blk_set h 0 (.int .i64 a.f0)) 1 (.int .i64 a.f1)) 2 (.int .i64 a.f2)) 3 (.int .i64 a.f3)) 4 (.int .i64 a.f4.f0)) 5 (.int .i64 a.f4.f1)) 6 (.int .i64 a.f4.f2)) 7 (.int .i64 a.f4.f3)) 8 (.int .i64 a.f5.f0)) 9 (.int .i64 a.f5.f1)) 10 (.int .i64 a.f5.f2)) 11 (.int .i64 a.f5.f3)) 12 v
  simp only [List.setIfInBounds_toArray, List.set_cons_zero, List.set_cons_succ] at this
  exact this
theorem putA_chg (w : World) (b : Nat) (a : S28) (v : Value) : Chg (fun k => k = b) w (putA w b a v) :=
  (((((((((((((Chg.refl (fun k => k = b) w).setCell (p := ⟨b, 0, none⟩) (.inl rfl) _).setCell (p := ⟨b, 1, none⟩) (.inl rfl) _).setCell (p := ⟨b, 2, none⟩) (.inl rfl) _).setCell (p := ⟨b, 3, none⟩) (.inl rfl) _).setCell (p := ⟨b, 4, none⟩) (.inl rfl) _).setCell (p := ⟨b, 5, none⟩) (.inl rfl) _).setCell (p := ⟨b, 6, none⟩) (.inl rfl) _).setCell (p := ⟨b, 7, none⟩) (.inl rfl) _).setCell (p := ⟨b, 8, none⟩) (.inl rfl) _).setCell (p := ⟨b, 9, none⟩) (.inl rfl) _).setCell (p := ⟨b, 10, none⟩) (.inl rfl) _).setCell (p := ⟨b, 11, none⟩) (.inl rfl) _).setCell (p := ⟨b, 12, none⟩) (.inl rfl) _

theorem info_int : (Try.prog.info? 3).map (fun i => (i.zero, i.size, i.bytes)) = some (some (.int .i64 0), 1, 8) := by kernel_rfl
theorem made_ints (n : Nat) : madeCells (Value.int .i64 0).cells n = Array.replicate n (.int .i64 0) := by
  apply Array.ext
  · simp [madeCells]
  · intro i h1 h2
    simp [madeCells, Value.cells, Nat.mod_one]
theorem make_ints (n : Nat) (hn : n ≤ 1000) (w : World) : (Instr.makeSlice 22 (.int .i64 n) (.int .i64 n)).run Try.prog w = .ok (.slice (some ⟨w.heap.size, 0, none⟩) n n) (w.alloc (.cells (Array.replicate n (.int .i64 0)) 3)) := by
  cases hi : Try.prog.info? 3 with
  | none => have := info_int; rw [hi] at this; simp at this
  | some i =>
    have h := info_int
    rw [hi] at h
    simp only [Option.map_some, Option.some.injEq, Prod.mk.injEq] at h
    obtain ⟨hz, hs, hb⟩ := h
    have hr := run_make w 22 3 i (.int .i64 0) Try.underlying22 hi hz .i64 .i64 n n (by omega) (by omega) (by rw [hb]; omega) (by omega)
    rw [hs, Nat.mul_one, Int.toNat_natCast, made_ints] at hr
    exact hr
theorem made_own (n : Nat) (hn : n ≤ 1000) (w : World) (g : Nat) (h : w.heap[g]? = some (.cells (Array.replicate n (.int .i64 0)) 3 (0, 0))) (base : Nat) (hb : base ≤ g) : Own w base (.slice (some ⟨g, 0, none⟩) n n) (List.replicate n 0) := by
  refine ⟨by simp, .inr ⟨g, n, _, by simp, hb, h, by simp, by simp [maxLen]; omega, by simp, ?_⟩⟩
  simp

theorem results_acc {fn : Func} {p u : Tmp} (h : fn.results = #[.cell p 28, .tmp u]) (tmps : Array Value) (w : World) (g : Nat) (a : S28) (v : Value) (hp : tmps.getD p undef = .pointer (some ⟨g, 0, none⟩)) (hg : w.heap[g]? = some (acO a v)) :
    (results fn tmps).run Try.prog w = .ok (.tuple #[acV a v, tmps.getD u undef]) w :=
  results_ct h tmps w g 28 _ (0, 0) _ hp hg Try.underlying28 rfl (by kernel_rfl)

end Go.Proofs.Ytggaefklcpbfnaa.My

namespace Go.Proofs.Ytggaefklcpbfnaa.My
open Go.RowKit Pa Go.Proofs.YtggaefklcpbfnaaW.PrintWords
attribute [local go_sem high] eqA26

def Rel (p : Prop) : Prop := p
theorem bne_ {b : Bool} (h : ¬ b = true) : b = false := by
  cases b
  · rfl
  · exact absurd rfl h
theorem RdI.at_ {w : World} {A : Option Addr} {h : List Int} (hr : RdI w A h) {i : Nat} (hi : i < h.length) : ∃ ad, A = some ad ∧ w.cell? (ad.add i) = some (.int .i64 (h.getD i 0)) := by
  obtain ⟨ad, e, hc⟩ := hr.2.2 (by omega)
  obtain ⟨c, hl, hR, hu⟩ := hc i (h.getD i 0) (by rw [List.getD_eq_getElem?_getD]; simp [hi])
  have hR' : c = [.int .i64 (h.getD i 0)] := hR
  subst hR'
  have := hu 0 _ rfl
  rw [show i * (Kd.int .i64).sz + 0 = i from Nat.mul_one i] at this
  exact ⟨ad, e, this⟩
theorem RdI.below {w w1 : World} {A : Option Addr} {h : List Int} (hr : RdI w A h) (hb : Below w.heap.size w w1) : RdI w1 A h := Kd.C_below hr hb

def nok (n : Int) : Bool := decide (0 ≤ n ∧ n ≤ 8192)
def hmay (h : List Int) (nb : Nat) (c : Int) : Bool := h.all nok && decide (h.length = nb + 1) && decide (h.sum = c)
theorem sum_take (h : List Int) {k : Nat} (hk : k < h.length) : (h.take (k + 1)).sum = (h.take k).sum + h.getD k 0 := by
  rw [List.take_succ_eq_append_getElem hk, List.sum_append]
  simp [List.getD_eq_getElem?_getD, hk]
theorem nok_sum {h : List Int} (ha : ∀ x ∈ h, nok x = true) : 0 ≤ h.sum ∧ h.sum ≤ 8192 * h.length := by
  induction h with
  | nil => simp
  | cons x r ih =>
    have h1 := ih (fun y hy => ha y (List.mem_cons_of_mem _ hy))
    have h2 := ha x (List.mem_cons_self ..)
    unfold nok at h2
    rw [decide_eq_true_eq] at h2
    rw [List.sum_cons, List.length_cons]
    omega
theorem mem_take_lt {h : List Int} {k : Nat} (hs : ∀ j, j < k → nok (h.getD j 0) = true) : ∀ x ∈ h.take k, nok x = true := fun x hx => by
  obtain ⟨i, hi, e⟩ := List.mem_iff_getElem.1 hx
  rw [List.length_take] at hi
  rw [List.getElem_take] at e
  have := hs i (by omega)
  rw [List.getD_eq_getElem?_getD, List.getElem?_eq_getElem (by omega), Option.getD_some, e] at this
  exact this
theorem all_nok {h : List Int} (hs : ∀ j, j < h.length → nok (h.getD j 0) = true) : h.all nok = true := by
  rw [List.all_eq_true]
  have := mem_take_lt (h := h) (k := h.length) hs
  rwa [List.take_length] at this
theorem all_nok_no {h : List Int} {j : Nat} (hj : j < h.length) (hs : nok (h.getD j 0) = false) : h.all nok = false := by
  rw [List.all_eq_false]
  refine ⟨h[j], List.getElem_mem hj, ?_⟩
  rw [List.getD_eq_getElem?_getD, List.getElem?_eq_getElem hj, Option.getD_some] at hs
  rw [hs]
  simp

set_option maxHeartbeats 2000000 in
set_option maxRecDepth 100000 in
theorem hist_any (a : S28) (g : Nat) (Ah : Option Addr) (ch : Nat) (A1 : Option Addr) (c1 nb : Nat) (w : World) (h : w.heap[g]? = some (acO a (.slice Ah a.f6.length ch))) (hr : RdI w Ah a.f6) (hl : a.f6.length ≤ 9) (hn : nb ≤ 8) :
    Calls Try.prog 54 #[.pointer (some ⟨g, 0, none⟩), .slice A1 nb c1] w fun e w' => e = .returned (.bool (hmay a.f6 nb a.f0)) ∧ Below w.heap.size w w' := by
  have HH := Lib.hid h
  have HR := Lib.hid hr
  clear h hr
  obtain ⟨a0, a1, a2, a3, a4, a5, a6, a7, a8, a9, a10, a11, a12, al⟩ := acO_facts HH.out
  go_enter Try.func54, Try.ntmps54
  go_wp2_with fail
  go_loopw [5, 13] (fun s i wr => ∃ k : Nat, i = .int .i64 k ∧ s = .int .i64 (a.f6.take k).sum ∧ k ≤ a.f6.length ∧ wr = w ∧ Rel (∀ j, j < k → nok (a.f6.getD j 0) = true)) (fun _ i _ => a.f6.length - (intOf i).toNat)
  case atStart => exact ⟨0, rfl, by simp, by omega, rfl, fun j hj => absurd hj (by omega)⟩
  case round =>
    obtain ⟨k, rfl, rfl, hk, rfl, hx⟩ := hrel
    have HX := Lib.hid hx
    clear hx
    have hs := nok_sum (mem_take_lt HX.out)
    rw [List.length_take] at hs
    obtain ⟨hs1, hs2⟩ := hs
    have HS := Lib.hid (show (a.f6.take k).sum = (a.f6.take k).sum from rfl)
    generalize hse : (a.f6.take k).sum = s at *
    have HSE := Lib.hid hse
    clear hse
    by_cases hlt : k < a.f6.length
    · obtain ⟨ad, rfl, e0⟩ := HR.out.at_ hlt
      have hst := sum_take a.f6 hlt
      generalize hn : a.f6.getD k 0 = n at *
      have HN := Lib.hid hn
      have HST := Lib.hid hst
      clear hn hst
      by_cases h1 : nok n = true
      · have h2 := h1
        unfold nok at h2
        rw [decide_eq_true_eq] at h2
        obtain ⟨h3, h4⟩ := h2
        have H1 := Lib.hid h1
        have hd1 : decide (n < 0) = false := decide_eq_false (by omega)
        have hd2 : decide (8192 < n) = false := decide_eq_false (by omega)
        clear h1
        go_wp2_with fail
        refine ⟨⟨k + 1, by go_num, ?_, by omega, by first | rfl | trivial, fun j hj => ?_⟩, by simp [intOf]; omega⟩
        · rw [HST.out, HSE.out]
        · by_cases hjk : j = k
          · rw [hjk, HN.out]; exact H1.out
          · exact HX.out j (by omega)
      · have h1' := bne_ h1
        have hres : hmay a.f6 nb a.f0 = false := by
          unfold hmay
          rw [all_nok_no hlt (by rw [HN.out]; exact h1')]
          rfl
        have h2 := h1'
        unfold nok at h2
        rw [decide_eq_false_iff_not] at h2
        have HRES := Lib.hid hres
        clear hres h1 h1'
        by_cases h3 : n < 0
        · have hd1 : decide (n < 0) = true := decide_eq_true h3
          go_wp2_with fail
          go_ret
          exact ⟨by rw [HRES.out]; rfl, Below.refl _ _⟩
        · have hd1 : decide (n < 0) = false := decide_eq_false h3
          have hd2 : decide (8192 < n) = true := decide_eq_true (by omega)
          go_wp2_with fail
          go_ret
          exact ⟨by rw [HRES.out]; rfl, Below.refl _ _⟩
    · obtain rfl : k = a.f6.length := by omega
      have hall := all_nok HX.out
      rw [List.take_length] at HSE
      have hres : hmay a.f6 nb a.f0 = (decide (a.f6.length = nb + 1) && decide (s = a.f0)) := by
        unfold hmay
        rw [hall, HSE.out]
        rfl
      have HRES := Lib.hid hres
      clear hall hres
      by_cases h1 : a.f6.length = nb + 1
      · have hd1 : ((a.f6.length : Int) == (nb : Int) + 1) = true := by rw [beq_iff_eq]; omega
        have H1 := Lib.hid h1
        clear h1
        by_cases h2 : s = a.f0
        · have hd2 : (s == a.f0) = true := by rw [beq_iff_eq]; exact h2
          have H2 := Lib.hid h2
          clear h2
          go_wp2_with fail
          go_ret
          refine ⟨?_, Below.refl _ _⟩
          rw [HRES.out, decide_eq_true H1.out, decide_eq_true H2.out]
          rfl
        · have hd2 : (s == a.f0) = false := beq_eq_false_iff_ne.2 h2
          go_wp2_with fail
          go_ret
          refine ⟨?_, Below.refl _ _⟩
          rw [HRES.out, decide_eq_true H1.out, decide_eq_false h2]
          rfl
      · have hd1 : ((a.f6.length : Int) == (nb : Int) + 1) = false := beq_eq_false_iff_ne.2 (by omega)
        go_wp2_with fail
        go_ret
        refine ⟨?_, Below.refl _ _⟩
        rw [HRES.out, decide_eq_false h1]
        rfl

def isz (x : S26) : Bool := x.f0 == 0 && (x.f1 == 0 && (x.f2 == 0 && x.f3 == 0))
def bareB (a : S28) : Bool := a.f1 == 0 && (a.f2 == 0 && (a.f3 == 0 && (isz a.f4 && isz a.f5)))
theorem isz_yes {x : S26} (h : isz x = true) : x = ⟨0, 0, 0, 0⟩ := by
  unfold isz at h
  simp only [Bool.and_eq_true, beq_iff_eq] at h
  obtain ⟨h1, h2, h3, h4⟩ := h
  cases x
  simp_all
theorem bare_no {a : S28} (h : a.f1 ≠ 0 ∨ a.f2 ≠ 0 ∨ a.f3 ≠ 0 ∨ isz a.f4 = false ∨ isz a.f5 = false) : bareB a = false := by
  unfold bareB
  rcases h with h | h | h | h | h
  · rw [beq_eq_false_iff_ne.2 h]; rfl
  · rw [beq_eq_false_iff_ne.2 h]; simp
  · rw [beq_eq_false_iff_ne.2 h]; simp
  · rw [h]; simp
  · rw [h]; simp
theorem isz_no {x : S26} (h : isz x = false) : (x.f0 == 0 && (x.f1 == 0 && (x.f2 == 0 && x.f3 == 0))) = false := h

set_option maxHeartbeats 4000000 in
set_option maxRecDepth 100000 in
theorem bare_any (a : S28) (g : Nat) (v : Value) (w : World) (h : w.heap[g]? = some (acO a v)) :
    Calls Try.prog 55 #[.pointer (some ⟨g, 0, none⟩)] w fun e w' => e = .returned (.bool (bareB a)) ∧ Below w.heap.size w w' := by
  have hz : (w.alloc (.cells #[.int .i64 0, .int .i64 0, .int .i64 0, .int .i64 0] 26)).heap[w.heap.size]? = some (itO ⟨0, 0, 0, 0⟩) := heap_alloc_new w _
  have hb : Below w.heap.size w (w.alloc (.cells #[.int .i64 0, .int .i64 0, .int .i64 0, .int .i64 0] 26)) := (Below.refl w.heap.size w).alloc (Nat.le_refl _) _
  obtain ⟨z0, z1, z2, z3, zl⟩ := itO_facts hz
  obtain ⟨a0, a1, a2, a3, a4, a5, a6, a7, a8, a9, a10, a11, a12, al⟩ := acO_facts (blk_below h hb)
  simp only at z0 z1 z2 z3
  have HB := Lib.hid hb
  clear h hz hb
  go_enter Try.func55, Try.ntmps55
  go_wp2_with fail
  generalize w.alloc (.cells #[.int .i64 0, .int .i64 0, .int .i64 0, .int .i64 0] 26) = w1 at *
  by_cases h1 : a.f1 = 0
  · by_cases h2 : a.f2 = 0
    · by_cases h3 : a.f3 = 0
      · by_cases h4 : isz a.f4 = true
        · by_cases h5 : isz a.f5 = true
          · have hres : bareB a = true := by unfold bareB; rw [h1, h2, h3, h4, h5]; rfl
            have HRES := Lib.hid hres
            have e4 := isz_yes h4
            have e5 := isz_yes h5
            rw [h1] at a1
            rw [h2] at a2
            rw [h3] at a3
            rw [e4] at a4 a5 a6 a7
            rw [e5] at a8 a9 a10 a11
            simp only at a4 a5 a6 a7 a8 a9 a10 a11
            clear e4 e5 h1 h2 h3 h4 h5 hres
            refine Txt.wp_region_text (by kernel_rfl) (by kernel_rfl) ?_
            repeat (first
              | (refine Txt.text_p (by rfl) rfl (fun K hK => ?_); go_big_quiet_op; refine hK _ ?_; clear hK K)
              | (refine Txt.text_r (by rfl) rfl (fun K hK => ?_); go_big_quiet_op; refine hK _ ?_; clear hK K)
              | (refine Txt.text_pass (by rfl) (by rfl) ?_; simp only [List.set_cons_succ, List.set_cons_zero]))
            refine Txt.text_nil ?_
            go_wp2_with fail
            go_ret
            exact ⟨by rw [HRES.out]; rfl, HB.out.drew⟩
          · have h5' := bne_ h5
            have hres := bare_no (a := a) (.inr (.inr (.inr (.inr h5'))))
            have HRES := Lib.hid hres
            have e4 := isz_yes h4
            have e5 := isz_no h5'
            rw [h1] at a1
            rw [h2] at a2
            rw [h3] at a3
            rw [e4] at a4 a5 a6 a7
            simp only at a4 a5 a6 a7
            clear e4 h1 h2 h3 h4 h5 hres h5'
            refine Txt.wp_region_text (by kernel_rfl) (by kernel_rfl) ?_
            repeat (first
              | (refine Txt.text_p (by rfl) rfl (fun K hK => ?_); go_big_quiet_op; refine hK _ ?_; clear hK K)
              | (refine Txt.text_r (by rfl) rfl (fun K hK => ?_); go_big_quiet_op; refine hK _ ?_; clear hK K)
              | (refine Txt.text_pass (by rfl) (by rfl) ?_; simp only [List.set_cons_succ, List.set_cons_zero]))
            refine Txt.text_nil ?_
            go_wp2_with fail
            go_ret
            exact ⟨by rw [HRES.out]; rfl, HB.out.drew⟩
        · have h4' := bne_ h4
          have hres := bare_no (a := a) (.inr (.inr (.inr (.inl h4'))))
          have HRES := Lib.hid hres
          have e4 := isz_no h4'
          rw [h1] at a1
          rw [h2] at a2
          rw [h3] at a3
          clear h1 h2 h3 h4 hres h4'
          refine Txt.wp_region_text (by kernel_rfl) (by kernel_rfl) ?_
          repeat (first
            | (refine Txt.text_p (by rfl) rfl (fun K hK => ?_); go_big_quiet_op; refine hK _ ?_; clear hK K)
            | (refine Txt.text_r (by rfl) rfl (fun K hK => ?_); go_big_quiet_op; refine hK _ ?_; clear hK K)
            | (refine Txt.text_pass (by rfl) (by rfl) ?_; simp only [List.set_cons_succ, List.set_cons_zero]))
          refine Txt.text_nil ?_
          go_wp2_with fail
          go_ret
          exact ⟨by rw [HRES.out]; rfl, HB.out.drew⟩
      · have hres := bare_no (a := a) (.inr (.inr (.inl h3)))
        have HRES := Lib.hid hres
        have e3 : (a.f3 == 0) = false := beq_eq_false_iff_ne.2 h3
        rw [h1] at a1
        rw [h2] at a2
        clear h1 h2 h3 hres
        refine Txt.wp_region_text (by kernel_rfl) (by kernel_rfl) ?_
        repeat (first
          | (refine Txt.text_p (by rfl) rfl (fun K hK => ?_); go_big_quiet_op; refine hK _ ?_; clear hK K)
          | (refine Txt.text_r (by rfl) rfl (fun K hK => ?_); go_big_quiet_op; refine hK _ ?_; clear hK K)
          | (refine Txt.text_pass (by rfl) (by rfl) ?_; simp only [List.set_cons_succ, List.set_cons_zero]))
        refine Txt.text_nil ?_
        go_wp2_with fail
        go_ret
        exact ⟨by rw [HRES.out]; rfl, HB.out.drew⟩
    · have hres := bare_no (a := a) (.inr (.inl h2))
      have HRES := Lib.hid hres
      have e3 : (a.f2 == 0) = false := beq_eq_false_iff_ne.2 h2
      rw [h1] at a1
      clear h1 h2 hres
      refine Txt.wp_region_text (by kernel_rfl) (by kernel_rfl) ?_
      repeat (first
        | (refine Txt.text_p (by rfl) rfl (fun K hK => ?_); go_big_quiet_op; refine hK _ ?_; clear hK K)
        | (refine Txt.text_r (by rfl) rfl (fun K hK => ?_); go_big_quiet_op; refine hK _ ?_; clear hK K)
        | (refine Txt.text_pass (by rfl) (by rfl) ?_; simp only [List.set_cons_succ, List.set_cons_zero]))
      refine Txt.text_nil ?_
      go_wp2_with fail
      go_ret
      exact ⟨by rw [HRES.out]; rfl, HB.out.drew⟩
  · have hres := bare_no (a := a) (.inl h1)
    have HRES := Lib.hid hres
    have e3 : (a.f1 == 0) = false := beq_eq_false_iff_ne.2 h1
    clear h1 hres
    refine Txt.wp_region_text (by kernel_rfl) (by kernel_rfl) ?_
    repeat (first
      | (refine Txt.text_p (by rfl) rfl (fun K hK => ?_); go_big_quiet_op; refine hK _ ?_; clear hK K)
      | (refine Txt.text_r (by rfl) rfl (fun K hK => ?_); go_big_quiet_op; refine hK _ ?_; clear hK K)
      | (refine Txt.text_pass (by rfl) (by rfl) ?_; simp only [List.set_cons_succ, List.set_cons_zero]))
    refine Txt.text_nil ?_
    go_wp2_with fail
    go_ret
    exact ⟨by rw [HRES.out]; rfl, HB.out.drew⟩
end Go.Proofs.Ytggaefklcpbfnaa.My

namespace Go.Proofs.Ytggaefklcpbfnaa.My
open Go.RowKit Pa Go.Proofs.YtggaefklcpbfnaaW.PrintWords Go.Proofs.YtggaefklcpbfnaaW.PrintMore
attribute [local go_sem] max2_int min2_int max_two min_two

structure Qy where
  k : Int
  agg : Int
  size : Int
  slide : Int
  rank : Int
def quO (q : Qy) (v : Value) : Obj := .cells #[.int .i64 q.k, .int .i64 q.agg, .int .i64 q.size, .int .i64 q.slide, v, .int .i64 q.rank] 24
def ouV (n : Int) (o : Bool) (v : Value) : Value := .agg #[.int .i64 n, .bool o, v]
def ouO (n : Int) (o : Bool) (v : Value) : Obj := .cells #[.int .i64 n, .bool o, v] 31
theorem quO_facts {w : World} {b : Nat} {q : Qy} {v : Value} (h : w.heap[b]? = some (quO q v)) : w.cell? ⟨b, 0, none⟩ = some (.int .i64 q.k) ∧ w.cell? ⟨b, 1, none⟩ = some (.int .i64 q.agg) ∧ w.cell? ⟨b, 2, none⟩ = some (.int .i64 q.size) ∧ w.cell? ⟨b, 3, none⟩ = some (.int .i64 q.slide) ∧ w.cell? ⟨b, 4, none⟩ = some v ∧ w.cell? ⟨b, 5, none⟩ = some (.int .i64 q.rank) ∧ b < w.heap.size :=
  ⟨(blk_cell h 0).trans rfl, (blk_cell h 1).trans rfl, (blk_cell h 2).trans rfl, (blk_cell h 3).trans rfl, (blk_cell h 4).trans rfl, (blk_cell h 5).trans rfl, blk_lt h⟩
theorem ouO_facts {w : World} {b : Nat} {n : Int} {o : Bool} {v : Value} (h : w.heap[b]? = some (ouO n o v)) : w.cell? ⟨b, 0, none⟩ = some (.int .i64 n) ∧ w.cell? ⟨b, 1, none⟩ = some (.bool o) ∧ w.cell? ⟨b, 2, none⟩ = some v ∧ b < w.heap.size :=
  ⟨(blk_cell h 0).trans rfl, (blk_cell h 1).trans rfl, (blk_cell h 2).trans rfl, blk_lt h⟩
theorem results_out {fn : Func} {p : Tmp} (h : fn.results = #[.cell p 31]) (tmps : Array Value) (w : World) (g : Nat) (n : Int) (o : Bool) (v : Value) (hp : tmps.getD p undef = .pointer (some ⟨g, 0, none⟩)) (hg : w.heap[g]? = some (ouO n o v)) :
    (results fn tmps).run Try.prog w = .ok (ouV n o v) w :=
  results_cell_row h tmps w g 31 _ (0, 0) _ hp hg Try.underlying31 rfl (by kernel_rfl)

set_option maxHeartbeats 2000000 in
set_option maxRecDepth 100000 in
theorem low_count_any (a : S28) (va : Value) (q g : Nat) (w : World) (h : w.heap[g]? = some (acO a va)) :
    Calls Try.prog 60 #[.pointer (some ⟨q, 0, none⟩), .pointer (some ⟨g, 0, none⟩)] w fun e w' => e = .returned (ouV a.f0 false (.slice none 0 0)) ∧ Below w.heap.size w w' := by
  obtain ⟨a0, a1, a2, a3, a4, a5, a6, a7, a8, a9, a10, a11, a12, al⟩ := acO_facts h
  go_enter Try.func60, Try.ntmps60
  go_wp2_with fail
  exact bodyPost_ret (results_out rfl _ _ w.heap.size _ _ _ rfl (heap_alloc_new w _)) rfl ⟨rfl, (Below.refl _ _).alloc (Nat.le_refl _) _⟩
set_option maxHeartbeats 2000000 in
set_option maxRecDepth 100000 in
theorem low_least_any (a : S28) (va : Value) (q g : Nat) (w : World) (h : w.heap[g]? = some (acO a va)) :
    Calls Try.prog 62 #[.pointer (some ⟨q, 0, none⟩), .pointer (some ⟨g, 0, none⟩)] w fun e w' => e = .returned (ouV a.f2 false (.slice none 0 0)) ∧ Below w.heap.size w w' := by
  obtain ⟨a0, a1, a2, a3, a4, a5, a6, a7, a8, a9, a10, a11, a12, al⟩ := acO_facts h
  go_enter Try.func62, Try.ntmps62
  go_wp2_with fail
  exact bodyPost_ret (results_out rfl _ _ w.heap.size _ _ _ rfl (heap_alloc_new w _)) rfl ⟨rfl, (Below.refl _ _).alloc (Nat.le_refl _) _⟩
set_option maxHeartbeats 2000000 in
set_option maxRecDepth 100000 in
theorem low_greatest_any (a : S28) (va : Value) (q g : Nat) (w : World) (h : w.heap[g]? = some (acO a va)) :
    Calls Try.prog 63 #[.pointer (some ⟨q, 0, none⟩), .pointer (some ⟨g, 0, none⟩)] w fun e w' => e = .returned (ouV a.f3 false (.slice none 0 0)) ∧ Below w.heap.size w w' := by
  obtain ⟨a0, a1, a2, a3, a4, a5, a6, a7, a8, a9, a10, a11, a12, al⟩ := acO_facts h
  go_enter Try.func63, Try.ntmps63
  go_wp2_with fail
  exact bodyPost_ret (results_out rfl _ _ w.heap.size _ _ _ rfl (heap_alloc_new w _)) rfl ⟨rfl, (Below.refl _ _).alloc (Nat.le_refl _) _⟩
set_option maxHeartbeats 2000000 in
set_option maxRecDepth 100000 in
theorem low_first_any (a : S28) (va : Value) (q g : Nat) (w : World) (h : w.heap[g]? = some (acO a va)) :
    Calls Try.prog 64 #[.pointer (some ⟨q, 0, none⟩), .pointer (some ⟨g, 0, none⟩)] w fun e w' => e = .returned (ouV a.f4.f3 false (.slice none 0 0)) ∧ Below w.heap.size w w' := by
  obtain ⟨a0, a1, a2, a3, a4, a5, a6, a7, a8, a9, a10, a11, a12, al⟩ := acO_facts h
  go_enter Try.func64, Try.ntmps64
  go_wp2_with fail
  exact bodyPost_ret (results_out rfl _ _ w.heap.size _ _ _ rfl (heap_alloc_new w _)) rfl ⟨rfl, (Below.refl _ _).alloc (Nat.le_refl _) _⟩
set_option maxHeartbeats 2000000 in
set_option maxRecDepth 100000 in
theorem low_last_any (a : S28) (va : Value) (q g : Nat) (w : World) (h : w.heap[g]? = some (acO a va)) :
    Calls Try.prog 65 #[.pointer (some ⟨q, 0, none⟩), .pointer (some ⟨g, 0, none⟩)] w fun e w' => e = .returned (ouV a.f5.f3 false (.slice none 0 0)) ∧ Below w.heap.size w w' := by
  obtain ⟨a0, a1, a2, a3, a4, a5, a6, a7, a8, a9, a10, a11, a12, al⟩ := acO_facts h
  go_enter Try.func65, Try.ntmps65
  go_wp2_with fail
  exact bodyPost_ret (results_out rfl _ _ w.heap.size _ _ _ rfl (heap_alloc_new w _)) rfl ⟨rfl, (Below.refl _ _).alloc (Nat.le_refl _) _⟩
def sumOver (s : Int) : Bool := decide (s < -1125899906842624) || decide (1125899906842624 < s)
def sumVal (s : Int) : Int := if sumOver s = true then 0 else s
set_option maxHeartbeats 2000000 in
set_option maxRecDepth 100000 in
theorem low_sum_any (a : S28) (va : Value) (q g : Nat) (w : World) (h : w.heap[g]? = some (acO a va)) :
    Calls Try.prog 61 #[.pointer (some ⟨q, 0, none⟩), .pointer (some ⟨g, 0, none⟩)] w fun e w' => e = .returned (ouV (sumVal a.f1) (sumOver a.f1) (.slice none 0 0)) ∧ Below w.heap.size w w' := by
  obtain ⟨a0, a1, a2, a3, a4, a5, a6, a7, a8, a9, a10, a11, a12, al⟩ := acO_facts h
  by_cases h1 : a.f1 < -1125899906842624
  · have hs : sumOver a.f1 = true := by unfold sumOver; rw [decide_eq_true h1]; rfl
    have HS := Lib.hid hs
    have hd : decide (a.f1 < -1125899906842624) = true := decide_eq_true h1
    clear hs
    go_enter Try.func61, Try.ntmps61
    go_wp2_with fail
    refine bodyPost_ret (results_out rfl _ _ w.heap.size _ _ _ rfl (heap_alloc_new w _)) rfl ⟨?_, (Below.refl _ _).alloc (Nat.le_refl _) _⟩
    unfold sumVal; rw [HS.out]; rfl
  · have hd : decide (a.f1 < -1125899906842624) = false := decide_eq_false h1
    by_cases h2 : 1125899906842624 < a.f1
    · have hs : sumOver a.f1 = true := by unfold sumOver; rw [decide_eq_true h2]; simp
      have HS := Lib.hid hs
      have hd2 : decide (1125899906842624 < a.f1) = true := decide_eq_true h2
      clear hs
      go_enter Try.func61, Try.ntmps61
      go_wp2_with fail
      refine bodyPost_ret (results_out rfl _ _ w.heap.size _ _ _ rfl (heap_alloc_new w _)) rfl ⟨?_, (Below.refl _ _).alloc (Nat.le_refl _) _⟩
      unfold sumVal; rw [HS.out]; rfl
    · have hs : sumOver a.f1 = false := by unfold sumOver; rw [hd, decide_eq_false h2]; rfl
      have HS := Lib.hid hs
      have hd2 : decide (1125899906842624 < a.f1) = false := decide_eq_false h2
      clear hs
      go_enter Try.func61, Try.ntmps61
      go_wp2_with fail
      refine bodyPost_ret (results_out rfl _ _ w.heap.size _ _ _ rfl (heap_alloc_new w _)) rfl ⟨?_, (Below.refl _ _).alloc (Nat.le_refl _) _⟩
      unfold sumVal; rw [HS.out]; rfl

set_option maxHeartbeats 8000000 in
set_option maxRecDepth 100000 in
theorem clone_any (A : Option Addr) (c : Nat) (l : List Int) (w : World) (hr : RdI w A l) (hc : l.length ≤ c) (hl : l.length ≤ 1000) :
    Calls Try.prog 69 #[.slice A l.length c] w fun e w' => ∃ v, e = .returned v ∧ Kd.R (Kd.int .i64) 3 w' w.heap.size (fun _ => True) v l ∧ Below w.heap.size w w' := by
  have HR := Lib.hid hr
  have HC := Lib.hid hc
  clear hr hc
  have hk := fun (w : World) (n : Nat) => Lib.run_eql_slice_nil (P := Try.prog) w 22 3 A n c 0 0 Try.underlying22
  by_cases hA : A = none
  · subst hA
    have hl0 : l = [] := by
      by_cases h0 : 0 < l.length
      · obtain ⟨ad, e, _⟩ := HR.out.2.2 h0
        cases e
      · exact List.eq_nil_of_length_eq_zero (by omega)
    subst hl0
    go_enter Try.func69, Try.ntmps69
    go_wp2_with fail
    go_ret
    exact ⟨_, rfl, Kd.R_nil _ _ _ _ _, Below.refl _ _⟩
  · obtain ⟨ad, rfl⟩ : ∃ ad, A = some ad := by
      cases A with
      | none => exact absurd rfl hA
      | some ad => exact ⟨ad, rfl⟩
    clear hA
    go_enter Try.func69, Try.ntmps69
    go_wp2_with (first | ((with_reducible refine gate_dst (N := 5) rfl ?_); refine Kd.R_lit (Kd.int .i64) _ 3 ?hg (N := 5) ?hd (xs := ([] : List Int)) (inner := []) (ok := fun _ => True) (okp := fun _ => True) ?hr ?hp (fun _ hk => hk) trivial (Below.refl _ _) (Nat.le_refl _) (by simp) ?_; (case hd => rfl); (case hg => rfl); (case hr => first | (go_simp; done) | (go_simp; rfl)); (case hp => exact (Reps.none _ _)); intro v3 w3 ho4 hb hg_ hnew_; clear hg_ hnew_; have HO := Lib.hid ho4; have HB := Lib.hid hb; clear ho4 hb) | ((with_reducible refine gate_builtin (b := .append) (xs := #[.tmp 5, .tmp 6]) rfl ?_); at_builtin; refine Kd.R_append_rows (Kd.int .i64) (w0 := w) w.heap.size rfl (.tmp 5) (.tmp 6) 22 3 (.int .i64 0) 8 rfl Try.underlying22 info3 rfl (by decide) (by omega) v3 [] l _ _ _ (fun _ => True) (fun _ => False) rfl rfl ?aO ?aR (fun _ _ h => h) (fun _ h => h.elim) ?aF ?aB ?aS ?aL ?_; (case aR => exact Kd.C_below HR.out HB.out); (case aB => exact HB.out); (case aF => exact (fun _ _ => trivial)); (case aO => exact HO.out); (case aS => exact HB.out.size); (case aL => simp; omega); intro v376 w5 ho hb2 hg hat; have HO2 := Lib.hid ho; have HB2 := Lib.hid hb2; clear ho hb2 hg hat))
    go_ret
    exact ⟨_, rfl, HO2.out, HB2.out⟩

theorem ouO_put {w : World} {b : Nat} {n n1 : Int} {o o1 : Bool} {v v1 : Value} (h : w.heap[b]? = some (ouO n o v)) : (((w.setCell ⟨b, 0, none⟩ (.int .i64 n1)).setCell ⟨b, 1, none⟩ (.bool o1)).setCell ⟨b, 2, none⟩ v1).heap[b]? = some (ouO n1 o1 v1) := by
  have := blk_set (blk_set (blk_set h 0 (.int .i64 n1)) 1 (.bool o1)) 2 v1
  simp only [List.setIfInBounds_toArray, List.set_cons_zero, List.set_cons_succ] at this
  exact this
theorem ouO_chg (w : World) (b : Nat) (n1 : Int) (o1 : Bool) (v1 : Value) : Chg (fun k => k = b) w (((w.setCell ⟨b, 0, none⟩ (.int .i64 n1)).setCell ⟨b, 1, none⟩ (.bool o1)).setCell ⟨b, 2, none⟩ v1) :=
  (((Chg.refl (fun k => k = b) w).setCell (p := ⟨b, 0, none⟩) (.inl rfl) _).setCell (p := ⟨b, 1, none⟩) (.inl rfl) _).setCell (p := ⟨b, 2, none⟩) (.inl rfl) _
theorem own_lower {w : World} {b b1 : Nat} {v : Value} {n : Nat} {cs : List Value} {e : TypeId} {size : Nat} (h : w.ownsRow b e size v n cs) (hb : b1 ≤ b) : w.ownsRow b1 e size v n cs := by
  refine ⟨h.1, ?_⟩
  rcases h.2 with h | ⟨g, cap, cur, h1, h2, h3⟩
  · exact .inl h
  · exact .inr ⟨g, cap, cur, h1, by omega, h3⟩
set_option maxHeartbeats 2000000 in
set_option maxRecDepth 100000 in
theorem low_hist_any (a : S28) (Ah : Option Addr) (ch q g : Nat) (w : World) (h : w.heap[g]? = some (acO a (.slice Ah a.f6.length ch))) (hr : RdI w Ah a.f6) (hc : a.f6.length ≤ ch) (hl : a.f6.length ≤ 1000) :
    Calls Try.prog 66 #[.pointer (some ⟨q, 0, none⟩), .pointer (some ⟨g, 0, none⟩)] w fun e w' => ∃ v, e = .returned (ouV 0 false v) ∧ Own w' w.heap.size v a.f6 ∧ Below w.heap.size w w' := by
  obtain ⟨a0, a1, a2, a3, a4, a5, a6, a7, a8, a9, a10, a11, a12, al⟩ := acO_facts h
  have HR := Lib.hid hr
  have HC := Lib.hid hc
  clear hr hc h
  go_enter Try.func66, Try.ntmps66
  go_wp2_with fail
  have hb0 : Below w.heap.size w (w.alloc (ouO 0 false (.slice none 0 0))) := (Below.refl _ _).alloc (Nat.le_refl _) _
  have hz : (w.alloc (ouO 0 false (.slice none 0 0))).heap[w.heap.size]? = some (ouO 0 false (.slice none 0 0)) := heap_alloc_new w _
  refine (clone_any Ah ch a.f6 _ (Kd.C_below HR.out hb0) HC.out hl).mono ?_
  rintro e w2 ⟨v, rfl, ho, hb⟩
  obtain ⟨Av, cv, rfl⟩ := Kd.R_slice ho
  have hz2 := blk_below hz hb
  have hne : ∀ k, (Value.slice Av a.f6.length cv).ownBlock = some k → k ≠ w.heap.size := fun k hk => by
    have := Kd.R_base ho k hk
    have hs : (w.alloc (ouO 0 false (.slice none 0 0))).heap.size = w.heap.size + 1 := by simp
    omega
  have HO := Lib.hid (show Own w2 w.heap.size (.slice Av a.f6.length cv) a.f6 from own_lower (Kd.own_of_R ho) hb0.size)
  have HN := Lib.hid hne
  have HB := Lib.hid (hb0.trans (hb.mono hb0.size))
  have HZ := Lib.hid hz2
  have HB1 := Lib.hid hb
  obtain ⟨z0, z1, z2, zl⟩ := ouO_facts hz2
  have hf := fun j => blk_free hz2 j
  clear hz hb0 ho hb hz2 a0 a1 a2 a3 a4 a5 a6 a7 a8 a9 a10 a11 a12 al
  clear hne
  go_wp2_with fail
  refine bodyPost_ret (results_out rfl _ _ w.heap.size 0 false (.slice Av a.f6.length cv) rfl (ouO_put HZ.out)) rfl ?_
  have hch := ouO_chg w2 w.heap.size 0 false (.slice Av a.f6.length cv)
  exact ⟨_, rfl, HO.out.keep hch (fun k hk e => HN.out k hk e), Chg.base HB.out hch HB.out.size (fun i hi => by omega)⟩

def rankK (r c : Int) : Int := if 1 < (r * c + 1000 - 1) / 1000 then (r * c + 1000 - 1) / 1000 else 1
def rankGo (h bs : List Int) (mx : Int) : Nat → Nat → Int → Int
  | 0, _, _ => mx
  | n + 1, i, k => if k - h.getD i 0 ≤ 0 then bs.getD i 0 else rankGo h bs mx n (i + 1) (k - h.getD i 0)
theorem rank_bound {r c : Int} (h1 : 0 ≤ r) (h2 : r ≤ 1000) (h3 : 0 ≤ c) (h4 : c ≤ 8192) : 0 ≤ r * c ∧ r * c ≤ 8192000 := by
  have e1 := Int.mul_le_mul h2 h4 h3 (by omega)
  have e2 := Int.mul_nonneg h1 h3
  omega
set_option maxHeartbeats 4000000 in
set_option maxRecDepth 100000 in
theorem low_rank_any (a : S28) (qy : Qy) (bs : List Int) (Ah : Option Addr) (ch : Nat) (Ab : Option Addr) (cb q g : Nat) (w : World) (h : w.heap[g]? = some (acO a (.slice Ah a.f6.length ch))) (hr : RdI w Ah a.f6) (hq : w.heap[q]? = some (quO qy (.slice Ab bs.length cb))) (hb : RdI w Ab bs)
    (hl : bs.length ≤ 8) (hh : a.f6.length = bs.length + 1) (hn : ∀ i, i < a.f6.length → 0 ≤ a.f6.getD i 0 ∧ a.f6.getD i 0 ≤ 8192) (h1 : 0 ≤ qy.rank) (h2 : qy.rank ≤ 1000) (h3 : 0 ≤ a.f0) (h4 : a.f0 ≤ 8192) :
    Calls Try.prog 67 #[.pointer (some ⟨q, 0, none⟩), .pointer (some ⟨g, 0, none⟩)] w fun e w' => e = .returned (ouV (rankGo a.f6 bs a.f3 bs.length 0 (rankK qy.rank a.f0)) false (.slice none 0 0)) ∧ Below w.heap.size w w' := by
  have hb0 : Below w.heap.size w (w.alloc (ouO 0 false (.slice none 0 0))) := (Below.refl _ _).alloc (Nat.le_refl _) _
  have hz : (w.alloc (ouO 0 false (.slice none 0 0))).heap[w.heap.size]? = some (ouO 0 false (.slice none 0 0)) := heap_alloc_new w _
  have hg := blk_below h hb0
  have hq1 := blk_below hq hb0
  have HR := Lib.hid (Kd.C_below hr hb0)
  have HBS := Lib.hid (Kd.C_below hb hb0)
  have HZ := Lib.hid hz
  have HB := Lib.hid hb0
  have HN := Lib.hid hn
  have HH := Lib.hid hh
  obtain ⟨e1, e2⟩ := rank_bound h1 h2 h3 h4
  clear hr hb h hq hz hb0 hn hh
  obtain ⟨a0, a1, a2, a3, a4, a5, a6, a7, a8, a9, a10, a11, a12, al⟩ := acO_facts hg
  obtain ⟨q0, q1, q2, q3, q4, q5, ql⟩ := quO_facts hq1
  obtain ⟨z0, z1, z2, zl⟩ := ouO_facts HZ.out
  have hf := fun j => blk_free HZ.out j
  go_enter Try.func67, Try.ntmps67
  go_wp2_with fail
  show Code.wp _ _ _ _ (w.alloc (ouO 0 false (.slice none 0 0)))
  generalize w.alloc (ouO 0 false (.slice none 0 0)) = w1 at *
  obtain ⟨kk, hkk⟩ : ∃ k, (if 1 < (qy.rank * a.f0 + 1000 - 1) / 1000 then (qy.rank * a.f0 + 1000 - 1) / 1000 else 1) = k := ⟨_, rfl⟩
  have HKK := Lib.hid (show rankK qy.rank a.f0 = kk from hkk)
  have hk1 : 1 ≤ kk := by rw [← hkk]; split <;> omega
  have hk2 : kk ≤ 8193 := by rw [← hkk]; split <;> omega
  refine Txt.wp_region_text (by kernel_rfl) (by kernel_rfl) ?_
  repeat (first
    | (refine Txt.text_p (by rfl) rfl (fun K hK => ?_); go_big_quiet_op; refine hK _ ?_; clear hK K)
    | (refine Txt.text_r (by rfl) rfl (fun K hK => ?_); go_big_quiet_op; refine hK _ ?_; clear hK K)
    | (refine Txt.text_pass (by rfl) (by rfl) ?_; simp only [List.set_cons_succ, List.set_cons_zero]))
  refine Txt.text_nil ?_
  clear a0 a1 a2 a3 a4 a5 a6 a7 a8 a9 a10 a11 a12 al q0 q1 q2 q3 q4 q5 ql z0 z1 z2 zl hf hkk
  have HB2 := Lib.hid (HB.out.drew)
  have HZ2 := Lib.hid (show w1.drew.heap[w.heap.size]? = some (ouO 0 false (.slice none 0 0)) from HZ.out)
  have HR2 := Lib.hid (show RdI w1.drew Ah a.f6 from Kd.C_drew HR.out)
  have HBS2 := Lib.hid (show RdI w1.drew Ab bs from Kd.C_drew HBS.out)
  have hg2 : w1.drew.heap[g]? = some (acO a (.slice Ah a.f6.length ch)) := hg
  have hq2 : w1.drew.heap[q]? = some (quO qy (.slice Ab bs.length cb)) := hq1
  clear HB HZ HR HBS hg hq1
  generalize World.drew w1 = w2 at *
  obtain ⟨a0, a1, a2, a3, a4, a5, a6, a7, a8, a9, a10, a11, a12, al⟩ := acO_facts hg2
  obtain ⟨q0, q1, q2, q3, q4, q5, ql⟩ := quO_facts hq2
  obtain ⟨z0, z1, z2, zl⟩ := ouO_facts HZ2.out
  have hf := fun j => blk_free HZ2.out j
  clear hg2 hq2
  go_wp2_with fail
  go_loopw [5, 26] (fun s i wr => ∃ (k : Nat) (r : Int), i = .int .i64 k ∧ s = .int .i64 r ∧ k ≤ bs.length ∧ wr = w2 ∧ r ≤ 8193 ∧ -8192 * (k : Int) ≤ r ∧ Rel (rankGo a.f6 bs a.f3 bs.length 0 kk = rankGo a.f6 bs a.f3 (bs.length - k) k r)) (fun _ i _ => bs.length - (intOf i).toNat)
  case atStart => exact ⟨0, kk, rfl, rfl, by omega, rfl, by omega, by omega, rfl⟩
  case round =>
    obtain ⟨k, r, rfl, rfl, hk, rfl, hr1, hr2, hx⟩ := hrel
    have HX := Lib.hid hx
    clear hx
    by_cases hlt : k < bs.length
    · obtain ⟨ad, rfl, e0⟩ := HBS2.out.at_ hlt
      have hkh : k < a.f6.length := by have := HH.out; omega
      obtain ⟨ad2, rfl, e3⟩ := HR2.out.at_ hkh
      obtain ⟨n1, n2⟩ := HN.out k hkh
      have hx := HX.out
      unfold Rel at hx
      rw [show bs.length - k = (bs.length - (k + 1)) + 1 by omega, rankGo] at hx
      have hhl : decide (k < a.f6.length) = true := decide_eq_true hkh
      have hhi : decide ((k : Int) < (a.f6.length : Int)) = true := decide_eq_true (by omega)
      generalize a.f6.getD k 0 = n at *
      generalize bs.getD k 0 = b at *
      have HY := Lib.hid hx
      clear hx HX
      by_cases h5 : r - n ≤ 0
      · have hd : decide (r - n ≤ 0) = true := decide_eq_true h5
        have hy := HY.out
        rw [if_pos h5] at hy
        have HY2 := Lib.hid hy
        clear h5 hy HY
        go_wp2_with fail
        refine bodyPost_ret (results_out rfl _ _ w.heap.size b false (.slice none 0 0) rfl (ouO_put HZ2.out)) rfl ?_
        have hch := ouO_chg wr w.heap.size b false (.slice none 0 0)
        exact ⟨by rw [HKK.out, HY2.out], Chg.base HB2.out hch HB2.out.size (fun i hi => by omega)⟩
      · have hd : decide (r - n ≤ 0) = false := decide_eq_false h5
        have hy := HY.out
        rw [if_neg h5] at hy
        have HY2 := Lib.hid hy
        clear h5 hy HY
        go_wp2_with fail
        exact ⟨⟨k + 1, r - n, by go_num, by first | rfl | trivial, by omega, by first | rfl | trivial, by omega, by omega, HY2.out⟩, by simp [intOf]; omega⟩
    · obtain rfl : k = bs.length := by omega
      have hx := HX.out
      unfold Rel at hx
      rw [Nat.sub_self, rankGo] at hx
      have HY := Lib.hid hx
      clear hx HX
      go_wp2_with fail
      refine bodyPost_ret (results_out rfl _ _ w.heap.size a.f3 false (.slice none 0 0) rfl (ouO_put HZ2.out)) rfl ?_
      have hch := ouO_chg wr w.heap.size a.f3 false (.slice none 0 0)
      exact ⟨by rw [HKK.out, HY.out], Chg.base HB2.out hch HB2.out.size (fun i hi => by omega)⟩
end Go.Proofs.Ytggaefklcpbfnaa.My

namespace Go.Proofs.Ytggaefklcpbfnaa.My
open Go.RowKit Pa Go.Proofs.YtggaefklcpbfnaaW.PrintWords
attribute [local go_sem high] eqA26

def iok (a : S28) (x : S26) : Bool := imay x && (decide (a.f2 ≤ x.f3) && decide (x.f3 ≤ a.f3))
def emay (a : S28) : Bool := iok a a.f4 && (iok a a.f5 && (decide (a.f4.f0 = a.f5.f0) && decide (ord a.f4 a.f5 ≤ 0)))
def pairO (x y : S26) : Obj := .cells #[.int .i64 x.f0, .int .i64 x.f1, .int .i64 x.f2, .int .i64 x.f3, .int .i64 y.f0, .int .i64 y.f1, .int .i64 y.f2, .int .i64 y.f3] 26
def pick2 (x y : S26) (k : Nat) : S26 := if k = 0 then x else y
theorem pair_facts {w : World} {b : Nat} {x y : S26} (h : w.heap[b]? = some (pairO x y)) {k : Nat} (hk : k < 2) : w.cell? ⟨b, k * 4, none⟩ = some (.int .i64 (pick2 x y k).f0) ∧ w.cell? ⟨b, k * 4 + 1, none⟩ = some (.int .i64 (pick2 x y k).f1) ∧ w.cell? ⟨b, k * 4 + 2, none⟩ = some (.int .i64 (pick2 x y k).f2) ∧ w.cell? ⟨b, k * 4 + 3, none⟩ = some (.int .i64 (pick2 x y k).f3) ∧ b < w.heap.size := by
  rcases (by omega : k = 0 ∨ k = 1) with rfl | rfl
  · exact ⟨(blk_cell h 0).trans rfl, (blk_cell h 1).trans rfl, (blk_cell h 2).trans rfl, (blk_cell h 3).trans rfl, blk_lt h⟩
  · exact ⟨(blk_cell h 4).trans rfl, (blk_cell h 5).trans rfl, (blk_cell h 6).trans rfl, (blk_cell h 7).trans rfl, blk_lt h⟩
theorem emay_no {a : S28} {k : Nat} (h : iok a (pick2 a.f4 a.f5 k) = false) : emay a = false := by
  unfold emay
  unfold pick2 at h
  split at h
  · rw [h]; rfl
  · rw [h]; simp

set_option maxHeartbeats 4000000 in
set_option maxRecDepth 100000 in
theorem ends_any (a : S28) (g : Nat) (v : Value) (w : World) (h : w.heap[g]? = some (acO a v)) :
    Calls Try.prog 57 #[.pointer (some ⟨g, 0, none⟩)] w fun e w' => e = .returned (.bool (emay a)) ∧ Below w.heap.size w w' := by
  obtain ⟨a0, a1, a2, a3, a4, a5, a6, a7, a8, a9, a10, a11, a12, al⟩ := acO_facts h
  have HH := Lib.hid h
  clear h
  go_enter Try.func57, Try.ntmps57
  go_wp2_with fail
  refine Txt.wp_region_text (by kernel_rfl) (by kernel_rfl) ?_
  repeat (first
    | (refine Txt.text_p (by rfl) rfl (fun K hK => ?_); go_big_quiet_op; refine hK _ ?_; clear hK K)
    | (refine Txt.text_r (by rfl) rfl (fun K hK => ?_); go_big_quiet_op; refine hK _ ?_; clear hK K)
    | (refine Txt.text_pass (by rfl) (by rfl) ?_; simp only [List.set_cons_succ, List.set_cons_zero]))
  refine Txt.text_a (by rfl) rfl (fun K hK => ?_)
  go_wp2_with fail
  have hal : Below w.heap.size w (w.drew.alloc (pairO a.f4 a.f5)) := (Below.refl w.heap.size w).drew.alloc (Nat.le_refl _) _
  have hp : (w.drew.alloc (pairO a.f4 a.f5)).heap[w.heap.size]? = some (pairO a.f4 a.f5) := heap_alloc_new w.drew _
  repeat (first
    | (refine Txt.text_p (by rfl) rfl (fun K hK => ?_); go_big_quiet_op; refine hK _ ?_; clear hK K)
    | (refine Txt.text_r (by rfl) rfl (fun K hK => ?_); go_big_quiet_op; refine hK _ ?_; clear hK K)
    | (refine Txt.text_pass (by rfl) (by rfl) ?_; simp only [List.set_cons_succ, List.set_cons_zero]))
  refine Txt.text_nil ?_
  show Exit.then _ _ _ _ (w.drew.alloc (pairO a.f4 a.f5))
  clear a0 a1 a2 a3 a4 a5 a6 a7 a8 a9 a10 a11 a12 al
  have HH1 := Lib.hid (blk_below HH.out hal)
  have HP := Lib.hid hp
  have HB := Lib.hid hal
  clear hp hal HH
  generalize w.drew.alloc (pairO a.f4 a.f5) = w1 at *
  go_wp2_with fail
  go_loopw [15] (fun i wr => ∃ k : Nat, i = .int .i64 k ∧ k ≤ 2 ∧ Below w.heap.size w wr ∧ wr.heap[w.heap.size]? = some (pairO a.f4 a.f5) ∧ wr.heap[g]? = some (acO a v) ∧ Rel (∀ j, j < k → iok a (pick2 a.f4 a.f5 j) = true)) (fun i _ => 2 - (intOf i).toNat)
  case atStart => exact ⟨0, rfl, by omega, HB.out, HP.out, HH1.out, fun j hj => absurd hj (by omega)⟩
  case round =>
    obtain ⟨k, rfl, hk, hb, hp, hg, hx⟩ := hrel
    have HX := Lib.hid hx
    have HB2 := Lib.hid hb
    have HP2 := Lib.hid hp
    have HG2 := Lib.hid hg
    clear hx hb hp hg HB HP HH1
    by_cases hlt : k < 2
    · obtain ⟨p0, p1, p2, p3, pl⟩ := pair_facts HP2.out hlt
      have hno := emay_no (a := a) (k := k)
      have hup : iok a (pick2 a.f4 a.f5 k) = true → ∀ j, j < k + 1 → iok a (pick2 a.f4 a.f5 j) = true := fun h j hj => by
        by_cases e : j = k
        · rw [e]; exact h
        · exact HX.out j (by omega)
      generalize pick2 a.f4 a.f5 k = x at *
      have HNO := Lib.hid hno
      have HUP := Lib.hid hup
      clear hno hup
      have hal : Below wr.heap.size wr (wr.alloc (itO x)) := (Below.refl wr.heap.size wr).alloc (Nat.le_refl _) _
      have hxv : (wr.alloc (itO x)).heap[wr.heap.size]? = some (itO x) := heap_alloc_new wr _
      have hg2 := blk_below HG2.out hal
      have hp2 := blk_below HP2.out hal
      obtain ⟨x0, x1, x2, x3, xl⟩ := itO_facts hxv
      obtain ⟨a0, a1, a2, a3, a4, a5, a6, a7, a8, a9, a10, a11, a12, al⟩ := acO_facts hg2
      have HB3 := Lib.hid (HB2.out.trans (hal.mono HB2.out.size))
      have HXV := Lib.hid hxv
      have HG3 := Lib.hid hg2
      have HP3 := Lib.hid hp2
      clear hal hxv hg2 hp2 HB2 HG2 HP2
      unfold itO at x0 x1 x2 x3 xl a0 a1 a2 a3 a4 a5 a6 a7 a8 a9 a10 a11 a12 al
      go_wp2_with fail
      show Code.wp _ _ _ _ (wr.alloc (itO x))
      clear x0 x1 x2 x3 xl a0 a1 a2 a3 a4 a5 a6 a7 a8 a9 a10 a11 a12 al p0 p1 p2 p3 pl
      generalize wr.alloc (itO x) = wa at *
      generalize wr.heap.size = xb at *
      obtain ⟨x0, x1, x2, x3, xl⟩ := itO_facts HXV.out
      obtain ⟨a0, a1, a2, a3, a4, a5, a6, a7, a8, a9, a10, a11, a12, al⟩ := acO_facts HG3.out
      refine Txt.wp_region_text (by kernel_rfl) (by kernel_rfl) ?_
      repeat (first
        | (refine Txt.text_p (by rfl) rfl (fun K hK => ?_); go_big_quiet_op; refine hK _ ?_; clear hK K)
        | (refine Txt.text_r (by rfl) rfl (fun K hK => ?_); go_big_quiet_op; refine hK _ ?_; clear hK K)
        | (refine Txt.text_pass (by rfl) (by rfl) ?_; simp only [List.set_cons_succ, List.set_cons_zero]))
      refine Txt.text_a (by rfl) rfl (fun K hK => ?_)
      go_wp2_with fail
      refine (im_any x _).mono ?_
      rintro e w3 ⟨rfl, hb⟩
      have hb2 := Txt.Bw.undrew hb
      have hx3 := blk_below HXV.out hb2
      have hg3 := blk_below HG3.out hb2
      have HP4 := Lib.hid (blk_below HP3.out hb2)
      have HB4 := Lib.hid (HB3.out.trans (hb2.mono HB3.out.size))
      have HG4 := Lib.hid hg3
      clear x0 x1 x2 x3 xl a0 a1 a2 a3 a4 a5 a6 a7 a8 a9 a10 a11 a12 al
      obtain ⟨x0, x1, x2, x3, xl⟩ := itO_facts hx3
      obtain ⟨a0, a1, a2, a3, a4, a5, a6, a7, a8, a9, a10, a11, a12, al⟩ := acO_facts hg3
      clear hb hb2 hx3 hg3 HXV HG3 HP3 HB3
      by_cases h1 : imay x = true
      · by_cases h2 : a.f2 ≤ x.f3
        · by_cases h3 : x.f3 ≤ a.f3
          · have hok : iok a x = true := by unfold iok; rw [h1, decide_eq_true h2, decide_eq_true h3]; rfl
            have HOK := Lib.hid (HUP.out hok)
            have hd1 : decide (x.f3 < a.f2) = false := decide_eq_false (by omega)
            have hd2 : decide (a.f3 < x.f3) = false := decide_eq_false (by omega)
            rw [h1]
            clear hok h1 h2 h3
            go_wp2_with fail
            repeat (first
              | (refine Txt.text_p (by rfl) rfl (fun K hK => ?_); go_big_quiet_op; refine hK _ ?_; clear hK K)
              | (refine Txt.text_r (by rfl) rfl (fun K hK => ?_); go_big_quiet_op; refine hK _ ?_; clear hK K)
              | (refine Txt.text_pass (by rfl) (by rfl) ?_; simp only [List.set_cons_succ, List.set_cons_zero]))
            refine Txt.text_nil ?_
            go_wp2_with fail
            exact ⟨⟨k + 1, by go_num, by omega, HB4.out, HP4.out, HG4.out, HOK.out⟩, by simp [intOf]; omega⟩
          · have hok : iok a x = false := by unfold iok; rw [h1, decide_eq_true h2, decide_eq_false h3]; rfl
            have HRES := Lib.hid (HNO.out hok)
            have hd1 : decide (x.f3 < a.f2) = false := decide_eq_false (by omega)
            have hd2 : decide (a.f3 < x.f3) = true := decide_eq_true (by omega)
            rw [h1]
            clear hok h1 h2 h3
            go_wp2_with fail
            repeat (first
              | (refine Txt.text_p (by rfl) rfl (fun K hK => ?_); go_big_quiet_op; refine hK _ ?_; clear hK K)
              | (refine Txt.text_r (by rfl) rfl (fun K hK => ?_); go_big_quiet_op; refine hK _ ?_; clear hK K)
              | (refine Txt.text_pass (by rfl) (by rfl) ?_; simp only [List.set_cons_succ, List.set_cons_zero]))
            refine Txt.text_nil ?_
            go_wp2_with fail
            go_ret
            exact ⟨by rw [HRES.out]; rfl, HB4.out⟩
        · have hok : iok a x = false := by unfold iok; rw [h1, decide_eq_false h2]; rfl
          have HRES := Lib.hid (HNO.out hok)
          have hd1 : decide (x.f3 < a.f2) = true := decide_eq_true (by omega)
          rw [h1]
          clear hok h1 h2
          go_wp2_with fail
          repeat (first
            | (refine Txt.text_p (by rfl) rfl (fun K hK => ?_); go_big_quiet_op; refine hK _ ?_; clear hK K)
            | (refine Txt.text_r (by rfl) rfl (fun K hK => ?_); go_big_quiet_op; refine hK _ ?_; clear hK K)
            | (refine Txt.text_pass (by rfl) (by rfl) ?_; simp only [List.set_cons_succ, List.set_cons_zero]))
          refine Txt.text_nil ?_
          go_wp2_with fail
          go_ret
          exact ⟨by rw [HRES.out]; rfl, HB4.out⟩
      · have h1' := bne_ h1
        have hok : iok a x = false := by unfold iok; rw [h1']; rfl
        have HRES := Lib.hid (HNO.out hok)
        rw [h1']
        clear hok h1 h1'
        go_wp2_with fail
        repeat (first
          | (refine Txt.text_p (by rfl) rfl (fun K hK => ?_); go_big_quiet_op; refine hK _ ?_; clear hK K)
          | (refine Txt.text_r (by rfl) rfl (fun K hK => ?_); go_big_quiet_op; refine hK _ ?_; clear hK K)
          | (refine Txt.text_pass (by rfl) (by rfl) ?_; simp only [List.set_cons_succ, List.set_cons_zero]))
        refine Txt.text_nil ?_
        go_wp2_with fail
        go_ret
        exact ⟨by rw [HRES.out]; rfl, HB4.out⟩
    · obtain rfl : k = 2 := by omega
      have hf := HX.out 0 (by omega)
      have hl := HX.out 1 (by omega)
      unfold pick2 at hf hl
      rw [if_pos rfl] at hf
      rw [if_neg (by omega)] at hl
      have HFL := Lib.hid (And.intro hf hl)
      clear hf hl
      obtain ⟨a0, a1, a2, a3, a4, a5, a6, a7, a8, a9, a10, a11, a12, al⟩ := acO_facts HG2.out
      have HB5 := Lib.hid HB2.out.drew
      by_cases h1 : a.f4.f0 = a.f5.f0
      · have hd1 : (a.f4.f0 == a.f5.f0) = true := by rw [beq_iff_eq]; exact h1
        have H1 := Lib.hid h1
        clear h1
        go_wp2_with fail
        refine Txt.wp_region_text (by kernel_rfl) (by kernel_rfl) ?_
        repeat (first
          | (refine Txt.text_p (by rfl) rfl (fun K hK => ?_); go_big_quiet_op; refine hK _ ?_; clear hK K)
          | (refine Txt.text_r (by rfl) rfl (fun K hK => ?_); go_big_quiet_op; refine hK _ ?_; clear hK K)
          | (refine Txt.text_pass (by rfl) (by rfl) ?_; simp only [List.set_cons_succ, List.set_cons_zero]))
        refine Txt.text_a (by rfl) rfl (fun K hK => ?_)
        go_wp2_with fail
        refine (ord_any a.f4 a.f5 _).mono ?_
        rintro e w3 ⟨rfl, hb⟩
        have HB6 := Lib.hid (HB2.out.trans ((Txt.Bw.undrew hb).mono HB2.out.size))
        clear hb
        by_cases h2 : ord a.f4 a.f5 ≤ 0
        · have hres : emay a = true := by unfold emay; rw [HFL.out.1, HFL.out.2, decide_eq_true H1.out, decide_eq_true h2]; rfl
          have HRES := Lib.hid hres
          have hd2 : decide (ord a.f4 a.f5 ≤ 0) = true := decide_eq_true h2
          clear hres h2
          generalize ord a.f4 a.f5 = o at *
          go_wp2_with fail
          repeat (first
            | (refine Txt.text_p (by rfl) rfl (fun K hK => ?_); go_big_quiet_op; refine hK _ ?_; clear hK K)
            | (refine Txt.text_r (by rfl) rfl (fun K hK => ?_); go_big_quiet_op; refine hK _ ?_; clear hK K)
            | (refine Txt.text_pass (by rfl) (by rfl) ?_; simp only [List.set_cons_succ, List.set_cons_zero]))
          refine Txt.text_nil ?_
          go_wp2_with fail
          go_ret
          exact ⟨by rw [HRES.out]; rfl, HB6.out⟩
        · have hres : emay a = false := by unfold emay; rw [HFL.out.1, HFL.out.2, decide_eq_true H1.out, decide_eq_false h2]; rfl
          have HRES := Lib.hid hres
          have hd2 : decide (ord a.f4 a.f5 ≤ 0) = false := decide_eq_false h2
          clear hres h2
          generalize ord a.f4 a.f5 = o at *
          go_wp2_with fail
          repeat (first
            | (refine Txt.text_p (by rfl) rfl (fun K hK => ?_); go_big_quiet_op; refine hK _ ?_; clear hK K)
            | (refine Txt.text_r (by rfl) rfl (fun K hK => ?_); go_big_quiet_op; refine hK _ ?_; clear hK K)
            | (refine Txt.text_pass (by rfl) (by rfl) ?_; simp only [List.set_cons_succ, List.set_cons_zero]))
          refine Txt.text_nil ?_
          go_wp2_with fail
          go_ret
          exact ⟨by rw [HRES.out]; rfl, HB6.out⟩
      · have hd1 : (a.f4.f0 == a.f5.f0) = false := beq_eq_false_iff_ne.2 h1
        have hres : emay a = false := by unfold emay; rw [HFL.out.1, HFL.out.2, decide_eq_false h1]; rfl
        have HRES := Lib.hid hres
        clear hres h1
        go_wp2_with fail
        refine Txt.wp_region_text (by kernel_rfl) (by kernel_rfl) ?_
        repeat (first
          | (refine Txt.text_p (by rfl) rfl (fun K hK => ?_); go_big_quiet_op; refine hK _ ?_; clear hK K)
          | (refine Txt.text_r (by rfl) rfl (fun K hK => ?_); go_big_quiet_op; refine hK _ ?_; clear hK K)
          | (refine Txt.text_pass (by rfl) (by rfl) ?_; simp only [List.set_cons_succ, List.set_cons_zero]))
        refine Txt.text_nil ?_
        go_wp2_with fail
        go_ret
        exact ⟨by rw [HRES.out]; rfl, HB5.out⟩
end Go.Proofs.Ytggaefklcpbfnaa.My

namespace Go.Proofs.Ytggaefklcpbfnaa.My
open Go.RowKit Pa Go.Proofs.YtggaefklcpbfnaaW.PrintWords
attribute [local go_sem high] eqA26

def amay (a : S28) (bs : List Int) : Bool := bmay bs && (decide (a.f6.length ≤ bs.length + 1) && (hmay a.f6 bs.length a.f0 && (decide (0 ≤ a.f0) && (decide (a.f0 ≤ 8192) && (if a.f0 = 0 then bareB a else wm a.f2 && (wm a.f3 && (decide (a.f2 ≤ a.f3) && (emay a && (decide (a.f0 * a.f2 ≤ a.f1) && decide (a.f1 ≤ a.f0 * a.f3))))))))))
theorem mul_bound {c m : Int} (h1 : 0 ≤ c) (h2 : c ≤ 8192) (h3 : -1099511627776 ≤ m) (h4 : m ≤ 1099511627776) : -9007199254740992 ≤ c * m ∧ c * m ≤ 9007199254740992 := by
  have e1 := Int.mul_le_mul_of_nonneg_left h4 h1
  have e2 := Int.mul_le_mul_of_nonneg_left h3 h1
  omega
theorem wm_iff {x : Int} (h : wm x = true) : -1099511627776 ≤ x ∧ x ≤ 1099511627776 := by
  unfold wm at h
  rwa [decide_eq_true_eq] at h

set_option maxHeartbeats 8000000 in
set_option maxRecDepth 100000 in
theorem may_any (a : S28) (bs : List Int) (Ah : Option Addr) (ch : Nat) (A1 : Option Addr) (c1 : Nat) (w : World) (hh : RdI w Ah a.f6) (hr : RdI w A1 bs) (hc : bs.length ≤ c1) :
    Calls Try.prog 32 #[acV a (.slice Ah a.f6.length ch), .slice A1 bs.length c1] w fun e w' => e = .returned (.bool (amay a bs)) ∧ Below w.heap.size w w' := by
  have HA := Lib.hid hh
  have HR := Lib.hid hr
  have HC := Lib.hid hc
  have hB : Below w.heap.size w (w.alloc (acO a (.slice Ah a.f6.length ch))) := (Below.refl w.heap.size w).alloc (Nat.le_refl _) _
  have hg : (w.alloc (acO a (.slice Ah a.f6.length ch))).heap[w.heap.size]? = some (acO a (.slice Ah a.f6.length ch)) := heap_alloc_new w _
  have HB := Lib.hid hB
  have HG := Lib.hid hg
  clear hh hr hc hB hg
  unfold acV
  go_enter Try.func32, Try.ntmps32
  go_wp2_with fail
  show Calls _ _ _ (w.alloc (acO a (.slice Ah a.f6.length ch))) _
  generalize w.alloc (acO a (.slice Ah a.f6.length ch)) = w1 at *
  obtain ⟨a0, a1, a2, a3, a4, a5, a6, a7, a8, a9, a10, a11, a12, al⟩ := acO_facts HG.out
  refine (bm_any bs A1 c1 _ (Kd.C_below HR.out HB.out) HC.out).mono ?_
  rintro e w2 ⟨rfl, hb⟩
  replace HG := Lib.hid (blk_below HG.out hb)
  replace HB := Lib.hid (HB.out.trans (hb.mono HB.out.size))
  clear hb a0 a1 a2 a3 a4 a5 a6 a7 a8 a9 a10 a11 a12 al
  obtain ⟨a0, a1, a2, a3, a4, a5, a6, a7, a8, a9, a10, a11, a12, al⟩ := acO_facts HG.out
  by_cases hbm : bmay bs = true
  · have hb8 := bmay_len hbm
    have HBM := Lib.hid hbm
    rw [hbm]
    clear hbm
    by_cases hl : a.f6.length ≤ bs.length + 1
    · have HL := Lib.hid hl
      have hdl : decide ((bs.length : Int) + 1 < a.f6.length) = false := decide_eq_false (by omega)
      clear hl
      go_wp2_with fail
      refine (hist_any a w.heap.size Ah ch A1 c1 bs.length _ HG.out (Kd.C_below HA.out HB.out) (by have := HL.out; omega) hb8).mono ?_
      rintro e w3 ⟨rfl, hb⟩
      replace HG := Lib.hid (blk_below HG.out hb)
      replace HB := Lib.hid (HB.out.trans (hb.mono HB.out.size))
      clear hb a0 a1 a2 a3 a4 a5 a6 a7 a8 a9 a10 a11 a12 al
      obtain ⟨a0, a1, a2, a3, a4, a5, a6, a7, a8, a9, a10, a11, a12, al⟩ := acO_facts HG.out
      by_cases hm : hmay a.f6 bs.length a.f0 = true
      · have HHM := Lib.hid hm
        rw [hm]
        clear hm
        by_cases h0 : 0 ≤ a.f0
        · have hdc : decide (a.f0 < 0) = false := decide_eq_false (by omega)
          by_cases h9 : a.f0 ≤ 8192
          · have H0 := Lib.hid (And.intro h0 h9)
            have hdd : decide (8192 < a.f0) = false := decide_eq_false (by omega)
            clear h0 h9
            by_cases hz : a.f0 = 0
            · have hres : amay a bs = bareB a := by unfold amay; rw [HBM.out, decide_eq_true HL.out, HHM.out, decide_eq_true H0.out.1, decide_eq_true H0.out.2, if_pos hz]; rfl
              have HRES := Lib.hid hres
              clear hres
              have hzb : (a.f0 == 0) = true := by rw [beq_iff_eq]; exact hz
              clear hz
              go_wp2_with fail
              refine (bare_any a w.heap.size (.slice Ah a.f6.length ch) _ HG.out).mono ?_
              rintro e w4 ⟨rfl, hb⟩
              replace HG := Lib.hid (blk_below HG.out hb)
              replace HB := Lib.hid (HB.out.trans (hb.mono HB.out.size))
              clear hb a0 a1 a2 a3 a4 a5 a6 a7 a8 a9 a10 a11 a12 al
              obtain ⟨a0, a1, a2, a3, a4, a5, a6, a7, a8, a9, a10, a11, a12, al⟩ := acO_facts HG.out
              go_wp2_with fail
              go_ret
              exact ⟨by rw [HRES.out]; rfl, HB.out⟩
            · have HZ := Lib.hid hz
              have hzb : (a.f0 == 0) = false := beq_eq_false_iff_ne.2 hz
              clear hz
              go_wp2_with fail
              refine (wm_any a.f2 _).mono ?_
              rintro e w4 ⟨rfl, hb⟩
              replace HG := Lib.hid (blk_below HG.out hb)
              replace HB := Lib.hid (HB.out.trans (hb.mono HB.out.size))
              clear hb a0 a1 a2 a3 a4 a5 a6 a7 a8 a9 a10 a11 a12 al
              obtain ⟨a0, a1, a2, a3, a4, a5, a6, a7, a8, a9, a10, a11, a12, al⟩ := acO_facts HG.out
              by_cases hw2 : wm a.f2 = true
              · have HW1 := Lib.hid hw2
                rw [hw2]
                clear hw2
                go_wp2_with fail
                refine (wm_any a.f3 _).mono ?_
                rintro e w5 ⟨rfl, hb⟩
                replace HG := Lib.hid (blk_below HG.out hb)
                replace HB := Lib.hid (HB.out.trans (hb.mono HB.out.size))
                clear hb a0 a1 a2 a3 a4 a5 a6 a7 a8 a9 a10 a11 a12 al
                obtain ⟨a0, a1, a2, a3, a4, a5, a6, a7, a8, a9, a10, a11, a12, al⟩ := acO_facts HG.out
                by_cases hw3 : wm a.f3 = true
                · have HW2 := Lib.hid (And.intro HW1.out hw3)
                  have HW := Lib.hid (And.intro (wm_iff HW1.out) (wm_iff hw3))
                  rw [hw3]
                  clear hw3
                  by_cases ho : a.f2 ≤ a.f3
                  · have HO := Lib.hid ho
                    have hd1 : decide (a.f2 ≤ a.f3) = true := decide_eq_true ho
                    clear ho
                    go_wp2_with fail
                    refine (ends_any a w.heap.size (.slice Ah a.f6.length ch) _ HG.out).mono ?_
                    rintro e w6 ⟨rfl, hb⟩
                    replace HG := Lib.hid (blk_below HG.out hb)
                    replace HB := Lib.hid (HB.out.trans (hb.mono HB.out.size))
                    clear hb a0 a1 a2 a3 a4 a5 a6 a7 a8 a9 a10 a11 a12 al
                    obtain ⟨a0, a1, a2, a3, a4, a5, a6, a7, a8, a9, a10, a11, a12, al⟩ := acO_facts HG.out
                    by_cases he : emay a = true
                    · rw [he]
                      have HE := Lib.hid he
                      clear he
                      obtain ⟨m1, m2⟩ := mul_bound H0.out.1 H0.out.2 HW.out.1.1 HW.out.1.2
                      obtain ⟨m3, m4⟩ := mul_bound H0.out.1 H0.out.2 HW.out.2.1 HW.out.2.2
                      have hv1 : wrap64 (a.f0 * a.f2) = a.f0 * a.f2 := by unfold wrap64; omega
                      have hv2 : wrap64 (a.f0 * a.f3) = a.f0 * a.f3 := by unfold wrap64; omega
                      have hv3 : IntKind.i64.wrap (a.f0 * a.f2) = a.f0 * a.f2 := by rw [IntKind.wrap_i64]; omega
                      have hv4 : IntKind.i64.wrap (a.f0 * a.f3) = a.f0 * a.f3 := by rw [IntKind.wrap_i64]; omega
                      by_cases hs1 : a.f0 * a.f2 ≤ a.f1
                      · by_cases hs2 : a.f1 ≤ a.f0 * a.f3
                        · have hres : amay a bs = true := by unfold amay; rw [HBM.out, decide_eq_true HL.out, HHM.out, decide_eq_true H0.out.1, decide_eq_true H0.out.2, if_neg HZ.out, HW2.out.1, HW2.out.2, decide_eq_true HO.out, HE.out, decide_eq_true hs1, decide_eq_true hs2]; rfl
                          have HRES := Lib.hid hres
                          clear hres
                          have hd2 : decide (a.f0 * a.f2 ≤ a.f1) = true := decide_eq_true hs1
                          have hd3 : decide (a.f1 ≤ a.f0 * a.f3) = true := decide_eq_true hs2
                          clear hs1 hs2
                          go_wp2_with fail
                          go_ret
                          exact ⟨by rw [HRES.out]; rfl, HB.out⟩
                        · have hres : amay a bs = false := by unfold amay; rw [HBM.out, decide_eq_true HL.out, HHM.out, decide_eq_true H0.out.1, decide_eq_true H0.out.2, if_neg HZ.out, HW2.out.1, HW2.out.2, decide_eq_true HO.out, HE.out, decide_eq_true hs1, decide_eq_false hs2]; rfl
                          have HRES := Lib.hid hres
                          clear hres
                          have hd2 : decide (a.f0 * a.f2 ≤ a.f1) = true := decide_eq_true hs1
                          have hd3 : decide (a.f1 ≤ a.f0 * a.f3) = false := decide_eq_false hs2
                          clear hs1 hs2
                          go_wp2_with fail
                          go_ret
                          exact ⟨by rw [HRES.out]; rfl, HB.out⟩
                      · have hres : amay a bs = false := by unfold amay; rw [HBM.out, decide_eq_true HL.out, HHM.out, decide_eq_true H0.out.1, decide_eq_true H0.out.2, if_neg HZ.out, HW2.out.1, HW2.out.2, decide_eq_true HO.out, HE.out, decide_eq_false hs1]; rfl
                        have HRES := Lib.hid hres
                        clear hres
                        have hd2 : decide (a.f0 * a.f2 ≤ a.f1) = false := decide_eq_false hs1
                        clear hs1
                        go_wp2_with fail
                        go_ret
                        exact ⟨by rw [HRES.out]; rfl, HB.out⟩
                    · have he' := bne_ he
                      rw [he']
                      have hres : amay a bs = false := by unfold amay; rw [HBM.out, decide_eq_true HL.out, HHM.out, decide_eq_true H0.out.1, decide_eq_true H0.out.2, if_neg HZ.out, HW2.out.1, HW2.out.2, decide_eq_true HO.out, he']; rfl
                      have HRES := Lib.hid hres
                      clear hres
                      clear he he'
                      go_wp2_with fail
                      go_ret
                      exact ⟨by rw [HRES.out]; rfl, HB.out⟩
                  · have hres : amay a bs = false := by unfold amay; rw [HBM.out, decide_eq_true HL.out, HHM.out, decide_eq_true H0.out.1, decide_eq_true H0.out.2, if_neg HZ.out, HW2.out.1, HW2.out.2, decide_eq_false ho]; rfl
                    have HRES := Lib.hid hres
                    clear hres
                    have hd1 : decide (a.f2 ≤ a.f3) = false := decide_eq_false ho
                    clear ho
                    go_wp2_with fail
                    go_ret
                    exact ⟨by rw [HRES.out]; rfl, HB.out⟩
                · have hw3' := bne_ hw3
                  rw [hw3']
                  have hres : amay a bs = false := by unfold amay; rw [HBM.out, decide_eq_true HL.out, HHM.out, decide_eq_true H0.out.1, decide_eq_true H0.out.2, if_neg HZ.out, HW1.out, hw3']; rfl
                  have HRES := Lib.hid hres
                  clear hres
                  clear hw3 hw3'
                  go_wp2_with fail
                  go_ret
                  exact ⟨by rw [HRES.out]; rfl, HB.out⟩
              · have hw2' := bne_ hw2
                rw [hw2']
                have hres : amay a bs = false := by unfold amay; rw [HBM.out, decide_eq_true HL.out, HHM.out, decide_eq_true H0.out.1, decide_eq_true H0.out.2, if_neg HZ.out, hw2']; rfl
                have HRES := Lib.hid hres
                clear hres
                clear hw2 hw2'
                go_wp2_with fail
                go_ret
                exact ⟨by rw [HRES.out]; rfl, HB.out⟩
          · have hres : amay a bs = false := by unfold amay; rw [HBM.out, decide_eq_true HL.out, HHM.out, decide_eq_true h0, decide_eq_false h9]; rfl
            have HRES := Lib.hid hres
            clear hres
            have hdd : decide (8192 < a.f0) = true := decide_eq_true (by omega)
            clear h0 h9
            go_wp2_with fail
            go_ret
            exact ⟨by rw [HRES.out]; rfl, HB.out⟩
        · have hres : amay a bs = false := by unfold amay; rw [HBM.out, decide_eq_true HL.out, HHM.out, decide_eq_false h0]; rfl
          have HRES := Lib.hid hres
          clear hres
          have hdc : decide (a.f0 < 0) = true := decide_eq_true (by omega)
          clear h0
          go_wp2_with fail
          go_ret
          exact ⟨by rw [HRES.out]; rfl, HB.out⟩
      · have hm' := bne_ hm
        rw [hm']
        have hres : amay a bs = false := by unfold amay; rw [HBM.out, decide_eq_true HL.out, hm']; rfl
        have HRES := Lib.hid hres
        clear hres
        clear hm hm'
        go_wp2_with fail
        go_ret
        exact ⟨by rw [HRES.out]; rfl, HB.out⟩
    · have hres : amay a bs = false := by unfold amay; rw [HBM.out, decide_eq_false hl]; rfl
      have HRES := Lib.hid hres
      clear hres
      have hdl : decide ((bs.length : Int) + 1 < a.f6.length) = true := decide_eq_true (by omega)
      clear hl
      go_wp2_with fail
      go_ret
      exact ⟨by rw [HRES.out]; rfl, HB.out⟩
  · have hbm' := bne_ hbm
    rw [hbm']
    have hres : amay a bs = false := by unfold amay; rw [hbm']; rfl
    have HRES := Lib.hid hres
    clear hres
    clear hbm hbm'
    go_wp2_with fail
    go_ret
    exact ⟨by rw [HRES.out]; rfl, HB.out⟩
end Go.Proofs.Ytggaefklcpbfnaa.My

namespace Go.Proofs.Ytggaefklcpbfnaa.My
open Go.RowKit Pa Go.Proofs.YtggaefklcpbfnaaW.PrintWords

structure Fit (bs : List Int) (a : S28) : Prop where
  bm : bmay bs = true
  c : 0 ≤ a.f0 ∧ a.f0 ≤ 8192
  s : -1099511627776 * a.f0 ≤ a.f1 ∧ a.f1 ≤ 1099511627776 * a.f0
  len : a.f6.length = bs.length + 1
  h : ∀ i, i < a.f6.length → 0 ≤ a.f6.getD i 0 ∧ a.f6.getD i 0 ≤ a.f0

theorem sum_ge {h : List Int} (ha : ∀ x ∈ h, 0 ≤ x) : 0 ≤ h.sum ∧ ∀ i, i < h.length → h.getD i 0 ≤ h.sum := by
  induction h with
  | nil => exact ⟨by simp, fun i hi => absurd hi (by simp)⟩
  | cons x r ih =>
    obtain ⟨h1, h2⟩ := ih (fun y hy => ha y (List.mem_cons_of_mem _ hy))
    have h3 := ha x (List.mem_cons_self ..)
    rw [List.sum_cons]
    refine ⟨by omega, fun i hi => ?_⟩
    cases i with
    | zero => simp; omega
    | succ i =>
      have := h2 i (by simpa using hi)
      simp only [List.getD_cons_succ]
      omega
theorem getD_mem {h : List Int} {i : Nat} (hi : i < h.length) : h.getD i 0 ∈ h := by
  rw [List.getD_eq_getElem?_getD, List.getElem?_eq_getElem hi, Option.getD_some]
  exact List.getElem_mem hi
theorem mul_le {c m : Int} (h1 : 0 ≤ c) (h4 : m ≤ 1099511627776) : c * m ≤ 1099511627776 * c := by
  have e1 := Int.mul_le_mul_of_nonneg_left h4 h1
  omega
theorem mul_ge {c m : Int} (h1 : 0 ≤ c) (h4 : -1099511627776 ≤ m) : -1099511627776 * c ≤ c * m := by
  have e1 := Int.mul_le_mul_of_nonneg_left h4 h1
  omega

theorem amay_fit {a : S28} {bs : List Int} (h : amay a bs = true) : Fit bs a := by
  unfold amay at h
  simp only [Bool.and_eq_true, decide_eq_true_eq] at h
  obtain ⟨hb, hl, hh, h0, h8, hr⟩ := h
  unfold hmay at hh
  simp only [Bool.and_eq_true, decide_eq_true_eq, List.all_eq_true] at hh
  obtain ⟨⟨hn, hlen⟩, hs⟩ := hh
  have hnn : ∀ x ∈ a.f6, 0 ≤ x := fun x hx => by
    have := hn x hx
    unfold nok at this
    rw [decide_eq_true_eq] at this
    exact this.1
  obtain ⟨g1, g2⟩ := sum_ge hnn
  refine ⟨hb, ⟨h0, h8⟩, ?_, hlen, fun i hi => ⟨hnn _ (getD_mem hi), by rw [← hs]; exact g2 i hi⟩⟩
  by_cases hz : a.f0 = 0
  · rw [if_pos hz] at hr
    unfold bareB at hr
    simp only [Bool.and_eq_true, beq_iff_eq] at hr
    omega
  · rw [if_neg hz] at hr
    simp only [Bool.and_eq_true, decide_eq_true_eq] at hr
    obtain ⟨hw2, hw3, _, _, hs1, hs2⟩ := hr
    have w2 := wm_iff hw2
    have w3 := wm_iff hw3
    exact ⟨Int.le_trans (mul_ge h0 w2.1) hs1, Int.le_trans hs2 (mul_le h0 w3.2)⟩
end Go.Proofs.Ytggaefklcpbfnaa.My

namespace Go.Proofs.Ytggaefklcpbfnaa.My
open Go.RowKit Pa Go.Proofs.YtggaefklcpbfnaaW.PrintWords

def tabO : Obj := .cells #[.func (.func 60) #[] #[], .func (.func 61) #[] #[], .func (.func 62) #[] #[], .func (.func 63) #[] #[], .func (.func 64) #[] #[], .func (.func 65) #[] #[], .func (.func 66) #[] #[], .func (.func 67) #[] #[]] 69
theorem tabO_facts {w : World} {b : Nat} (h : w.heap[b]? = some tabO) : w.cell? ⟨b, 0, none⟩ = some (.func (.func 60) #[] #[]) ∧ w.cell? ⟨b, 1, none⟩ = some (.func (.func 61) #[] #[]) ∧ w.cell? ⟨b, 2, none⟩ = some (.func (.func 62) #[] #[]) ∧ w.cell? ⟨b, 3, none⟩ = some (.func (.func 63) #[] #[]) ∧ w.cell? ⟨b, 4, none⟩ = some (.func (.func 64) #[] #[]) ∧ w.cell? ⟨b, 5, none⟩ = some (.func (.func 65) #[] #[]) ∧ w.cell? ⟨b, 6, none⟩ = some (.func (.func 66) #[] #[]) ∧ w.cell? ⟨b, 7, none⟩ = some (.func (.func 67) #[] #[]) :=
  ⟨(blk_cell h 0).trans rfl, (blk_cell h 1).trans rfl, (blk_cell h 2).trans rfl, (blk_cell h 3).trans rfl, (blk_cell h 4).trans rfl, (blk_cell h 5).trans rfl, (blk_cell h 6).trans rfl, (blk_cell h 7).trans rfl⟩
set_option maxHeartbeats 2000000 in
set_option maxRecDepth 100000 in
theorem table_any (w : World) :
    Calls Try.prog 40 #[] w fun e w' => e = .returned (.slice (some ⟨w.heap.size, 0, none⟩) 8 8) ∧ w' = w.alloc tabO := by
  go_enter Try.func40, Try.ntmps40
  go_wp2_with fail
  go_ret
  exact ⟨rfl, rfl⟩

def lowOut (q : Qy) (bs : List Int) (a : S28) : Int × Bool × List Int :=
  if q.agg = 0 then (a.f0, false, []) else if q.agg = 1 then (sumVal a.f1, sumOver a.f1, []) else if q.agg = 2 then (a.f2, false, []) else if q.agg = 3 then (a.f3, false, []) else if q.agg = 4 then (a.f4.f3, false, []) else if q.agg = 5 then (a.f5.f3, false, []) else if q.agg = 6 then (0, false, a.f6) else (rankGo a.f6 bs a.f3 bs.length 0 (rankK q.rank a.f0), false, [])
def valMay (q : Qy) (bs : List Int) (a : S28) : Bool := decide (0 ≤ q.agg) && (decide (q.agg < 8) && (decide (0 ≤ q.rank) && (decide (q.rank ≤ 1000) && (amay a bs && (!decide (a.f0 = 0) && !(decide (q.agg = 7) && decide (bs.length = 0)))))))
def valRes (q : Qy) (bs : List Int) (a : S28) : (Int × Bool × List Int) × Int := if valMay q bs a = true then (lowOut q bs a, 0) else ((0, false, []), 200)
theorem results_val {fn : Func} {p u : Tmp} (h : fn.results = #[.cell p 31, .tmp u]) (tmps : Array Value) (w : World) (g : Nat) (n : Int) (o : Bool) (v : Value) (hp : tmps.getD p undef = .pointer (some ⟨g, 0, none⟩)) (hg : w.heap[g]? = some (ouO n o v)) :
    (results fn tmps).run Try.prog w = .ok (.tuple #[ouV n o v, tmps.getD u undef]) w :=
  results_ct h tmps w g 31 _ (0, 0) _ hp hg Try.underlying31 rfl (by kernel_rfl)

theorem Own.lower {w : World} {b b1 : Nat} {v : Value} {l : List Int} (h : Own w b v l) (hb : b1 ≤ b) : Own w b1 v l := own_lower h hb
set_option maxHeartbeats 8000000 in
set_option maxRecDepth 100000 in
theorem value_any (q : Qy) (bs : List Int) (a : S28) (A1 : Option Addr) (c1 : Nat) (Ah : Option Addr) (ch : Nat) (w : World) (hr : RdI w A1 bs) (hc : bs.length ≤ c1) (hh : RdI w Ah a.f6) (hch : a.f6.length ≤ ch) :
    Calls Try.prog 17 #[.agg #[.int .i64 q.k, .int .i64 q.agg, .int .i64 q.size, .int .i64 q.slide, .slice A1 bs.length c1, .int .i64 q.rank], acV a (.slice Ah a.f6.length ch)] w fun e w' => ∃ v, e = .returned (.tuple #[ouV (valRes q bs a).1.1 (valRes q bs a).1.2.1 v, .int .i64 (valRes q bs a).2]) ∧ Own w' w.heap.size v (valRes q bs a).1.2.2 ∧ Below w.heap.size w w' := by
  have hB : Below w.heap.size w (((w.alloc (quO q (.slice A1 bs.length c1))).alloc (acO a (.slice Ah a.f6.length ch))).alloc (ouO 0 false (.slice none 0 0))) := (((Below.refl w.heap.size w).alloc (Nat.le_refl _) _).alloc (by simp) _).alloc (by simp; omega) _
  have hq0 : (((w.alloc (quO q (.slice A1 bs.length c1))).alloc (acO a (.slice Ah a.f6.length ch))).alloc (ouO 0 false (.slice none 0 0))).heap[w.heap.size]? = some (quO q (.slice A1 bs.length c1)) := blk_below (heap_alloc_new w _) (((Below.refl _ _).alloc (Nat.le_refl _) _).alloc (by simp) _)
  have ha0 : (((w.alloc (quO q (.slice A1 bs.length c1))).alloc (acO a (.slice Ah a.f6.length ch))).alloc (ouO 0 false (.slice none 0 0))).heap[w.heap.size + 1]? = some (acO a (.slice Ah a.f6.length ch)) := by
    have := blk_below (heap_alloc_new (w.alloc (quO q (.slice A1 bs.length c1))) (acO a (.slice Ah a.f6.length ch))) ((Below.refl _ _).alloc (Nat.le_refl _) (ouO 0 false (.slice none 0 0)))
    simpa using this
  have ho0 : (((w.alloc (quO q (.slice A1 bs.length c1))).alloc (acO a (.slice Ah a.f6.length ch))).alloc (ouO 0 false (.slice none 0 0))).heap[w.heap.size + 2]? = some (ouO 0 false (.slice none 0 0)) := by
    have := heap_alloc_new ((w.alloc (quO q (.slice A1 bs.length c1))).alloc (acO a (.slice Ah a.f6.length ch))) (ouO 0 false (.slice none 0 0))
    simpa using this
  have hs0 : (((w.alloc (quO q (.slice A1 bs.length c1))).alloc (acO a (.slice Ah a.f6.length ch))).alloc (ouO 0 false (.slice none 0 0))).heap.size = w.heap.size + 3 := by simp
  have HR := Lib.hid hr
  have HC := Lib.hid hc
  have HH := Lib.hid hh
  have HCH := Lib.hid hch
  have HB := Lib.hid hB
  have HQ := Lib.hid hq0
  have HA := Lib.hid ha0
  have HO := Lib.hid ho0
  have HS := Lib.hid hs0
  clear hr hc hh hch hB hq0 ha0 ho0 hs0
  obtain ⟨qk, agg, qs, ql, rank⟩ := q
  unfold acV
  go_enter Try.func17, Try.ntmps17
  go_wp2_with fail
  show Calls _ _ _ (((w.alloc (quO ⟨qk, agg, qs, ql, rank⟩ (.slice A1 bs.length c1))).alloc (acO a (.slice Ah a.f6.length ch))).alloc (ouO 0 false (.slice none 0 0))) _
  generalize ((w.alloc (quO ⟨qk, agg, qs, ql, rank⟩ (.slice A1 bs.length c1))).alloc (acO a (.slice Ah a.f6.length ch))).alloc (ouO 0 false (.slice none 0 0)) = w3 at *
  refine (table_any w3).mono ?_
  rintro e w4 ⟨rfl, rfl⟩
  have hb4 : Below w3.heap.size w3 (w3.alloc tabO) := (Below.refl _ _).alloc (Nat.le_refl _) _
  have HT := Lib.hid (show (w3.alloc tabO).heap[w.heap.size + 3]? = some tabO by rw [← HS.out]; exact heap_alloc_new w3 tabO)
  have HQ4 := Lib.hid (blk_below HQ.out hb4)
  have HA4 := Lib.hid (blk_below HA.out hb4)
  have HO4 := Lib.hid (blk_below HO.out hb4)
  have HB4 := Lib.hid (HB.out.trans (hb4.mono HB.out.size))
  rw [HS.out]
  clear HB HQ HA HO hb4 HS
  generalize w3.alloc tabO = w4 at *
  obtain ⟨q0, q1, q2, q3, q4, q5, qlt⟩ := quO_facts HQ4.out
  obtain ⟨a0, a1, a2, a3, a4, a5, a6, a7, a8, a9, a10, a11, a12, al⟩ := acO_facts HA4.out
  obtain ⟨z0, z1, z2, zl⟩ := ouO_facts HO4.out
  have hf := fun j => blk_free HO4.out j
  simp only at q0 q1 q2 q3 q4 q5
  by_cases h0 : agg < 0
  · have hd0 : decide (agg < 0) = true := decide_eq_true h0
    have HRES := Lib.hid (show valRes ⟨qk, agg, qs, ql, rank⟩ bs a = ((0, false, []), 200) by unfold valRes; rw [if_neg (by unfold valMay; simp only [Bool.and_eq_true, decide_eq_true_eq, Bool.not_eq_true', decide_eq_false_iff_not, Bool.and_eq_false_imp]; intro hx; omega)])
    go_wp2_with fail
    refine bodyPost_ret (results_val rfl _ _ (w.heap.size + 2) 0 false (.slice none 0 0) rfl (ouO_put HO4.out)) rfl ?_
    have hcg := ouO_chg w4 (w.heap.size + 2) 0 false (.slice none 0 0)
    exact ⟨.slice none 0 0, by rw [HRES.out]; rfl, by rw [HRES.out]; exact Own.nil _ _, Chg.base HB4.out hcg HB4.out.size (fun i hi => by omega)⟩
  · have hd0 : decide (agg < 0) = false := decide_eq_false h0
    by_cases h1 : 8 ≤ agg
    · have hd1 : decide (8 ≤ agg) = true := decide_eq_true h1
      have HRES := Lib.hid (show valRes ⟨qk, agg, qs, ql, rank⟩ bs a = ((0, false, []), 200) by unfold valRes; rw [if_neg (by unfold valMay; simp only [Bool.and_eq_true, decide_eq_true_eq, Bool.not_eq_true', decide_eq_false_iff_not, Bool.and_eq_false_imp]; intro hx; omega)])
      go_wp2_with fail
      refine bodyPost_ret (results_val rfl _ _ (w.heap.size + 2) 0 false (.slice none 0 0) rfl (ouO_put HO4.out)) rfl ?_
      have hcg := ouO_chg w4 (w.heap.size + 2) 0 false (.slice none 0 0)
      exact ⟨.slice none 0 0, by rw [HRES.out]; rfl, by rw [HRES.out]; exact Own.nil _ _, Chg.base HB4.out hcg HB4.out.size (fun i hi => by omega)⟩
    · have hd1 : decide (8 ≤ agg) = false := decide_eq_false h1
      by_cases h2 : rank < 0
      · have hd2 : decide (rank < 0) = true := decide_eq_true h2
        have HRES := Lib.hid (show valRes ⟨qk, agg, qs, ql, rank⟩ bs a = ((0, false, []), 200) by unfold valRes; rw [if_neg (by unfold valMay; simp only [Bool.and_eq_true, decide_eq_true_eq, Bool.not_eq_true', decide_eq_false_iff_not, Bool.and_eq_false_imp]; intro hx; omega)])
        go_wp2_with fail
        refine bodyPost_ret (results_val rfl _ _ (w.heap.size + 2) 0 false (.slice none 0 0) rfl (ouO_put HO4.out)) rfl ?_
        have hcg := ouO_chg w4 (w.heap.size + 2) 0 false (.slice none 0 0)
        exact ⟨.slice none 0 0, by rw [HRES.out]; rfl, by rw [HRES.out]; exact Own.nil _ _, Chg.base HB4.out hcg HB4.out.size (fun i hi => by omega)⟩
      · have hd2 : decide (rank < 0) = false := decide_eq_false h2
        by_cases h3 : 1000 < rank
        · have hd3 : decide (1000 < rank) = true := decide_eq_true h3
          have HRES := Lib.hid (show valRes ⟨qk, agg, qs, ql, rank⟩ bs a = ((0, false, []), 200) by unfold valRes; rw [if_neg (by unfold valMay; simp only [Bool.and_eq_true, decide_eq_true_eq, Bool.not_eq_true', decide_eq_false_iff_not, Bool.and_eq_false_imp]; intro hx; omega)])
          go_wp2_with fail
          refine bodyPost_ret (results_val rfl _ _ (w.heap.size + 2) 0 false (.slice none 0 0) rfl (ouO_put HO4.out)) rfl ?_
          have hcg := ouO_chg w4 (w.heap.size + 2) 0 false (.slice none 0 0)
          exact ⟨.slice none 0 0, by rw [HRES.out]; rfl, by rw [HRES.out]; exact Own.nil _ _, Chg.base HB4.out hcg HB4.out.size (fun i hi => by omega)⟩
        · have hd3 : decide (1000 < rank) = false := decide_eq_false h3
          go_wp2_with fail
          clear q0 q1 q2 q3 q4 q5 qlt a0 a1 a2 a3 a4 a5 a6 a7 a8 a9 a10 a11 a12 al z0 z1 z2 zl hf
          refine (may_any a bs Ah ch A1 c1 _ (Kd.C_below HH.out HB4.out) (Kd.C_below HR.out HB4.out) HC.out).mono ?_
          rintro e w5 ⟨rfl, hb⟩
          have HT5 := Lib.hid (blk_below HT.out hb)
          have HQ5 := Lib.hid (blk_below HQ4.out hb)
          have HA5 := Lib.hid (blk_below HA4.out hb)
          have HO5 := Lib.hid (blk_below HO4.out hb)
          have HB5 := Lib.hid (HB4.out.trans (hb.mono HB4.out.size))
          clear hb HT HQ4 HA4 HO4 HB4
          obtain ⟨q0, q1, q2, q3, q4, q5, qlt⟩ := quO_facts HQ5.out
          obtain ⟨a0, a1, a2, a3, a4, a5, a6, a7, a8, a9, a10, a11, a12, al⟩ := acO_facts HA5.out
          obtain ⟨z0, z1, z2, zl⟩ := ouO_facts HO5.out
          obtain ⟨t0, t1, t2, t3, t4, t5, t6, t7⟩ := tabO_facts HT5.out
          have hf := fun j => blk_free HO5.out j
          simp only at q0 q1 q2 q3 q4 q5
          by_cases hm : amay a bs = true
          rotate_left 1
          · have hm' := bne_ hm
            rw [hm']
            have HRES := Lib.hid (show valRes ⟨qk, agg, qs, ql, rank⟩ bs a = ((0, false, []), 200) by unfold valRes; rw [if_neg (by unfold valMay; simp only [Bool.and_eq_true, decide_eq_true_eq, Bool.not_eq_true', decide_eq_false_iff_not, Bool.and_eq_false_imp]; intro hx; exact hm hx.2.2.2.2.1)])
            go_wp2_with fail
            refine bodyPost_ret (results_val rfl _ _ (w.heap.size + 2) 0 false (.slice none 0 0) rfl (ouO_put HO5.out)) rfl ?_
            have hcg := ouO_chg w5 (w.heap.size + 2) 0 false (.slice none 0 0)
            exact ⟨.slice none 0 0, by rw [HRES.out]; rfl, by rw [HRES.out]; exact Own.nil _ _, Chg.base HB5.out hcg HB5.out.size (fun i hi => by omega)⟩
          · rw [hm]
            have HM := Lib.hid hm
            have HF := Lib.hid (amay_fit hm)
            clear hm
            by_cases h5 : a.f0 = 0
            · have hd5 : (a.f0 == 0) = true := by rw [beq_iff_eq]; exact h5
              have H5 := Lib.hid h5
              clear h5
              have HRES := Lib.hid (show valRes ⟨qk, agg, qs, ql, rank⟩ bs a = ((0, false, []), 200) by unfold valRes; rw [if_neg (by unfold valMay; simp only [Bool.and_eq_true, decide_eq_true_eq, Bool.not_eq_true', decide_eq_false_iff_not, Bool.and_eq_false_imp]; intro hx; exact hx.2.2.2.2.2.1 H5.out)])
              go_wp2_with fail
              refine bodyPost_ret (results_val rfl _ _ (w.heap.size + 2) 0 false (.slice none 0 0) rfl (ouO_put HO5.out)) rfl ?_
              have hcg := ouO_chg w5 (w.heap.size + 2) 0 false (.slice none 0 0)
              exact ⟨.slice none 0 0, by rw [HRES.out]; rfl, by rw [HRES.out]; exact Own.nil _ _, Chg.base HB5.out hcg HB5.out.size (fun i hi => by omega)⟩
            · have hd5 : (a.f0 == 0) = false := beq_eq_false_iff_ne.2 h5
              have H5 := Lib.hid h5
              clear h5
              by_cases h6 : agg = 7 ∧ bs.length = 0
              · obtain ⟨h6, h7⟩ := h6
                subst h6
                have hd6 : ((bs.length : Int) == 0) = true := by rw [beq_iff_eq]; omega
                have H7 := Lib.hid h7
                clear h7
                have HRES := Lib.hid (show valRes ⟨qk, 7, qs, ql, rank⟩ bs a = ((0, false, []), 200) by unfold valRes; rw [if_neg (by unfold valMay; simp only [Bool.and_eq_true, decide_eq_true_eq, Bool.not_eq_true', decide_eq_false_iff_not, Bool.and_eq_false_imp]; intro hx; exact hx.2.2.2.2.2.2 trivial H7.out)])
                go_wp2_with fail
                refine bodyPost_ret (results_val rfl _ _ (w.heap.size + 2) 0 false (.slice none 0 0) rfl (ouO_put HO5.out)) rfl ?_
                have hcg := ouO_chg w5 (w.heap.size + 2) 0 false (.slice none 0 0)
                exact ⟨.slice none 0 0, by rw [HRES.out]; rfl, by rw [HRES.out]; exact Own.nil _ _, Chg.base HB5.out hcg HB5.out.size (fun i hi => by omega)⟩
              · have HRES := Lib.hid (show valRes ⟨qk, agg, qs, ql, rank⟩ bs a = (lowOut ⟨qk, agg, qs, ql, rank⟩ bs a, 0) by unfold valRes; rw [if_pos (by unfold valMay; simp only [Bool.and_eq_true, decide_eq_true_eq, Bool.not_eq_true', decide_eq_false_iff_not, Bool.and_eq_false_imp]; exact ⟨by omega, by omega, by omega, by omega, HM.out, H5.out, fun e1 e2 => h6 ⟨e1, e2⟩⟩)])
                rcases (by omega : agg = 0 ∨ agg = 1 ∨ agg = 2 ∨ agg = 3 ∨ agg = 4 ∨ agg = 5 ∨ agg = 6 ∨ agg = 7) with rfl | rfl | rfl | rfl | rfl | rfl | rfl | rfl
                · clear hd0 hd1 h0 h1 h6
                  go_wp2_with fail
                  clear q0 q1 q2 q3 q4 q5 qlt a0 a1 a2 a3 a4 a5 a6 a7 a8 a9 a10 a11 a12 al z0 z1 z2 zl t0 t1 t2 t3 t4 t5 t6 t7 hf
                  refine (low_count_any a _ w.heap.size (w.heap.size + 1) _ HA5.out).mono ?_
                  rintro e w6 ⟨rfl, hb⟩
                  have hz6 := blk_below HO5.out hb
                  have HB6 := Lib.hid (HB5.out.trans (hb.mono HB5.out.size))
                  obtain ⟨z0, z1, z2, zl⟩ := ouO_facts hz6
                  have hf := fun j => blk_free hz6 j
                  have HZ6 := Lib.hid hz6
                  clear hz6
                  clear hb
                  obtain ⟨tn, htn⟩ : ∃ n : Int, n = a.f0 := ⟨_, rfl⟩
                  obtain ⟨tb, htb⟩ : ∃ b : Bool, b = false := ⟨_, rfl⟩
                  unfold ouV
                  rw [← htn]
                  subst htb
                  have HTN := Lib.hid htn
                  clear htn
                  go_wp2_with fail
                  refine bodyPost_ret (results_val rfl _ _ (w.heap.size + 2) tn false (.slice none 0 0) rfl (ouO_put HZ6.out)) rfl ?_
                  have hcg := ouO_chg w6 (w.heap.size + 2) tn false (.slice none 0 0)
                  exact ⟨(.slice none 0 0), by rw [HRES.out, HTN.out]; rfl, by rw [HRES.out]; exact Own.nil _ _, Chg.base HB6.out hcg HB6.out.size (fun i hi => by omega)⟩
                · clear hd0 hd1 h0 h1 h6
                  go_wp2_with fail
                  clear q0 q1 q2 q3 q4 q5 qlt a0 a1 a2 a3 a4 a5 a6 a7 a8 a9 a10 a11 a12 al z0 z1 z2 zl t0 t1 t2 t3 t4 t5 t6 t7 hf
                  refine (low_sum_any a _ w.heap.size (w.heap.size + 1) _ HA5.out).mono ?_
                  rintro e w6 ⟨rfl, hb⟩
                  have hz6 := blk_below HO5.out hb
                  have HB6 := Lib.hid (HB5.out.trans (hb.mono HB5.out.size))
                  obtain ⟨z0, z1, z2, zl⟩ := ouO_facts hz6
                  have hf := fun j => blk_free hz6 j
                  have HZ6 := Lib.hid hz6
                  clear hz6
                  clear hb
                  obtain ⟨tn, htn⟩ : ∃ n : Int, n = (sumVal a.f1) := ⟨_, rfl⟩
                  obtain ⟨tb, htb⟩ : ∃ b : Bool, b = (sumOver a.f1) := ⟨_, rfl⟩
                  unfold ouV
                  rw [← htn]
                  rw [← htb]
                  have HTN := Lib.hid htn
                  clear htn
                  have HTB := Lib.hid htb
                  clear htb
                  go_wp2_with fail
                  refine bodyPost_ret (results_val rfl _ _ (w.heap.size + 2) tn tb (.slice none 0 0) rfl (ouO_put HZ6.out)) rfl ?_
                  have hcg := ouO_chg w6 (w.heap.size + 2) tn tb (.slice none 0 0)
                  exact ⟨(.slice none 0 0), by rw [HRES.out, HTN.out, HTB.out]; rfl, by rw [HRES.out]; exact Own.nil _ _, Chg.base HB6.out hcg HB6.out.size (fun i hi => by omega)⟩
                · clear hd0 hd1 h0 h1 h6
                  go_wp2_with fail
                  clear q0 q1 q2 q3 q4 q5 qlt a0 a1 a2 a3 a4 a5 a6 a7 a8 a9 a10 a11 a12 al z0 z1 z2 zl t0 t1 t2 t3 t4 t5 t6 t7 hf
                  refine (low_least_any a _ w.heap.size (w.heap.size + 1) _ HA5.out).mono ?_
                  rintro e w6 ⟨rfl, hb⟩
                  have hz6 := blk_below HO5.out hb
                  have HB6 := Lib.hid (HB5.out.trans (hb.mono HB5.out.size))
                  obtain ⟨z0, z1, z2, zl⟩ := ouO_facts hz6
                  have hf := fun j => blk_free hz6 j
                  have HZ6 := Lib.hid hz6
                  clear hz6
                  clear hb
                  obtain ⟨tn, htn⟩ : ∃ n : Int, n = a.f2 := ⟨_, rfl⟩
                  obtain ⟨tb, htb⟩ : ∃ b : Bool, b = false := ⟨_, rfl⟩
                  unfold ouV
                  rw [← htn]
                  subst htb
                  have HTN := Lib.hid htn
                  clear htn
                  go_wp2_with fail
                  refine bodyPost_ret (results_val rfl _ _ (w.heap.size + 2) tn false (.slice none 0 0) rfl (ouO_put HZ6.out)) rfl ?_
                  have hcg := ouO_chg w6 (w.heap.size + 2) tn false (.slice none 0 0)
                  exact ⟨(.slice none 0 0), by rw [HRES.out, HTN.out]; rfl, by rw [HRES.out]; exact Own.nil _ _, Chg.base HB6.out hcg HB6.out.size (fun i hi => by omega)⟩
                · clear hd0 hd1 h0 h1 h6
                  go_wp2_with fail
                  clear q0 q1 q2 q3 q4 q5 qlt a0 a1 a2 a3 a4 a5 a6 a7 a8 a9 a10 a11 a12 al z0 z1 z2 zl t0 t1 t2 t3 t4 t5 t6 t7 hf
                  refine (low_greatest_any a _ w.heap.size (w.heap.size + 1) _ HA5.out).mono ?_
                  rintro e w6 ⟨rfl, hb⟩
                  have hz6 := blk_below HO5.out hb
                  have HB6 := Lib.hid (HB5.out.trans (hb.mono HB5.out.size))
                  obtain ⟨z0, z1, z2, zl⟩ := ouO_facts hz6
                  have hf := fun j => blk_free hz6 j
                  have HZ6 := Lib.hid hz6
                  clear hz6
                  clear hb
                  obtain ⟨tn, htn⟩ : ∃ n : Int, n = a.f3 := ⟨_, rfl⟩
                  obtain ⟨tb, htb⟩ : ∃ b : Bool, b = false := ⟨_, rfl⟩
                  unfold ouV
                  rw [← htn]
                  subst htb
                  have HTN := Lib.hid htn
                  clear htn
                  go_wp2_with fail
                  refine bodyPost_ret (results_val rfl _ _ (w.heap.size + 2) tn false (.slice none 0 0) rfl (ouO_put HZ6.out)) rfl ?_
                  have hcg := ouO_chg w6 (w.heap.size + 2) tn false (.slice none 0 0)
                  exact ⟨(.slice none 0 0), by rw [HRES.out, HTN.out]; rfl, by rw [HRES.out]; exact Own.nil _ _, Chg.base HB6.out hcg HB6.out.size (fun i hi => by omega)⟩
                · clear hd0 hd1 h0 h1 h6
                  go_wp2_with fail
                  clear q0 q1 q2 q3 q4 q5 qlt a0 a1 a2 a3 a4 a5 a6 a7 a8 a9 a10 a11 a12 al z0 z1 z2 zl t0 t1 t2 t3 t4 t5 t6 t7 hf
                  refine (low_first_any a _ w.heap.size (w.heap.size + 1) _ HA5.out).mono ?_
                  rintro e w6 ⟨rfl, hb⟩
                  have hz6 := blk_below HO5.out hb
                  have HB6 := Lib.hid (HB5.out.trans (hb.mono HB5.out.size))
                  obtain ⟨z0, z1, z2, zl⟩ := ouO_facts hz6
                  have hf := fun j => blk_free hz6 j
                  have HZ6 := Lib.hid hz6
                  clear hz6
                  clear hb
                  obtain ⟨tn, htn⟩ : ∃ n : Int, n = a.f4.f3 := ⟨_, rfl⟩
                  obtain ⟨tb, htb⟩ : ∃ b : Bool, b = false := ⟨_, rfl⟩
                  unfold ouV
                  rw [← htn]
                  subst htb
                  have HTN := Lib.hid htn
                  clear htn
                  go_wp2_with fail
                  refine bodyPost_ret (results_val rfl _ _ (w.heap.size + 2) tn false (.slice none 0 0) rfl (ouO_put HZ6.out)) rfl ?_
                  have hcg := ouO_chg w6 (w.heap.size + 2) tn false (.slice none 0 0)
                  exact ⟨(.slice none 0 0), by rw [HRES.out, HTN.out]; rfl, by rw [HRES.out]; exact Own.nil _ _, Chg.base HB6.out hcg HB6.out.size (fun i hi => by omega)⟩
                · clear hd0 hd1 h0 h1 h6
                  go_wp2_with fail
                  clear q0 q1 q2 q3 q4 q5 qlt a0 a1 a2 a3 a4 a5 a6 a7 a8 a9 a10 a11 a12 al z0 z1 z2 zl t0 t1 t2 t3 t4 t5 t6 t7 hf
                  refine (low_last_any a _ w.heap.size (w.heap.size + 1) _ HA5.out).mono ?_
                  rintro e w6 ⟨rfl, hb⟩
                  have hz6 := blk_below HO5.out hb
                  have HB6 := Lib.hid (HB5.out.trans (hb.mono HB5.out.size))
                  obtain ⟨z0, z1, z2, zl⟩ := ouO_facts hz6
                  have hf := fun j => blk_free hz6 j
                  have HZ6 := Lib.hid hz6
                  clear hz6
                  clear hb
                  obtain ⟨tn, htn⟩ : ∃ n : Int, n = a.f5.f3 := ⟨_, rfl⟩
                  obtain ⟨tb, htb⟩ : ∃ b : Bool, b = false := ⟨_, rfl⟩
                  unfold ouV
                  rw [← htn]
                  subst htb
                  have HTN := Lib.hid htn
                  clear htn
                  go_wp2_with fail
                  refine bodyPost_ret (results_val rfl _ _ (w.heap.size + 2) tn false (.slice none 0 0) rfl (ouO_put HZ6.out)) rfl ?_
                  have hcg := ouO_chg w6 (w.heap.size + 2) tn false (.slice none 0 0)
                  exact ⟨(.slice none 0 0), by rw [HRES.out, HTN.out]; rfl, by rw [HRES.out]; exact Own.nil _ _, Chg.base HB6.out hcg HB6.out.size (fun i hi => by omega)⟩
                · clear hd0 hd1 h0 h1 h6
                  go_wp2_with fail
                  clear q0 q1 q2 q3 q4 q5 qlt a0 a1 a2 a3 a4 a5 a6 a7 a8 a9 a10 a11 a12 al z0 z1 z2 zl t0 t1 t2 t3 t4 t5 t6 t7 hf
                  refine (low_hist_any a Ah ch w.heap.size (w.heap.size + 1) _ HA5.out (Kd.C_below HH.out HB5.out) HCH.out (by have := HF.out.len; have := bmay_len HF.out.bm; omega)).mono ?_
                  rintro e w6 ⟨v, rfl, how, hb⟩
                  obtain ⟨Av, cv, rfl, _, _⟩ := how.reads
                  have hz6 := blk_below HO5.out hb
                  have HB6 := Lib.hid (HB5.out.trans (hb.mono HB5.out.size))
                  obtain ⟨z0, z1, z2, zl⟩ := ouO_facts hz6
                  have hf := fun j => blk_free hz6 j
                  have HZ6 := Lib.hid hz6
                  clear hz6
                  have hnb : ∀ k, (Value.slice Av a.f6.length cv).ownBlock = some k → k ≠ w.heap.size + 2 := fun k hk => by
                    have h8 := own_base how k hk
                    have h9 := blk_lt HO5.out
                    omega
                  have HW := Lib.hid how
                  have HN := Lib.hid hnb
                  clear how hnb
                  clear hb
                  obtain ⟨tn, htn⟩ : ∃ n : Int, n = 0 := ⟨_, rfl⟩
                  obtain ⟨tb, htb⟩ : ∃ b : Bool, b = false := ⟨_, rfl⟩
                  unfold ouV
                  rw [← htn]
                  subst htb
                  have HTN := Lib.hid htn
                  clear htn
                  go_wp2_with fail
                  refine bodyPost_ret (results_val rfl _ _ (w.heap.size + 2) tn false (.slice Av a.f6.length cv) rfl (ouO_put HZ6.out)) rfl ?_
                  have hcg := ouO_chg w6 (w.heap.size + 2) tn false (.slice Av a.f6.length cv)
                  exact ⟨(.slice Av a.f6.length cv), by rw [HRES.out, HTN.out]; rfl, by rw [HRES.out]; exact (HW.out.keep hcg (fun k hk e => HN.out k hk e)).lower HB5.out.size, Chg.base HB6.out hcg HB6.out.size (fun i hi => by omega)⟩
                · have hl7 : ¬ bs.length = 0 := fun e => h6 ⟨rfl, e⟩
                  have hd7 : ((bs.length : Int) == 0) = false := beq_eq_false_iff_ne.2 (by omega)
                  clear hd0 hd1 h0 h1 h6
                  go_wp2_with fail
                  clear q0 q1 q2 q3 q4 q5 qlt a0 a1 a2 a3 a4 a5 a6 a7 a8 a9 a10 a11 a12 al z0 z1 z2 zl t0 t1 t2 t3 t4 t5 t6 t7 hf
                  refine (low_rank_any a ⟨qk, 7, qs, ql, rank⟩ bs Ah ch A1 c1 w.heap.size (w.heap.size + 1) _ HA5.out (Kd.C_below HH.out HB5.out) HQ5.out (Kd.C_below HR.out HB5.out) (bmay_len HF.out.bm) HF.out.len (fun i hi => by have h8 := HF.out.h i hi; have h9 := HF.out.c; omega) (by omega) (by omega) HF.out.c.1 HF.out.c.2).mono ?_
                  rintro e w6 ⟨rfl, hb⟩
                  have hz6 := blk_below HO5.out hb
                  have HB6 := Lib.hid (HB5.out.trans (hb.mono HB5.out.size))
                  obtain ⟨z0, z1, z2, zl⟩ := ouO_facts hz6
                  have hf := fun j => blk_free hz6 j
                  have HZ6 := Lib.hid hz6
                  clear hz6
                  clear hb
                  obtain ⟨tn, htn⟩ : ∃ n : Int, n = (rankGo a.f6 bs a.f3 bs.length 0 (rankK rank a.f0)) := ⟨_, rfl⟩
                  obtain ⟨tb, htb⟩ : ∃ b : Bool, b = false := ⟨_, rfl⟩
                  unfold ouV
                  rw [← htn]
                  subst htb
                  have HTN := Lib.hid htn
                  clear htn
                  go_wp2_with fail
                  refine bodyPost_ret (results_val rfl _ _ (w.heap.size + 2) tn false (.slice none 0 0) rfl (ouO_put HZ6.out)) rfl ?_
                  have hcg := ouO_chg w6 (w.heap.size + 2) tn false (.slice none 0 0)
                  exact ⟨(.slice none 0 0), by rw [HRES.out, HTN.out]; rfl, by rw [HRES.out]; exact Own.nil _ _, Chg.base HB6.out hcg HB6.out.size (fun i hi => by omega)⟩
end Go.Proofs.Ytggaefklcpbfnaa.My

namespace Go.Proofs.Ytggaefklcpbfnaa.My
open Go.RowKit Pa Go.Proofs.YtggaefklcpbfnaaW.PrintWords

theorem num_any (a : Int) (w : World) : Calls Try.prog 20 #[.int .i64 a] w fun e w' => e = .returned (.int .i64 a) ∧ w = w' := by
  go_enter Try.func20, Try.ntmps20
  go_wp2
  go_ret
  exact ⟨rfl, rfl⟩
theorem same_loop (l : List Int) (hl : l.length ≤ 17592186044415) : ∀ n i k, i + n = l.length → n < k → bournelaw0_SameInts.l0 k l l i = some true
  | 0, i, 0, _, hk => absurd hk (by omega)
  | 0, i, k + 1, h, _ => by
    unfold bournelaw0_SameInts.l0
    rw [if_neg (by omega)]
  | n + 1, i, 0, _, hk => absurd hk (by omega)
  | n + 1, i, k + 1, h, hk => by
    have ih := same_loop l hl n (i + 1) k (by omega) (by omega)
    unfold bournelaw0_SameInts.l0
    rw [if_pos (by omega), if_pos (by omega), if_pos (by omega), if_pos rfl, wrap_up (by omega), ih]
def AVar (w : World) (b : Nat) (a : S28) (A : Option Addr) (c : Nat) : Prop := w.heap[b]? = some (acO a (.slice A a.f6.length c)) ∧ a.f6.length ≤ c ∧ RdI w A a.f6
theorem AVar.below {w w1 : World} {b : Nat} {a : S28} {A : Option Addr} {c : Nat} (h : AVar w b a A c) (hb : Below w.heap.size w w1) : AVar w1 b a A c := ⟨blk_below h.1 hb, h.2.1, Kd.C_below h.2.2 hb⟩
theorem AVar.new {w : World} {a : S28} {A : Option Addr} {c : Nat} (hl : a.f6.length ≤ c) (hr : RdI w A a.f6) : AVar (w.alloc (acO a (.slice A a.f6.length c))) w.heap.size a A c :=
  ⟨heap_alloc_new w _, hl, Kd.C_below hr ((Below.refl _ _).alloc (Nat.le_refl _) _)⟩
theorem rdI_nil (w : World) : RdI w none [] := ⟨rfl, by decide, fun h => absurd h (by decide)⟩
theorem rdI_blk {w : World} {b : Nat} {l : List Int} {T : TypeId} {fr : Nat × Nat} (h : w.heap[b]? = some (.cells (l.map (Value.int .i64)).toArray T fr)) (hl : l.length ≤ 1000) : RdI w (some ⟨b, 0, none⟩) l := by
  refine ⟨rfl, by omega, fun _ => ⟨_, rfl, fun j p hp => ⟨[.int .i64 p], rfl, rfl, fun i u hu => ?_⟩⟩⟩
  rw [show j * (Kd.int .i64).sz + i = j + i by rw [show (Kd.int .i64).sz = 1 from rfl, Nat.mul_one], add_plain, blk_cell h]
  cases i with
  | zero =>
    simp at hu
    subst hu
    simp [List.getElem?_map, hp]
  | succ i => simp at hu
end Go.Proofs.Ytggaefklcpbfnaa.My

namespace Go.Proofs.Ytggaefklcpbfnaa.My
open Go.RowKit Pa Go.Proofs.YtggaefklcpbfnaaW.PrintWords
attribute [local go_sem high] eqA26

theorem rwm_f (x : Int) : bourneref1_within.f x 1099511627776 = some (wm x) := by
  unfold bourneref1_within.f wm
  have e : wrap64 (-1099511627776) = -1099511627776 := by unfold wrap64; rfl
  simp only [e]
  by_cases h3 : x ≥ -1099511627776 <;> by_cases h4 : x ≤ 1099511627776 <;> simp [h3, h4] <;> omega
theorem rimay_f (x : S26) : bourneref1_ItemMay.f x.f0 x.f1 x.f2 x.f3 = some (imay x) := by
  unfold bourneref1_ItemMay.f bourneref1_within.f imay
  have e : wrap64 (-1099511627776) = -1099511627776 := by unfold wrap64; rfl
  simp only [e]
  by_cases h1 : x.f0 ≥ 0 <;> by_cases h2 : x.f0 ≤ 1048575 <;> by_cases h3 : x.f1 ≥ -1099511627776 <;> by_cases h4 : x.f1 ≤ 1099511627776 <;> by_cases h5 : x.f2 ≥ 1 <;> by_cases h6 : x.f2 ≤ 1073741823 <;> by_cases h7 : x.f3 ≥ -1099511627776 <;> by_cases h8 : x.f3 ≤ 1099511627776 <;> simp [h1, h2, h3, h4, h5, h6, h7, h8] <;> omega
theorem rbm_loop (l : List Int) (hl : l.length ≤ 9223372036854775807) : ∀ n i k, i + n = l.length → n < k → bourneref1_BoundsMay.l0 k l i = some (ball l n i && decide (l.length ≤ 8))
  | 0, i, 0, _, hk => absurd hk (by omega)
  | 0, i, k + 1, h, _ => by
    unfold bourneref1_BoundsMay.l0 ball
    rw [if_neg (by omega)]
    by_cases h8 : l.length ≤ 8
    · rw [decide_eq_true h8, decide_eq_true (by omega)]
      rfl
    · rw [decide_eq_false h8, decide_eq_false (by omega)]
      rfl
  | n + 1, i, 0, _, hk => absurd hk (by omega)
  | n + 1, i, k + 1, h, hk => by
    have ih := rbm_loop l hl n (i + 1) k (by omega) (by omega)
    unfold bourneref1_BoundsMay.l0 ball
    rw [if_pos (by omega), if_pos (by omega)]
    have e1 : rd l (i : Int) = l.getD i 0 := by simp [rd]
    rw [e1, rwm_f]
    simp only [Option.bind_some]
    rw [show wrap64 ((i : Int) + 1) = ((i + 1 : Nat) : Int) by unfold wrap64; omega, ih]
    unfold bok
    by_cases h1 : wm (l.getD i 0) = true
    · rw [if_pos h1, h1]
      by_cases h0 : i = 0
      · subst h0
        simp
      · rw [if_pos (by omega)]
        have e2 : wrap64 ((i : Int) - 1) = ((i - 1 : Nat) : Int) := by unfold wrap64; omega
        rw [e2, if_pos (by omega), if_pos (by omega)]
        have e3 : rd l ((i - 1 : Nat) : Int) = l.getD (i - 1) 0 := by simp [rd]
        rw [e3]
        by_cases h2 : l.getD (i - 1) 0 ≥ l.getD i 0
        · rw [if_pos h2, show decide (l.getD (i - 1) 0 < l.getD i 0) = false from decide_eq_false (by omega), decide_eq_false h0]
          simp
        · rw [if_neg h2, show decide (l.getD (i - 1) 0 < l.getD i 0) = true from decide_eq_true (by omega), decide_eq_false h0]
          simp
    · have h1' : wm (l.getD i 0) = false := by
        cases h' : wm (l.getD i 0)
        · rfl
        · exact absurd h' h1
      rw [if_neg h1, h1']
      rfl
theorem rbmay_f (l : List Int) (hl : l.length ≤ 9223372036854775807) : bourneref1_BoundsMay.f (l.length + 1) l = some (bmay l) := by
  unfold bourneref1_BoundsMay.f bmay
  have := rbm_loop l hl l.length 0 (l.length + 1) (by omega) (by omega)
  rw [Int.natCast_zero] at this
  rw [this, Bool.and_comm]
theorem rbk_loop (l : List Int) (v : Int) (hl : l.length ≤ 8) : ∀ n i k, i + n = l.length → n < k → bourneref1_bucket.l0 k v l i = some ((bkt l v n i : Nat) : Int)
  | 0, i, 0, _, hk => absurd hk (by omega)
  | 0, i, k + 1, h, _ => by
    unfold bourneref1_bucket.l0 bkt
    rw [if_neg (by omega)]
  | n + 1, i, 0, _, hk => absurd hk (by omega)
  | n + 1, i, k + 1, h, hk => by
    have ih := rbk_loop l v hl n (i + 1) k (by omega) (by omega)
    unfold bourneref1_bucket.l0 bkt
    rw [if_pos (by omega), if_pos (by omega), wrap_up (by omega), ih]
    have e1 : rd l (i : Int) = l.getD i 0 := by simp [rd]
    rw [e1]
    by_cases h1 : v ≤ l.getD i 0
    · rw [if_neg (by omega), if_pos h1]
    · rw [if_pos (by omega), if_neg h1]
theorem rbucket_f (l : List Int) (v : Int) (hl : l.length ≤ 8) : bourneref1_bucket.f 9 v l = some ((bucket l v : Nat) : Int) := rbk_loop l v hl l.length 0 9 (by omega) (by omega)
theorem rbm_any (bs : List Int) (A : Option Addr) (c : Nat) (w : World) (hr : Kd.C (Kd.int .i64) w A bs.length bs) (hc : bs.length ≤ c) (hl : bs.length ≤ 9223372036854775807) :
    Calls Try.prog 37 #[.slice A bs.length c] w fun e w' => e = .returned (.bool (bmay bs)) ∧ Below w.heap.size w w' :=
  (bourneref1_BoundsMay.calls (bs.length + 1) A c bs _ w hr hc (rbmay_f bs hl)).mono fun _ _ h => ⟨h.1, by first | exact h.2 | exact h.2.below⟩
theorem rim_any (x : S26) (w : World) :
    Calls Try.prog 48 #[.agg #[.int .i64 x.f0, .int .i64 x.f1, .int .i64 x.f2, .int .i64 x.f3]] w fun e w' => e = .returned (.bool (imay x)) ∧ Below w.heap.size w w' :=
  bourneref1_ItemMay.calls _ _ _ _ _ w (rimay_f x)
theorem rbucket_any (bs : List Int) (v : Int) (A : Option Addr) (c : Nat) (w : World) (hr : Kd.C (Kd.int .i64) w A bs.length bs) (hc : bs.length ≤ c) (hl : bs.length ≤ 8) :
    Calls Try.prog 49 #[.int .i64 v, .slice A bs.length c] w fun e w' => e = .returned (.int .i64 (bucket bs v : Nat)) ∧ Below w.heap.size w w' :=
  (bourneref1_bucket.calls 9 v A c bs _ w hr hc (rbucket_f bs v hl)).mono fun _ _ h => ⟨h.1, by first | exact h.2 | exact h.2.below⟩

set_option maxHeartbeats 2000000 in
set_option maxRecDepth 100000 in
theorem rone_any (x : S26) (bs : List Int) (A : Option Addr) (c : Nat) (w : World) (hr : RdI w A bs) (hc : bs.length ≤ c) :
    Calls Try.prog 29 #[.agg #[.int .i64 x.f0, .int .i64 x.f1, .int .i64 x.f2, .int .i64 x.f3], .slice A bs.length c] w fun e w' => ∃ v, e = .returned (.tuple #[acV (oneRes x bs).1 v, .int .i64 (oneRes x bs).2]) ∧ Own w' w.heap.size v (oneRes x bs).1.f6 ∧ Below w.heap.size w w' := by
  have HR := Lib.hid hr
  have HC := Lib.hid hc
  clear hr hc
  go_enter Try.func29, Try.ntmps29
  go_wp2_with fail
  have hx : ((w.alloc (itO x)).alloc (acO z28 (.slice none 0 0))).heap[w.heap.size]? = some (itO x) := blk_below (heap_alloc_new w (itO x)) ((Below.refl _ _).alloc (Nat.le_refl _) _)
  have hz : ((w.alloc (itO x)).alloc (acO z28 (.slice none 0 0))).heap[w.heap.size + 1]? = some (acO z28 (.slice none 0 0)) := by
    have := heap_alloc_new (w.alloc (itO x)) (acO z28 (.slice none 0 0))
    simpa using this
  have hB : Below w.heap.size w ((w.alloc (itO x)).alloc (acO z28 (.slice none 0 0))) := ((Below.refl w.heap.size w).alloc (Nat.le_refl _) _).alloc (by simp) _
  refine (rim_any x _).mono ?_
  rintro e w1 ⟨rfl, hb⟩
  have HX := Lib.hid (blk_below hx hb)
  have HZ := Lib.hid (blk_below hz hb)
  have HB1 := Lib.hid (hB.trans (hb.mono hB.size))
  clear hx hz hB hb
  by_cases h1 : imay x = true
  · rw [h1]
    go_wp2_with fail
    refine (rbm_any bs A c _ (Kd.C_below HR.out HB1.out) HC.out (by have := HR.out.2.1; unfold maxLen at this; exact this)).mono ?_
    rintro e w2 ⟨rfl, hb⟩
    replace HX := Lib.hid (blk_below HX.out hb)
    replace HZ := Lib.hid (blk_below HZ.out hb)
    replace HB1 := Lib.hid (HB1.out.trans (hb.mono HB1.out.size))
    clear hb
    by_cases h2 : bmay bs = true
    · have hl := bmay_len h2
      have hres : oneRes x bs = (one x bs, 0) := by unfold oneRes; rw [h1, h2]; rfl
      have HRES := Lib.hid hres
      rw [h2]
      clear hres h1 h2
      obtain ⟨x0, x1, x2, x3, xl⟩ := itO_facts HX.out
      go_wp2_with fail
      refine Txt.wp_region_mix (by kernel_rfl) (by kernel_rfl) (fun HB => ?_)
      repeat (first
        | (refine Txt.mix_p (by rfl) rfl rfl (fun K hK => ?_); go_big_quiet_op; refine hK _ ?_; clear hK K)
        | (refine Txt.mix_re (by rfl) (by decide +kernel) (by rfl) (by rfl) (by go_simp) HB (fun K hK => ?_); go_big_quiet_op; refine hK _ ?_; clear hK K)
        | (refine Txt.mix_rl (by rfl) (by decide +kernel) (by rfl) (by rfl) (by go_simp) HB (fun K hK => ?_); go_big_quiet_op; refine hK _ ?_; clear hK K)
        | (refine Txt.mix_pass (by rfl) (by rfl) ?_; simp only [List.set_cons_succ, List.set_cons_zero]))
      refine Txt.mix_m (fun g => .slice (some ⟨g, 0, none⟩) (bs.length + 1) (bs.length + 1)) (.cells (Array.replicate (bs.length + 1) (.int .i64 0)) 3) (by rfl) (by decide +kernel) (fun w1 => by
        go_simp
        rw [show ((bs.length : Int) + 1) = ((bs.length + 1 : Nat) : Int) by omega, make_ints _ (by omega)]
        rfl) HB ?_
      intro gb w3 hb2 hg2 ho2
      replace HB := HB.trans hb2
      have HG := Lib.hid ho2
      have HGB := Lib.hid hg2
      clear hb2 ho2 hg2
      simp only [Act.put, List.setIfInBounds_toArray, List.set_cons_succ, List.set_cons_zero]
      repeat (first
        | (refine Txt.mix_p (by rfl) rfl rfl (fun K hK => ?_); go_big_quiet_op; refine hK _ ?_; clear hK K)
        | (refine Txt.mix_re (by rfl) (by decide +kernel) (by rfl) (by rfl) (by go_simp) HB (fun K hK => ?_); go_big_quiet_op; refine hK _ ?_; clear hK K)
        | (refine Txt.mix_rl (by rfl) (by decide +kernel) (by rfl) (by rfl) (by go_simp) HB (fun K hK => ?_); go_big_quiet_op; refine hK _ ?_; clear hK K)
        | (refine Txt.mix_pass (by rfl) (by rfl) ?_; simp only [List.set_cons_succ, List.set_cons_zero]))
      refine Txt.mix_m (fun g => .pointer (some ⟨g, 0, none⟩)) (acO z28 (.slice none 0 0)) (by rfl) (by decide +kernel) (fun w1 => by unfold acO; go_simp; rfl) HB ?_
      intro oa w4 hb4 hg4 ho4
      replace HG := Lib.hid (blk_below HG.out hb4)
      replace HB := HB.trans hb4
      have HOA := Lib.hid hg4
      clear hb4 hg4
      simp only [Act.put, List.setIfInBounds_toArray, List.set_cons_succ, List.set_cons_zero]
      repeat (first
        | (refine Txt.mix_p (by rfl) rfl rfl (fun K hK => ?_); go_big_quiet_op; refine hK _ ?_; clear hK K)
        | (refine Txt.mix_re (by rfl) (by decide +kernel) (by rfl) (by rfl) (by go_simp) HB (fun K hK => ?_); go_big_quiet_op; refine hK _ ?_; clear hK K)
        | (refine Txt.mix_rl (by rfl) (by decide +kernel) (by rfl) (by rfl) (by go_simp) HB (fun K hK => ?_); go_big_quiet_op; refine hK _ ?_; clear hK K)
        | (refine Txt.mix_pass (by rfl) (by rfl) ?_; simp only [List.set_cons_succ, List.set_cons_zero]))
      refine Txt.mix_a (by rfl) (by decide +kernel) (fun K hK => ?_)
      obtain ⟨z0, z1, z2, z3, z4, z5, z6, z7, z8, z9, z10, z11, z12, zl⟩ := acO_facts ho4
      have hf := fun j => blk_free ho4 j
      go_wp2_with fail
      clear z0 z1 z2 z3 z4 z5 z6 z7 z8 z9 z10 z11 z12 zl hf x0 x1 x2 x3 xl
      show Txt.wpMix _ _ _ _ _ _ _ (putA w4 oa ⟨1, x.f3, x.f3, x.f3, x, x, []⟩ (.slice (some ⟨gb, 0, none⟩) (bs.length + 1) (bs.length + 1)))
      have ho5 := putA_blk (a := ⟨1, x.f3, x.f3, x.f3, x, x, []⟩) (v := .slice (some ⟨gb, 0, none⟩) (bs.length + 1) (bs.length + 1)) ho4
      have hc5 := putA_chg w4 oa ⟨1, x.f3, x.f3, x.f3, x, x, []⟩ (.slice (some ⟨gb, 0, none⟩) (bs.length + 1) (bs.length + 1))
      have hne : gb ≠ oa := fun e => by
        have h5 := HG.out
        rw [e, ho4] at h5
        unfold acO at h5
        injection h5 with h5
        injection h5 with _ h5
        exact absurd h5 (by decide)
      have hl2 := blk_lt HX.out
      have hl3 := blk_lt HZ.out
      have hoa : w2.heap.size ≤ oa := HOA.out
      have hgb : w2.heap.size ≤ gb := HGB.out
      have HX5 := Lib.hid (hc5.obj (blk_below HX.out HB.undrew) (by omega))
      have HZ5 := Lib.hid (hc5.obj (blk_below HZ.out HB.undrew) (by omega))
      have HG5 := Lib.hid (hc5.obj HG.out hne)
      have HB5 := Lib.hid (Chg.base (HB1.out.trans (HB.undrew.mono HB1.out.size)) hc5 (Nat.le_trans HB1.out.size HB.undrew.size) (fun i hi => by have := HB1.out.size; omega))
      have HO5 := Lib.hid ho5
      have HNE := Lib.hid (And.intro hne (And.intro (show w.heap.size + 1 ≠ oa by omega) (And.intro (show w.heap.size + 1 ≠ gb by omega) (show w.heap.size ≤ gb by omega))))
      clear ho5 hc5 hne hl2 hl3 hoa hgb HX HZ HG HB HB1 HGB HOA ho4
      generalize putA w4 oa ⟨1, x.f3, x.f3, x.f3, x, x, []⟩ (.slice (some ⟨gb, 0, none⟩) (bs.length + 1) (bs.length + 1)) = w5 at *
      refine Txt.mix_nil ?_
      obtain ⟨x0, x1, x2, x3, xl⟩ := itO_facts HX5.out
      obtain ⟨z0, z1, z2, z3, z4, z5, z6, z7, z8, z9, z10, z11, z12, zl⟩ := acO_facts HO5.out
      go_wp2_with fail
      refine Txt.wp_region_mix (by kernel_rfl) (by kernel_rfl) (fun HB => ?_)
      repeat (first
        | (refine Txt.mix_p (by rfl) rfl rfl (fun K hK => ?_); go_big_quiet_op; refine hK _ ?_; clear hK K)
        | (refine Txt.mix_re (by rfl) (by decide +kernel) (by rfl) (by rfl) (by go_simp) HB (fun K hK => ?_); go_big_quiet_op; refine hK _ ?_; clear hK K)
        | (refine Txt.mix_rl (by rfl) (by decide +kernel) (by rfl) (by rfl) (by go_simp) HB (fun K hK => ?_); go_big_quiet_op; refine hK _ ?_; clear hK K)
        | (refine Txt.mix_pass (by rfl) (by rfl) ?_; simp only [List.set_cons_succ, List.set_cons_zero]))
      refine Txt.mix_c (by rfl) (by decide +kernel) HB ?_
      intro w6 hw6 K hK
      replace HB := HB.trans hw6
      clear hw6
      go_wp2_with fail
      refine (rbucket_any bs x.f3 A c _ (Kd.C_below (Kd.C_below HR.out HB5.out) HB.undrew) HC.out hl).mono ?_
      rintro e w7 ⟨rfl, hb⟩
      refine hK _ _ ⟨hb, ?_⟩
      replace HB := HB.trans hb
      clear hK K hb
      have hbk := bucket_le bs x.f3
      generalize hbe : bucket bs x.f3 = bk at *
      repeat (first
        | (refine Txt.mix_p (by rfl) rfl rfl (fun K hK => ?_); go_big_quiet_op; refine hK _ ?_; clear hK K)
        | (refine Txt.mix_re (by rfl) (by decide +kernel) (by rfl) (by rfl) (by go_simp) HB (fun K hK => ?_); go_big_quiet_op; refine hK _ ?_; clear hK K)
        | (refine Txt.mix_rl (by rfl) (by decide +kernel) (by rfl) (by rfl) (by go_simp) HB (fun K hK => ?_); go_big_quiet_op; refine hK _ ?_; clear hK K)
        | (refine Txt.mix_pass (by rfl) (by rfl) ?_; simp only [List.set_cons_succ, List.set_cons_zero]))
      refine Txt.mix_a (by rfl) (by decide +kernel) (fun K hK => ?_)
      have hg7 := blk_below HG5.out HB.undrew
      have hf := fun j => blk_free hg7 j
      have hgl := blk_lt hg7
      have hcl : w7.cell? ⟨gb, bk, none⟩ = some (.int .i64 0) := (blk_cell hg7 bk).trans (by rw [Array.getElem?_replicate, if_pos (by omega)])
      have HGW := Lib.hid hg7
      clear hg7
      go_wp2_with fail
      refine Txt.mix_nil ?_
      have hnn := HNE.out
      have hc8 := (Chg.refl (fun k => k = gb) w7).setCell (p := ⟨gb, bk, none⟩) (.inl rfl) (.int .i64 1)
      have ho8 := hc8.obj (blk_below HO5.out HB.undrew) (fun e => hnn.1 e.symm)
      have hz8 := hc8.obj (blk_below HZ5.out HB.undrew) hnn.2.2.1
      have hown : Own (w7.setCell ⟨gb, bk, none⟩ (.int .i64 1)) w.heap.size (.slice (some ⟨gb, 0, none⟩) (bs.length + 1) (bs.length + 1)) ((List.replicate (bs.length + 1) 0).set bk 1) := by
        have h0 := made_own (bs.length + 1) (by omega) w7 gb HGW.out w.heap.size hnn.2.2.2
        unfold Own at h0 ⊢
        rw [List.length_replicate] at h0
        have h1 := (World.ownsRow.stored h0 bk (.int .i64 1)).1
        rw [List.length_set, List.length_replicate, List.map_set]
        exact h1
      have hb8 := Chg.base (HB5.out.trans (HB.undrew.mono HB5.out.size)) hc8 (Nat.le_trans HB5.out.size HB.undrew.size) (fun i hi => by omega)
      have HOWN := Lib.hid hown
      have HB8 := Lib.hid hb8
      have HZ8 := Lib.hid hz8
      have hlz := blk_lt hz8
      clear hown hb8 hc8 HX5 HZ5 HG5 HB5 HO5 HB HGW hf hgl hcl x0 x1 x2 x3 xl
      clear z0 z1 z2 z3 z4 z5 z6 z7 z8 z9 z10 z11 z12 zl
      generalize w7.setCell ⟨gb, bk, none⟩ (.int .i64 1) = w8 at *
      obtain ⟨o0, o1, o2, o3, o4, o5, o6, o7, o8, o9, o10, o11, o12, ol⟩ := acO_facts ho8
      obtain ⟨z0, z1, z2, z3, z4, z5, z6, z7, z8, z9, z10, z11, z12, zl⟩ := acO_facts hz8
      have hf := fun j => blk_free hz8 j
      clear ho8 hz8
      go_wp2_with fail
      show bodyPost _ _ _ _ _ (putA w8 (w.heap.size + 1) ⟨1, x.f3, x.f3, x.f3, x, x, []⟩ (.slice (some ⟨gb, 0, none⟩) (bs.length + 1) (bs.length + 1)))
      have hz2 := putA_blk (a := ⟨1, x.f3, x.f3, x.f3, x, x, []⟩) (v := .slice (some ⟨gb, 0, none⟩) (bs.length + 1) (bs.length + 1)) HZ8.out
      have hch := putA_chg w8 (w.heap.size + 1) ⟨1, x.f3, x.f3, x.f3, x, x, []⟩ (.slice (some ⟨gb, 0, none⟩) (bs.length + 1) (bs.length + 1))
      refine bodyPost_ret (results_acc rfl _ _ (w.heap.size + 1) ⟨1, x.f3, x.f3, x.f3, x, x, []⟩ (.slice (some ⟨gb, 0, none⟩) (bs.length + 1) (bs.length + 1)) rfl hz2) rfl ?_
      refine ⟨.slice (some ⟨gb, 0, none⟩) (bs.length + 1) (bs.length + 1), ?_, ?_, ?_⟩
      · rw [HRES.out]; rfl
      · rw [HRES.out]
        have := HOWN.out.keep hch (fun k hk e => by
          have e1 : gb = k := by simpa [Value.ownBlock] using hk
          omega)
        rw [← hbe] at this
        exact this
      · have := HB8.out.size
        exact Chg.base HB8.out hch this (fun i hi => by omega)
    · have h2' : bmay bs = false := by
        cases h' : bmay bs
        · rfl
        · exact absurd h' h2
      have hres : oneRes x bs = (z28, 100) := by unfold oneRes; rw [h1, h2']; rfl
      have HRES := Lib.hid hres
      clear hres h1 h2
      rw [h2']
      obtain ⟨z0, z1, z2, z3, z4, z5, z6, z7, z8, z9, z10, z11, z12, zl⟩ := acO_facts HZ.out
      have hf := fun j => blk_free HZ.out j
      go_wp2_with fail
      show bodyPost _ _ _ _ _ (putA w2 (w.heap.size + 1) z28 (.slice none 0 0))
      have hz2 := putA_blk (a := z28) (v := .slice none 0 0) HZ.out
      have hc2 := HB1.out.size
      have hch := putA_chg w2 (w.heap.size + 1) z28 (.slice none 0 0)
      refine bodyPost_ret (results_acc rfl _ _ (w.heap.size + 1) z28 (.slice none 0 0) rfl hz2) rfl ?_
      refine ⟨.slice none 0 0, ?_, ?_, ?_⟩
      · rw [HRES.out]; rfl
      · rw [HRES.out]; exact Own.nil _ _
      · exact Chg.base HB1.out hch (by omega) (fun i hi => by omega)
  · have h1' : imay x = false := by
      cases h' : imay x
      · rfl
      · exact absurd h' h1
    have hres : oneRes x bs = (z28, 100) := by unfold oneRes; rw [h1']; rfl
    have HRES := Lib.hid hres
    clear hres h1
    rw [h1']
    obtain ⟨z0, z1, z2, z3, z4, z5, z6, z7, z8, z9, z10, z11, z12, zl⟩ := acO_facts HZ.out
    have hf := fun j => blk_free HZ.out j
    go_wp2_with fail
    show bodyPost _ _ _ _ _ (putA w1 (w.heap.size + 1) z28 (.slice none 0 0))
    have hz2 := putA_blk (a := z28) (v := .slice none 0 0) HZ.out
    have hc2 := HB1.out.size
    have hch := putA_chg w1 (w.heap.size + 1) z28 (.slice none 0 0)
    refine bodyPost_ret (results_acc rfl _ _ (w.heap.size + 1) z28 (.slice none 0 0) rfl hz2) rfl ?_
    refine ⟨.slice none 0 0, ?_, ?_, ?_⟩
    · rw [HRES.out]; rfl
    · rw [HRES.out]; exact Own.nil _ _
    · exact Chg.base HB1.out hch (by omega) (fun i hi => by omega)
end Go.Proofs.Ytggaefklcpbfnaa.My

namespace Go.Proofs.Ytggaefklcpbfnaa.Pa
open Go.RowKit Go.Proofs.YtggaefklcpbfnaaW.PrintWords Go.Proofs.YtggaefklcpbfnaaW.PrintLast Go.Proofs.YtggaefklcpbfnaaW.PrintMore
attribute [local go_sem] max2_int min2_int max_two min_two max_three min_three max_four min_four   -- for this text's walks alone
set_option linter.unusedVariables false
set_option linter.unusedSimpArgs false

def bourneref1_One.f (a0_0 : Int) (a0_1 : Int) (a0_2 : Int) (a0_3 : Int) (l1 : List Int) : Option (Int × Int × Int × Int × Int × Int × Int × Int × Int × Int × Int × Int × List Int × Int) := (fun p => some (p.1.f0, p.1.f1, p.1.f2, p.1.f3, p.1.f4.f0, p.1.f4.f1, p.1.f4.f2, p.1.f4.f3, p.1.f5.f0, p.1.f5.f1, p.1.f5.f2, p.1.f5.f3, p.1.f6, p.2)) (My.oneRes ⟨a0_0, a0_1, a0_2, a0_3⟩ l1)
theorem bourneref1_One.calls (a0_0 : Int) (a0_1 : Int) (a0_2 : Int) (a0_3 : Int) (A1 : Option Addr) (c1 : Nat) (l1 : List Int) (r1 : Int) (r2 : Int) (r3 : Int) (r4 : Int) (r5 : Int) (r6 : Int) (r7 : Int) (r8 : Int) (r9 : Int) (r10 : Int) (r11 : Int) (r12 : Int) (r13 : List Int) (r14 : Int) (w : World) (hr1 : Kd.C (Kd.int .i64) w A1 l1.length l1) (hc1 : l1.length ≤ c1) (h : bourneref1_One.f a0_0 a0_1 a0_2 a0_3 l1 = some (r1, r2, r3, r4, r5, r6, r7, r8, r9, r10, r11, r12, r13, r14)) :
    Calls Try.prog 29 #[.agg #[.int .i64 a0_0, .int .i64 a0_1, .int .i64 a0_2, .int .i64 a0_3], .slice A1 l1.length c1] w fun e w' => ∃ v12_ : Value, e = .returned (.tuple #[.agg #[.int .i64 r1, .int .i64 r2, .int .i64 r3, .int .i64 r4, .int .i64 r5, .int .i64 r6, .int .i64 r7, .int .i64 r8, .int .i64 r9, .int .i64 r10, .int .i64 r11, .int .i64 r12, v12_], .int .i64 r14]) ∧ Kd.R (Kd.int .i64) 3 w' w.heap.size (fun _ => True) v12_ r13 ∧ Below w.heap.size w w' := by
  unfold bourneref1_One.f at h
  simp only [Option.some.injEq, Prod.mk.injEq] at h
  obtain ⟨rfl, rfl, rfl, rfl, rfl, rfl, rfl, rfl, rfl, rfl, rfl, rfl, rfl, rfl⟩ := h
  refine (My.rone_any ⟨a0_0, a0_1, a0_2, a0_3⟩ l1 A1 c1 w hr1 hc1).mono ?_
  rintro e w' ⟨v, he, ho, hb⟩
  exact ⟨v, he, Kd.R_of_own ho (fun _ _ => trivial), hb⟩
end Go.Proofs.Ytggaefklcpbfnaa.Pa

namespace Go.Proofs.Ytggaefklcpbfnaa.My
open Go.RowKit Pa Go.Proofs.YtggaefklcpbfnaaW.PrintWords
attribute [local go_sem high] eqA26

def AccAt (w : World) (b p : Nat) (x : S28) : Prop := ∃ (Ah : Option Addr) (ch : Nat), w.cell? ⟨b, p, none⟩ = some (.int .i64 x.f0) ∧ w.cell? ⟨b, p + 1, none⟩ = some (.int .i64 x.f1) ∧ w.cell? ⟨b, p + 2, none⟩ = some (.int .i64 x.f2) ∧ w.cell? ⟨b, p + 3, none⟩ = some (.int .i64 x.f3) ∧ w.cell? ⟨b, p + 4, none⟩ = some (.int .i64 x.f4.f0) ∧ w.cell? ⟨b, p + 5, none⟩ = some (.int .i64 x.f4.f1) ∧ w.cell? ⟨b, p + 6, none⟩ = some (.int .i64 x.f4.f2) ∧ w.cell? ⟨b, p + 7, none⟩ = some (.int .i64 x.f4.f3) ∧ w.cell? ⟨b, p + 8, none⟩ = some (.int .i64 x.f5.f0) ∧ w.cell? ⟨b, p + 9, none⟩ = some (.int .i64 x.f5.f1) ∧ w.cell? ⟨b, p + 10, none⟩ = some (.int .i64 x.f5.f2) ∧ w.cell? ⟨b, p + 11, none⟩ = some (.int .i64 x.f5.f3) ∧ w.cell? ⟨b, p + 12, none⟩ = some (.slice Ah x.f6.length ch) ∧ x.f6.length ≤ ch ∧ RdI w Ah x.f6
theorem AccAt.below {w w1 : World} {b p : Nat} {x : S28} (h : AccAt w b p x) (hb : Below w.heap.size w w1) : AccAt w1 b p x := by
  obtain ⟨Ah, ch, h0, h1, h2, h3, h4, h5, h6, h7, h8, h9, h10, h11, h12, hl, hr⟩ := h
  exact ⟨Ah, ch, pw_cell_below hb h0, pw_cell_below hb h1, pw_cell_below hb h2, pw_cell_below hb h3, pw_cell_below hb h4, pw_cell_below hb h5, pw_cell_below hb h6, pw_cell_below hb h7, pw_cell_below hb h8, pw_cell_below hb h9, pw_cell_below hb h10, pw_cell_below hb h11, pw_cell_below hb h12, hl, Kd.C_below hr hb⟩
theorem AccAt.blk {w : World} {b : Nat} {x : S28} {Ah : Option Addr} {ch : Nat} (h : w.heap[b]? = some (acO x (.slice Ah x.f6.length ch))) (hl : x.f6.length ≤ ch) (hr : RdI w Ah x.f6) : AccAt w b 0 x := by
  obtain ⟨a0, a1, a2, a3, a4, a5, a6, a7, a8, a9, a10, a11, a12, _⟩ := acO_facts h
  exact ⟨Ah, ch, a0, a1, a2, a3, a4, a5, a6, a7, a8, a9, a10, a11, a12, hl, hr⟩
def RdA (w : World) (A : Option Addr) (xs : List S28) : Prop := 0 < xs.length → ∃ b o, A = some ⟨b, o, none⟩ ∧ b < w.heap.size ∧ ∀ i, i < xs.length → AccAt w b (o + i * 13) (xs.getD i z28)
theorem RdA.below {w w1 : World} {A : Option Addr} {xs : List S28} (h : RdA w A xs) (hb : Below w.heap.size w w1) : RdA w1 A xs := fun hp => by
  obtain ⟨b, o, e, hbs, hc⟩ := h hp
  exact ⟨b, o, e, Nat.lt_of_lt_of_le hbs hb.size, fun i hi => (hc i hi).below hb⟩

end Go.Proofs.Ytggaefklcpbfnaa.My

namespace Go.Proofs.Ytggaefklcpbfnaa.My
open Go.RowKit Pa Go.Proofs.YtggaefklcpbfnaaW.PrintWords Go.Proofs.YtggaefklcpbfnaaW.PrintMore
attribute [local go_sem high] eqA26
attribute [local go_sem] max2_int min2_int max_two min_two

def hadd (h n : List Int) : List Int := List.zipWith (· + ·) h n
structure OutAt (w0 w : World) (g hb cap : Nat) (o : S28) : Prop where
  blk : w.heap[g]? = some (acO o (.slice (some ⟨hb, 0, none⟩) o.f6.length cap))
  row : Own w w0.heap.size (.slice (some ⟨hb, 0, none⟩) o.f6.length cap) o.f6
  bel : Below w0.heap.size w0 w
  newg : w0.heap.size ≤ g
section
variable {w0 w w1 : World} {g hb cap : Nat} {o o1 : S28}
theorem OutAt.ne (h : OutAt w0 w g hb cap o) : hb ≠ g := fun e => by
  obtain ⟨cur, hc⟩ := row_blk h.row
  rw [e, h.blk] at hc
  injection hc with hc
  injection hc with _ ht
  exact absurd ht (by decide)
theorem OutAt.put (h : OutAt w0 w g hb cap o) (hg : w1.heap[g]? = some (acO o1 (.slice (some ⟨hb, 0, none⟩) o.f6.length cap))) (hc : Chg (fun k => k = g) w w1) (e : o1.f6 = o.f6) : OutAt w0 w1 g hb cap o1 :=
  ⟨by rw [e]; exact hg, by
    rw [e]
    exact h.row.keep hc (fun k hk e1 => h.ne (by
      have e2 : hb = k := by simpa [Value.ownBlock] using hk
      rw [e2, e1])), Chg.base h.bel hc h.bel.size (fun i hi => by have := h.newg; omega), h.newg⟩
theorem OutAt.quiet (h : OutAt w0 w g hb cap o) (hb1 : Below w.heap.size w w1) : OutAt w0 w1 g hb cap o :=
  ⟨blk_below h.blk hb1, h.row.below hb1, h.bel.trans (hb1.mono h.bel.size), h.newg⟩
end
def put4c (w : World) (g j : Nat) (x : S26) : World := (((w.setCell ⟨g, j, none⟩ (.int .i64 x.f0)).setCell ⟨g, j + 1, none⟩ (.int .i64 x.f1)).setCell ⟨g, j + 2, none⟩ (.int .i64 x.f2)).setCell ⟨g, j + 3, none⟩ (.int .i64 x.f3)
theorem put4c_chg {w w1 : World} {g : Nat} (h : Chg (fun k => k = g) w w1) (j : Nat) (x : S26) : Chg (fun k => k = g) w (put4c w1 g j x) :=
  (((h.setCell (p := ⟨g, j, none⟩) (.inl rfl) _).setCell (p := ⟨g, j + 1, none⟩) (.inl rfl) _).setCell (p := ⟨g, j + 2, none⟩) (.inl rfl) _).setCell (p := ⟨g, j + 3, none⟩) (.inl rfl) _
theorem blk_put4 {w : World} {g : Nat} {cs : Array Value} {t : TypeId} {fr : Nat × Nat} (h : w.heap[g]? = some (.cells cs t fr)) (j : Nat) (x : S26) : (put4c w g j x).heap[g]? = some (.cells ((((cs.setIfInBounds j (.int .i64 x.f0)).setIfInBounds (j + 1) (.int .i64 x.f1)).setIfInBounds (j + 2) (.int .i64 x.f2)).setIfInBounds (j + 3) (.int .i64 x.f3)) t fr) :=
  blk_set (blk_set (blk_set (blk_set h j _) (j + 1) _) (j + 2) _) (j + 3) _

theorem Own.cell {w : World} {base hb cap : Nat} {h : List Int} (ho : Own w base (.slice (some ⟨hb, 0, none⟩) h.length cap) h) {k : Nat} (hk : k < h.length) : w.cell? ⟨hb, k, none⟩ = some (.int .i64 (h.getD k 0)) := by
  have h1 := World.ownsRow.cells ho (g := hb) rfl k (.int .i64 (h.getD k 0)) (by rw [List.getElem?_map, List.getD_eq_getElem?_getD, List.getElem?_eq_getElem hk]; rfl)
  rwa [add_plain] at h1
end Go.Proofs.Ytggaefklcpbfnaa.My

namespace Go.Proofs.Ytggaefklcpbfnaa.My
open Go.RowKit Pa Go.Proofs.YtggaefklcpbfnaaW.PrintWords Go.Proofs.YtggaefklcpbfnaaW.PrintMore
attribute [local go_sem high] eqA26
attribute [local go_sem] max2_int min2_int max_two min_two

def bef (a b : S26) : Bool := decide (a.f1 < b.f1) || (decide (a.f1 = b.f1) && decide (a.f2 < b.f2))
theorem bef_f (a b : S26) : bourneref1_Before.f a.f0 a.f1 a.f2 a.f3 b.f0 b.f1 b.f2 b.f3 = some (bef a b) := by
  unfold bourneref1_Before.f bef
  by_cases h1 : a.f1 < b.f1
  · simp [h1]
  · by_cases h2 : a.f1 = b.f1 <;> simp [h1, h2]
theorem bef_any (a b : S26) (w : World) :
    Calls Try.prog 59 #[.agg #[.int .i64 a.f0, .int .i64 a.f1, .int .i64 a.f2, .int .i64 a.f3], .agg #[.int .i64 b.f0, .int .i64 b.f1, .int .i64 b.f2, .int .i64 b.f3]] w fun e w' => e = .returned (.bool (bef a b)) ∧ Below w.heap.size w w' :=
  bourneref1_Before.calls _ _ _ _ _ _ _ _ _ w (bef_f a b)
def tw0 (a b : S28) : S28 := ⟨a.f0 + b.f0, a.f1 + b.f1, if b.f2 < a.f2 then b.f2 else a.f2, if a.f3 < b.f3 then b.f3 else a.f3, a.f4, b.f5, []⟩
def tw1 (a b : S28) : S28 := if bef b.f4 a.f4 = true then ⟨(tw0 a b).f0, (tw0 a b).f1, (tw0 a b).f2, (tw0 a b).f3, b.f4, b.f5, []⟩ else tw0 a b
def tw2 (a b : S28) : S28 := if bef b.f5 a.f5 = true then ⟨(tw1 a b).f0, (tw1 a b).f1, (tw1 a b).f2, (tw1 a b).f3, (tw1 a b).f4, a.f5, []⟩ else tw1 a b
def tw3 (o : S28) (h : List Int) : S28 := ⟨o.f0, o.f1, o.f2, o.f3, o.f4, o.f5, h⟩
def twoA (a b : S28) : S28 := tw3 (tw2 a b) (hadd a.f6 b.f6)
structure TwoOk (a b : S28) : Prop where
  c1 : -1000000 ≤ a.f0 ∧ a.f0 ≤ 1000000
  c2 : -1000000 ≤ b.f0 ∧ b.f0 ≤ 1000000
  s1 : -1152921504606846976 ≤ a.f1 ∧ a.f1 ≤ 1152921504606846976
  s2 : -1152921504606846976 ≤ b.f1 ∧ b.f1 ≤ 1152921504606846976
  len : b.f6.length = a.f6.length
  l9 : a.f6.length ≤ 9
  h1 : ∀ i, i < a.f6.length → -1000000 ≤ a.f6.getD i 0 ∧ a.f6.getD i 0 ≤ 1000000
  h2 : ∀ i, i < a.f6.length → -1000000 ≤ b.f6.getD i 0 ∧ b.f6.getD i 0 ≤ 1000000
instance (a b : S28) : Decidable (TwoOk a b) :=
  decidable_of_iff ((-1000000 ≤ a.f0 ∧ a.f0 ≤ 1000000) ∧ (-1000000 ≤ b.f0 ∧ b.f0 ≤ 1000000) ∧ (-1152921504606846976 ≤ a.f1 ∧ a.f1 ≤ 1152921504606846976) ∧ (-1152921504606846976 ≤ b.f1 ∧ b.f1 ≤ 1152921504606846976) ∧ b.f6.length = a.f6.length ∧ a.f6.length ≤ 9 ∧ (∀ i, i < a.f6.length → -1000000 ≤ a.f6.getD i 0 ∧ a.f6.getD i 0 ≤ 1000000) ∧ (∀ i, i < a.f6.length → -1000000 ≤ b.f6.getD i 0 ∧ b.f6.getD i 0 ≤ 1000000))
    ⟨fun ⟨h1, h2, h3, h4, h5, h6, h7, h8⟩ => ⟨h1, h2, h3, h4, h5, h6, h7, h8⟩, fun ⟨h1, h2, h3, h4, h5, h6, h7, h8⟩ => ⟨h1, h2, h3, h4, h5, h6, h7, h8⟩⟩
theorem tw_f6 (a b : S28) : (tw2 a b).f6 = [] := by unfold tw2; split <;> (try unfold tw1) <;> (try split) <;> rfl
theorem hadd_take {h n : List Int} (hl : n.length = h.length) {k : Nat} (hk : k < h.length) : (hadd h n).take (k + 1) = (hadd h n).take k ++ [h.getD k 0 + n.getD k 0] := by
  have hlen : (hadd h n).length = h.length := by unfold hadd; rw [List.length_zipWith]; omega
  rw [List.take_succ_eq_append_getElem (by omega)]
  congr 2
  unfold hadd
  simp [List.getD_eq_getElem?_getD, List.getElem?_eq_getElem hk, List.getElem?_eq_getElem (show k < n.length by omega)]

theorem wp_append {P : Program} {o : Oper} {a : Act} {w : World} {K : Act → World → Prop} {Q : Exit → Act → World → Prop} (s x : Operand) (t e : TypeId) (z : Value) (size bytes base : Nat)
    (ho : o.op = .call { callee := .builtin .append, args := #[s, x], argTypes := #[t, t] })
    (ht : P.underlying t = some (.slice e)) (hinfo : (P.info? e).map (fun i => (i.zero, i.size, i.bytes)) = some (some z, size, bytes)) (hz : z.cells.size = size) (hsz : 0 < size)
    (v : Value) (n m : Nat) (xs news : List Value) (g c : Nat) (hs : a.eval s = v) (hx : a.eval x = .slice (some ⟨g, 0, none⟩) m c)
    (hown : w.ownsRow base e size v n xs) (hbase : base ≤ w.heap.size) (hl : news.length = m * size) (hnews : ∀ j u, news[j]? = some u → w.cell? ⟨g, j, none⟩ = some u) (h1 : ∀ u ∈ news, u.oneCell' = true) (hb : (n + m) * bytes ≤ 140737488355328) (h63 : n + m ≤ 9223372036854775807)
    (h : ∀ v1 w1, w1.ownsRow base e size v1 (n + m) (xs ++ news) → w.grownBy w1 v.ownBlock → (v1.ownBlock = v.ownBlock ∨ v1.ownBlock = some w.heap.size) → K (a.put o.dst v1) w1) : o.wp P a w K Q := by
  obtain ⟨i0, hi, hzz⟩ := Option.map_eq_some_iff.1 hinfo
  simp only [Prod.mk.injEq] at hzz
  obtain ⟨hz0, hz1, hz2⟩ := hzz
  have ha : ∀ j, (⟨g, 0, none⟩ : Addr).add j = ⟨g, j, none⟩ := fun j => by unfold Addr.add; split <;> simp_all
  obtain ⟨v1, w1, hr, h2, h3, _, h5⟩ := run_append_own_at (P := P) w base t o.type e i0 z size bytes ht hi hz0 hz1 hz2 hz hsz v n xs hown ⟨g, 0, none⟩ m c news hl (fun j u hu => by rw [ha]; exact hnews j u hu) h1 (by simp only [maxLen]; omega) hb hbase
  unfold Oper.wp execOp
  simp only [ho, resolve, invoke, builtin, Sem.run_bind, Sem.run_pure, Result.andThen_ok, List.map_toArray, List.map_cons, List.map_nil, hs, hx, hr]
  exact h v1 w1 h2 h3 h5

structure TwAt (w0 w : World) (g : Nat) (o : S28) (h : List Int) (v : Value) : Prop where
  blk : w.heap[g]? = some (acO (tw3 o h) v)
  row : Own w w0.heap.size v h
  bel : Below w0.heap.size w0 w
structure TwIn (w : World) (g : Nat) (a b : S28) (Aa : Option Addr) (ca : Nat) (Ab : Option Addr) (cb : Nat) : Prop where
  ga : w.heap[g]? = some (acO a (.slice Aa a.f6.length ca))
  gb : w.heap[g + 1]? = some (acO b (.slice Ab b.f6.length cb))
  go : w.heap[g + 2]? = some (acO z28 (.slice none 0 0))
theorem own_no {w : World} {base g : Nat} {v u : Value} {h : List Int} {a : S28} (ho : Own w base v h) (hg : w.heap[g]? = some (acO a u)) : ¬ some g = v.ownBlock := by
  rcases ho.2 with ⟨e, _⟩ | ⟨b, cap, cur, e, _, hh, _⟩
  · rw [e]
    intro h
    cases h
  · rw [e]
    intro h
    have e2 : some g = some b := h
    injection e2 with e2
    rw [e2, hh] at hg
    unfold acO at hg
    injection hg with hg
    injection hg with _ ht
    exact absurd ht (by decide)
theorem TwAt.below {w0 w w1 : World} {g : Nat} {o : S28} {h : List Int} {v : Value} (t : TwAt w0 w g o h v) (hb : Below w.heap.size w w1) : TwAt w0 w1 g o h v := ⟨blk_below t.blk hb, t.row.below hb, t.bel.trans (hb.mono t.bel.size)⟩
theorem TwIn.below {w w1 : World} {g : Nat} {a b : S28} {Aa : Option Addr} {ca : Nat} {Ab : Option Addr} {cb : Nat} (t : TwIn w g a b Aa ca Ab cb) (hb : Below w.heap.size w w1) : TwIn w1 g a b Aa ca Ab cb := ⟨blk_below t.ga hb, blk_below t.gb hb, blk_below t.go hb⟩
theorem TwIn.chg {S : Nat → Prop} {w w1 : World} {g : Nat} {a b : S28} {Aa : Option Addr} {ca : Nat} {Ab : Option Addr} {cb : Nat} (t : TwIn w g a b Aa ca Ab cb) (hc : Chg S w w1) (h0 : ¬ S g) (h1 : ¬ S (g + 1)) (h2 : ¬ S (g + 2)) : TwIn w1 g a b Aa ca Ab cb := ⟨hc.obj t.ga h0, hc.obj t.gb h1, hc.obj t.go h2⟩
set_option maxHeartbeats 8000000 in
set_option maxRecDepth 100000 in
theorem two_any (a b : S28) (Aa : Option Addr) (ca : Nat) (Ab : Option Addr) (cb : Nat) (w : World) (ha : RdI w Aa a.f6) (hb : RdI w Ab b.f6) (hk : TwoOk a b) :
    Calls Try.prog 53 #[acV a (.slice Aa a.f6.length ca), acV b (.slice Ab b.f6.length cb)] w fun e w' => ∃ v, e = .returned (acV (twoA a b) v) ∧ Own w' w.heap.size v (twoA a b).f6 ∧ Below w.heap.size w w' := by
  have HA := Lib.hid ha
  have HBB := Lib.hid hb
  have HK := Lib.hid hk
  clear ha hb hk
  obtain ⟨w3, hw3⟩ : ∃ w3, w3 = ((w.alloc (acO a (.slice Aa a.f6.length ca))).alloc (acO b (.slice Ab b.f6.length cb))).alloc (acO z28 (.slice none 0 0)) := ⟨_, rfl⟩
  have hB : Below w.heap.size w w3 := by rw [hw3]; exact (((Below.refl w.heap.size w).alloc (Nat.le_refl _) _).alloc (by simp) _).alloc (by simp; omega) _
  have hga : w3.heap[w.heap.size]? = some (acO a (.slice Aa a.f6.length ca)) := by rw [hw3]; exact blk_below (heap_alloc_new w _) (((Below.refl _ _).alloc (Nat.le_refl _) _).alloc (by simp) _)
  have hgb : w3.heap[w.heap.size + 1]? = some (acO b (.slice Ab b.f6.length cb)) := by
    rw [hw3]
    have := blk_below (heap_alloc_new (w.alloc (acO a (.slice Aa a.f6.length ca))) (acO b (.slice Ab b.f6.length cb))) ((Below.refl _ _).alloc (Nat.le_refl _) (acO z28 (.slice none 0 0)))
    simpa using this
  have hgo : w3.heap[w.heap.size + 2]? = some (acO z28 (.slice none 0 0)) := by
    rw [hw3]
    have := heap_alloc_new ((w.alloc (acO a (.slice Aa a.f6.length ca))).alloc (acO b (.slice Ab b.f6.length cb))) (acO z28 (.slice none 0 0))
    simpa using this
  have hs3 : w3.heap.size = w.heap.size + 3 := by rw [hw3]; simp
  have HB := Lib.hid hB
  have HGA := Lib.hid hga
  have HGB := Lib.hid hgb
  have HGO := Lib.hid hgo
  have HS := Lib.hid hs3
  have HW3 := Lib.hid hw3
  clear hB hga hgb hgo hs3 hw3
  obtain ⟨hc1, hc2⟩ := HK.out.c1
  obtain ⟨hc3, hc4⟩ := HK.out.c2
  obtain ⟨hs1, hs2⟩ := HK.out.s1
  obtain ⟨hs5, hs6⟩ := HK.out.s2
  obtain ⟨m2, hm2⟩ : ∃ m, (if b.f2 < a.f2 then b.f2 else a.f2) = m := ⟨_, rfl⟩
  obtain ⟨m3, hm3⟩ : ∃ m, (if a.f3 < b.f3 then b.f3 else a.f3) = m := ⟨_, rfl⟩
  have H0 := Lib.hid (show tw0 a b = ⟨a.f0 + b.f0, a.f1 + b.f1, m2, m3, a.f4, b.f5, []⟩ by unfold tw0; rw [hm2, hm3])
  unfold acV
  go_enter Try.func53, Try.ntmps53
  go_wp2_with fail
  show Calls _ _ _ (((((w.alloc (acO a (.slice Aa a.f6.length ca))).alloc (acO b (.slice Ab b.f6.length cb))).alloc (acO z28 (.slice none 0 0)))).alloc (acO ⟨a.f0 + b.f0, a.f1 + b.f1, m2, m3, a.f4, b.f5, []⟩ (.slice none 0 0))) _
  rw [← H0.out, ← HW3.out]
  clear hc1 hc2 hc3 hc4 hs1 hs2 hs5 hs6 hm2 hm3 HW3
  have hb4 : Below w3.heap.size w3 (w3.alloc (acO (tw0 a b) (.slice none 0 0))) := (Below.refl _ _).alloc (Nat.le_refl _) _
  have HC4 := Lib.hid (show (w3.alloc (acO (tw0 a b) (.slice none 0 0))).heap[w.heap.size + 3]? = some (acO (tw0 a b) (.slice none 0 0)) by rw [← HS.out]; exact heap_alloc_new w3 _)
  have HGA4 := Lib.hid (blk_below HGA.out hb4)
  have HGB4 := Lib.hid (blk_below HGB.out hb4)
  have HGO4 := Lib.hid (blk_below HGO.out hb4)
  have HB4 := Lib.hid (HB.out.trans (hb4.mono HB.out.size))
  clear hb4 HGA HGB HGO HB HS
  generalize w3.alloc (acO (tw0 a b) (.slice none 0 0)) = w4 at *
  refine (bef_any b.f4 a.f4 _).mono ?_
  rintro e w5 ⟨rfl, hb⟩
  have HC5 := Lib.hid (blk_below HC4.out hb)
  have HGA5 := Lib.hid (blk_below HGA4.out hb)
  have HGB5 := Lib.hid (blk_below HGB4.out hb)
  have HGO5 := Lib.hid (blk_below HGO4.out hb)
  have HB5 := Lib.hid (HB4.out.trans (hb.mono HB4.out.size))
  clear hb HC4 HGA4 HGB4 HGO4 HB4
  obtain ⟨c0, c1, c2, c3, c4, c5, c6, c7, c8, c9, c10, c11, c12, cl⟩ := acO_facts HC5.out
  obtain ⟨a0, a1, a2, a3, a4, a5, a6, a7, a8, a9, a10, a11, a12, al⟩ := acO_facts HGA5.out
  obtain ⟨b0, b1, b2, b3, b4, b5, b6, b7, b8, b9, b10, b11, b12, bl⟩ := acO_facts HGB5.out
  have hf := fun j => blk_free HC5.out j
  have htw1 : tw1 a b = if bef b.f4 a.f4 = true then ⟨(tw0 a b).f0, (tw0 a b).f1, (tw0 a b).f2, (tw0 a b).f3, b.f4, b.f5, []⟩ else tw0 a b := rfl
  have H1 := Lib.hid htw1
  clear htw1
  generalize bef b.f4 a.f4 = q1 at *
  cases q1
  focus
    have h9 := H1.out
    rw [if_neg (by decide)] at h9
    rw [← h9] at HC5
    clear H1 h9
    go_wp2_with fail
    clear a0 a1 a2 a3 a4 a5 a6 a7 a8 a9 a10 a11 a12 al b0 b1 b2 b3 b4 b5 b6 b7 b8 b9 b10 b11 b12 bl c0 c1 c2 c3 c4 c5 c6 c7 c8 c9 c10 c11 c12 cl hf
    have HC6 := Lib.hid HC5.out
    have HGA6 := Lib.hid HGA5.out
    have HGB6 := Lib.hid HGB5.out
    have HGO6 := Lib.hid HGO5.out
    have HB6 := Lib.hid HB5.out
    clear HC5 HGA5 HGB5 HGO5 HB5
    generalize w5 = w6 at *
  rotate_left 1
  focus
    have h9 := H1.out
    rw [if_pos rfl] at h9
    have H9 := Lib.hid h9
    clear H1 h9
    go_wp2_with fail
    show Calls _ _ _ (put4c w5 (w.heap.size + 3) 4 b.f4) _
    have hbk := blk_put4 HC5.out 4 b.f4
    simp only [List.setIfInBounds_toArray, List.set_cons_zero, List.set_cons_succ] at hbk
    have hch := put4c_chg (Chg.refl (fun k => k = w.heap.size + 3) w5) 4 b.f4
    have HC6 := Lib.hid (show (put4c w5 (w.heap.size + 3) 4 b.f4).heap[w.heap.size + 3]? = some (acO (tw1 a b) (.slice none 0 0)) by rw [H9.out]; exact hbk)
    have HGA6 := Lib.hid (hch.obj HGA5.out (by omega))
    have HGB6 := Lib.hid (hch.obj HGB5.out (by omega))
    have HGO6 := Lib.hid (hch.obj HGO5.out (by omega))
    have HB6 := Lib.hid (Chg.base HB5.out hch HB5.out.size (fun i hi => by omega))
    clear hbk hch a0 a1 a2 a3 a4 a5 a6 a7 a8 a9 a10 a11 a12 al b0 b1 b2 b3 b4 b5 b6 b7 b8 b9 b10 b11 b12 bl c0 c1 c2 c3 c4 c5 c6 c7 c8 c9 c10 c11 c12 cl hf H9 HC5 HGA5 HGB5 HGO5 HB5
    generalize put4c w5 (w.heap.size + 3) 4 b.f4 = w6 at *
  all_goals
    refine (bef_any b.f5 a.f5 _).mono ?_
    rintro e w7 ⟨rfl, hb⟩
    have HC7 := Lib.hid (blk_below HC6.out hb)
    have HGA7 := Lib.hid (blk_below HGA6.out hb)
    have HGB7 := Lib.hid (blk_below HGB6.out hb)
    have HGO7 := Lib.hid (blk_below HGO6.out hb)
    have HB7 := Lib.hid (HB6.out.trans (hb.mono HB6.out.size))
    clear hb HC6 HGA6 HGB6 HGO6 HB6
    obtain ⟨c0, c1, c2, c3, c4, c5, c6, c7, c8, c9, c10, c11, c12, cl⟩ := acO_facts HC7.out
    obtain ⟨a0, a1, a2, a3, a4, a5, a6, a7, a8, a9, a10, a11, a12, al⟩ := acO_facts HGA7.out
    have hf := fun j => blk_free HC7.out j
    have htw2 : tw2 a b = if bef b.f5 a.f5 = true then ⟨(tw1 a b).f0, (tw1 a b).f1, (tw1 a b).f2, (tw1 a b).f3, (tw1 a b).f4, a.f5, []⟩ else tw1 a b := rfl
    have H2 := Lib.hid htw2
    clear htw2
    generalize bef b.f5 a.f5 = q2 at *
    cases q2
    focus
      have h9 := H2.out
      rw [if_neg (by decide)] at h9
      rw [← h9] at HC7
      clear H2 h9
      go_wp2_with fail
      clear a0 a1 a2 a3 a4 a5 a6 a7 a8 a9 a10 a11 a12 al c0 c1 c2 c3 c4 c5 c6 c7 c8 c9 c10 c11 c12 cl hf
      have HC8 := Lib.hid HC7.out
      have HGA8 := Lib.hid HGA7.out
      have HGB8 := Lib.hid HGB7.out
      have HGO8 := Lib.hid HGO7.out
      have HB8 := Lib.hid HB7.out
      clear HC7 HGA7 HGB7 HGO7 HB7
      generalize w7 = w8 at *
    rotate_left 1
    focus
      have h9 := H2.out
      rw [if_pos rfl] at h9
      have H9 := Lib.hid h9
      clear H2 h9
      go_wp2_with fail
      show Code.wp _ _ _ _ (put4c w7 (w.heap.size + 3) 8 a.f5)
      have hbk := blk_put4 HC7.out 8 a.f5
      simp only [List.setIfInBounds_toArray, List.set_cons_zero, List.set_cons_succ] at hbk
      have hch := put4c_chg (Chg.refl (fun k => k = w.heap.size + 3) w7) 8 a.f5
      have HC8 := Lib.hid (show (put4c w7 (w.heap.size + 3) 8 a.f5).heap[w.heap.size + 3]? = some (acO (tw2 a b) (.slice none 0 0)) by rw [H9.out]; exact hbk)
      have HGA8 := Lib.hid (hch.obj HGA7.out (by omega))
      have HGB8 := Lib.hid (hch.obj HGB7.out (by omega))
      have HGO8 := Lib.hid (hch.obj HGO7.out (by omega))
      have HB8 := Lib.hid (Chg.base HB7.out hch HB7.out.size (fun i hi => by omega))
      clear hbk hch a0 a1 a2 a3 a4 a5 a6 a7 a8 a9 a10 a11 a12 al c0 c1 c2 c3 c4 c5 c6 c7 c8 c9 c10 c11 c12 cl hf H9 HC7 HGA7 HGB7 HGO7 HB7
      generalize put4c w7 (w.heap.size + 3) 8 a.f5 = w8 at *
    all_goals
      go_loopw [6] (fun s wr => ∃ (k : Nat) (v : Value), s = .int .i64 k ∧ k ≤ a.f6.length ∧ TwAt w wr (w.heap.size + 3) (tw2 a b) ((hadd a.f6 b.f6).take k) v ∧ TwIn wr w.heap.size a b Aa ca Ab cb) (fun s _ => a.f6.length - (intOf s).toNat)
      case atStart =>
        refine ⟨0, .slice none 0 0, rfl, by omega, ⟨?_, Own.nil _ _, HB8.out⟩, HGA8.out, HGB8.out, HGO8.out⟩
        rw [HC8.out]
        congr 2
        unfold tw3
        have := tw_f6 a b
        cases htw : tw2 a b
        rw [htw] at this
        simp only at this
        subst this
        rfl
      case round =>
        obtain ⟨k, v, rfl, hk, ht, hin⟩ := hrel
        have HT := Lib.hid ht
        have HIN := Lib.hid hin
        have hl := HK.out.len
        have hl9 := HK.out.l9
        have HL := Lib.hid hl
        clear ht hin hl
        have hgl := blk_lt HT.out.blk
        obtain ⟨c0, c1, c2, c3, c4, c5, c6, c7, c8, c9, c10, c11, c12, cl⟩ := acO_facts HT.out.blk
        obtain ⟨a0, a1, a2, a3, a4, a5, a6, a7, a8, a9, a10, a11, a12, al⟩ := acO_facts HIN.out.ga
        obtain ⟨b0, b1, b2, b3, b4, b5, b6, b7, b8, b9, b10, b11, b12, bl⟩ := acO_facts HIN.out.gb
        obtain ⟨z0, z1, z2, z3, z4, z5, z6, z7, z8, z9, z10, z11, z12, zl⟩ := acO_facts HIN.out.go
        clear c0 c1 c2 c3 c4 c5 c6 c7 c8 c9 c10 c11 a0 a1 a2 a3 a4 a5 a6 a7 a8 a9 a10 a11 b0 b1 b2 b3 b4 b5 b6 b7 b8 b9 b10 b11
        by_cases hlt : k < a.f6.length
        · clear z0 z1 z2 z3 z4 z5 z6 z7 z8 z9 z10 z11 z12 zl
          obtain ⟨ada, rfl, ea⟩ := ((HA.out).below HT.out.bel).at_ hlt
          have hltb : k < b.f6.length := by have := HL.out; omega
          obtain ⟨adb, rfl, eb⟩ := ((HBB.out).below HT.out.bel).at_ hltb
          obtain ⟨n1, n2⟩ := HK.out.h1 k hlt
          obtain ⟨n3, n4⟩ := HK.out.h2 k hlt
          have hsn := hadd_take HL.out hlt
          obtain ⟨na, hna⟩ : ∃ n, a.f6.getD k 0 = n := ⟨_, rfl⟩
          obtain ⟨nb, hnb⟩ : ∃ n, b.f6.getD k 0 = n := ⟨_, rfl⟩
          rw [hna] at ea n1 n2 hsn
          rw [hnb] at eb n3 n4 hsn
          have HSN := Lib.hid hsn
          clear hsn hna hnb
          have hda : decide (k < a.f6.length) = true := decide_eq_true hlt
          have hdb : decide (k < b.f6.length) = true := decide_eq_true hltb
          go_wp2_with fail
          refine Txt.wp_region_mix (by kernel_rfl) (by kernel_rfl) (fun HB => ?_)
          repeat (first
            | (refine Txt.mix_p (by rfl) rfl rfl (fun K hK => ?_); go_big_quiet_op; refine hK _ ?_; clear hK K)
            | (refine Txt.mix_re (by rfl) (by decide +kernel) (by rfl) (by rfl) (by go_simp) HB (fun K hK => ?_); go_big_quiet_op; refine hK _ ?_; clear hK K)
            | (refine Txt.mix_rl (by rfl) (by decide +kernel) (by rfl) (by rfl) (by go_simp) HB (fun K hK => ?_); go_big_quiet_op; refine hK _ ?_; clear hK K)
            | (refine Txt.mix_pass (by rfl) (by rfl) ?_; simp only [List.set_cons_succ, List.set_cons_zero]))
          refine Txt.mix_m (fun g => .slice (some ⟨g, 0, none⟩) 1 1) (.cells #[.int .i64 (na + nb)] 3) (by rfl) (by decide +kernel) (fun w1 => by go_simp) HB ?_
          intro gn wn hbn hgn hon
          replace HB := HB.trans hbn
          simp only [Act.put, List.setIfInBounds_toArray, List.set_cons_succ, List.set_cons_zero]
          have HT2 := Lib.hid (HT.out.below HB.undrew)
          have HIN2 := Lib.hid (HIN.out.below HB.undrew)
          have HON := Lib.hid hon
          clear hon hgn hbn HT HIN c12 cl a12 al b12 bl ea eb hda hdb hgl
          have hlk : ((hadd a.f6 b.f6).take k).length = k := by
            rw [List.length_take]
            have : (hadd a.f6 b.f6).length = a.f6.length := by unfold hadd; rw [List.length_zipWith]; have := HL.out; omega
            omega
          have HLK := Lib.hid hlk
          clear hlk
          refine Txt.mix_a (by rfl) (by decide +kernel) (fun K hK => ?_)
          refine wp_append (.tmp 56) (.tmp 68) 22 3 (.int .i64 0) 1 8 w.heap.size rfl Try.underlying22 info_int rfl (by decide) v k 1 (((hadd a.f6 b.f6).take k).map (Value.int .i64)) [.int .i64 (na + nb)] gn 1 rfl rfl (by have := HT2.out.row; unfold Own at this; rw [HLK.out] at this; exact this) HT2.out.bel.size rfl ?_ ?_ (by omega) (by omega) ?_
          · intro j u hu
            rw [blk_cell HON.out]
            exact (List.getElem?_toArray).trans hu
          · intro u hu
            simp only [List.mem_cons, List.not_mem_nil, or_false] at hu
            subst hu
            rfl
          intro v1 w1 hown hgr hat
          refine hK _ _ ?_
          clear hK K
          simp only [Act.put, List.setIfInBounds_toArray, List.set_cons_succ, List.set_cons_zero]
          have hch : Chg (fun i => some i = v.ownBlock) wn w1 := (Chg.refl _ wn).grown hgr (fun j hj => .inl hj.symm)
          have hblk := hch.obj HT2.out.blk (own_no HT2.out.row HT2.out.blk)
          have HIN3 := Lib.hid (HIN2.out.chg hch (own_no HT2.out.row HIN2.out.ga) (own_no HT2.out.row HIN2.out.gb) (own_no HT2.out.row HIN2.out.go))
          have hrow : Own w1 w.heap.size v1 ((hadd a.f6 b.f6).take (k + 1)) := by
            rw [HSN.out]
            unfold Own
            rw [List.length_append, HLK.out, List.map_append]
            exact hown
          obtain ⟨Ar, cr, rfl, _, _⟩ := hrow.reads
          obtain ⟨lr, hlr⟩ : ∃ n, ((hadd a.f6 b.f6).take (k + 1)).length = n := ⟨_, rfl⟩
          rw [hlr] at hrow hown ⊢
          clear hlr
          have hb1 := Chg.base HT2.out.bel hch HT2.out.bel.size (fun i hi => own_base HT2.out.row i hi.symm)
          have HROW := Lib.hid hrow
          have HB1 := Lib.hid hb1
          have HBLK := Lib.hid hblk
          have hc12 := (acO_facts hblk).2.2.2.2.2.2.2.2.2.2.2.2.1
          have hf := fun j => blk_free hblk j
          clear hown hgr hat hch hrow hb1 HT2 HIN2 HON hblk HB
          repeat (first
            | (refine Txt.mix_p (by rfl) rfl rfl (fun K hK => ?_); go_big_quiet_op; refine hK _ ?_; clear hK K)
            | (refine Txt.mix_re (by rfl) (by decide +kernel) (by rfl) (by rfl) (by go_simp) HB (fun K hK => ?_); go_big_quiet_op; refine hK _ ?_; clear hK K)
            | (refine Txt.mix_rl (by rfl) (by decide +kernel) (by rfl) (by rfl) (by go_simp) HB (fun K hK => ?_); go_big_quiet_op; refine hK _ ?_; clear hK K)
            | (refine Txt.mix_pass (by rfl) (by rfl) ?_; simp only [List.set_cons_succ, List.set_cons_zero]))
          refine Txt.mix_a (by rfl) (by decide +kernel) (fun K hK => ?_)
          go_wp2_with fail
          refine Txt.mix_nil ?_
          have hc2 := (Chg.refl (fun i => i = w.heap.size + 3) w1).setCell (p := ⟨w.heap.size + 3, 12, none⟩) (.inl rfl) (.slice Ar lr cr)
          have hbl2 : (w1.setCell ⟨w.heap.size + 3, 12, none⟩ (.slice Ar lr cr)).heap[w.heap.size + 3]? = some (acO (tw3 (tw2 a b) ((hadd a.f6 b.f6).take (k + 1))) (.slice Ar lr cr)) := by
            have := blk_set HBLK.out 12 (.slice Ar lr cr)
            simp only [List.setIfInBounds_toArray, List.set_cons_zero, List.set_cons_succ] at this
            exact this
          have HT4 := Lib.hid (show TwAt w (w1.setCell ⟨w.heap.size + 3, 12, none⟩ (.slice Ar lr cr)) (w.heap.size + 3) (tw2 a b) ((hadd a.f6 b.f6).take (k + 1)) (.slice Ar lr cr) from ⟨hbl2, HROW.out.keep hc2 (fun j hj e => own_no HROW.out HBLK.out (by rw [hj, e])), Chg.base HB1.out hc2 HB1.out.size (fun i hi => by omega)⟩)
          have HIN4 := Lib.hid (HIN3.out.chg hc2 (by omega) (by omega) (by omega))
          clear hc2 hbl2 HROW HB1 HBLK HIN3 hc12 hf
          first | show Exit.inBlock _ _ _ _ (w1.setCell ⟨w.heap.size + 3, 12, none⟩ (.slice Ar lr cr)) | show Exit.then _ _ _ _ (w1.setCell ⟨w.heap.size + 3, 12, none⟩ (.slice Ar lr cr)) | show Code.wp _ _ _ _ (w1.setCell ⟨w.heap.size + 3, 12, none⟩ (.slice Ar lr cr))
          generalize w1.setCell ⟨w.heap.size + 3, 12, none⟩ (.slice Ar lr cr) = w9 at *
          go_wp2_with fail
          exact ⟨⟨k + 1, (.slice Ar lr cr), by go_num, by omega, HT4.out, HIN4.out⟩, by simp [intOf]; omega⟩
        · obtain rfl : k = a.f6.length := by omega
          have hlen : (hadd a.f6 b.f6).length = a.f6.length := by unfold hadd; rw [List.length_zipWith]; have := HL.out; omega
          have hta : tw3 (tw2 a b) ((hadd a.f6 b.f6).take a.f6.length) = twoA a b := by rw [← hlen, List.take_length]; rfl
          obtain ⟨c0, c1, c2, c3, c4, c5, c6, c7, c8, c9, c10, c11, _, _⟩ := acO_facts HT.out.blk
          have hfo := fun j => blk_free HIN.out.go j
          rw [hta] at c0 c1 c2 c3 c4 c5 c6 c7 c8 c9 c10 c11
          obtain ⟨Ar, cr, rfl, _, _⟩ := HT.out.row.reads
          rw [show ((hadd a.f6 b.f6).take a.f6.length).length = a.f6.length by rw [List.length_take]; omega] at c12 HT
          have HTA := Lib.hid hta
          clear hta
          go_wp2_with fail
          show bodyPost _ _ _ _ _ (putA wr (w.heap.size + 2) (twoA a b) (.slice Ar a.f6.length cr))
          have hch := putA_chg wr (w.heap.size + 2) (twoA a b) (.slice Ar a.f6.length cr)
          refine bodyPost_ret (results_cell_row rfl _ _ (w.heap.size + 2) 28 _ (0, 0) _ rfl (putA_blk (a := twoA a b) (v := .slice Ar a.f6.length cr) HIN.out.go) Try.underlying28 rfl (by kernel_rfl)) rfl ?_
          refine ⟨.slice Ar a.f6.length cr, rfl, ?_, Chg.base HT.out.bel hch HT.out.bel.size (fun i hi => by omega)⟩
          have hr := HT.out.row.keep hch (fun j hj e => own_no HT.out.row HIN.out.go (by rw [hj, e]))
          rw [show (twoA a b).f6 = (hadd a.f6 b.f6).take a.f6.length by rw [← hlen, List.take_length]; rfl]
          exact hr
end Go.Proofs.Ytggaefklcpbfnaa.My

namespace Go.Proofs.Ytggaefklcpbfnaa.Pa
open Go.RowKit Go.Proofs.YtggaefklcpbfnaaW.PrintWords Go.Proofs.YtggaefklcpbfnaaW.PrintLast Go.Proofs.YtggaefklcpbfnaaW.PrintMore
attribute [local go_sem] max2_int min2_int max_two min_two max_three min_three max_four min_four   -- for this text's walks alone
set_option linter.unusedVariables false
set_option linter.unusedSimpArgs false

def bourneref1_two.f (a0_0 : Int) (a0_1 : Int) (a0_2 : Int) (a0_3 : Int) (a0_4 : Int) (a0_5 : Int) (a0_6 : Int) (a0_7 : Int) (a0_8 : Int) (a0_9 : Int) (a0_10 : Int) (a0_11 : Int) (l0_12 : List Int) (a1_0 : Int) (a1_1 : Int) (a1_2 : Int) (a1_3 : Int) (a1_4 : Int) (a1_5 : Int) (a1_6 : Int) (a1_7 : Int) (a1_8 : Int) (a1_9 : Int) (a1_10 : Int) (a1_11 : Int) (l1_12 : List Int) : Option (Int × Int × Int × Int × Int × Int × Int × Int × Int × Int × Int × Int × List Int) := if My.TwoOk ⟨a0_0, a0_1, a0_2, a0_3, ⟨a0_4, a0_5, a0_6, a0_7⟩, ⟨a0_8, a0_9, a0_10, a0_11⟩, l0_12⟩ ⟨a1_0, a1_1, a1_2, a1_3, ⟨a1_4, a1_5, a1_6, a1_7⟩, ⟨a1_8, a1_9, a1_10, a1_11⟩, l1_12⟩ then ((fun (p : S28) => some (p.f0, p.f1, p.f2, p.f3, p.f4.f0, p.f4.f1, p.f4.f2, p.f4.f3, p.f5.f0, p.f5.f1, p.f5.f2, p.f5.f3, p.f6)) (My.twoA ⟨a0_0, a0_1, a0_2, a0_3, ⟨a0_4, a0_5, a0_6, a0_7⟩, ⟨a0_8, a0_9, a0_10, a0_11⟩, l0_12⟩ ⟨a1_0, a1_1, a1_2, a1_3, ⟨a1_4, a1_5, a1_6, a1_7⟩, ⟨a1_8, a1_9, a1_10, a1_11⟩, l1_12⟩)) else none
theorem bourneref1_two.calls (a0_0 : Int) (a0_1 : Int) (a0_2 : Int) (a0_3 : Int) (a0_4 : Int) (a0_5 : Int) (a0_6 : Int) (a0_7 : Int) (a0_8 : Int) (a0_9 : Int) (a0_10 : Int) (a0_11 : Int) (A0_12 : Option Addr) (c0_12 : Nat) (l0_12 : List Int) (a1_0 : Int) (a1_1 : Int) (a1_2 : Int) (a1_3 : Int) (a1_4 : Int) (a1_5 : Int) (a1_6 : Int) (a1_7 : Int) (a1_8 : Int) (a1_9 : Int) (a1_10 : Int) (a1_11 : Int) (A1_12 : Option Addr) (c1_12 : Nat) (l1_12 : List Int) (r1 : Int) (r2 : Int) (r3 : Int) (r4 : Int) (r5 : Int) (r6 : Int) (r7 : Int) (r8 : Int) (r9 : Int) (r10 : Int) (r11 : Int) (r12 : Int) (r13 : List Int) (w : World) (hr0_12 : Kd.C (Kd.int .i64) w A0_12 l0_12.length l0_12) (hc0_12 : l0_12.length ≤ c0_12) (hr1_12 : Kd.C (Kd.int .i64) w A1_12 l1_12.length l1_12) (hc1_12 : l1_12.length ≤ c1_12) (h : bourneref1_two.f a0_0 a0_1 a0_2 a0_3 a0_4 a0_5 a0_6 a0_7 a0_8 a0_9 a0_10 a0_11 l0_12 a1_0 a1_1 a1_2 a1_3 a1_4 a1_5 a1_6 a1_7 a1_8 a1_9 a1_10 a1_11 l1_12 = some (r1, r2, r3, r4, r5, r6, r7, r8, r9, r10, r11, r12, r13)) :
    Calls Try.prog 53 #[.agg #[.int .i64 a0_0, .int .i64 a0_1, .int .i64 a0_2, .int .i64 a0_3, .int .i64 a0_4, .int .i64 a0_5, .int .i64 a0_6, .int .i64 a0_7, .int .i64 a0_8, .int .i64 a0_9, .int .i64 a0_10, .int .i64 a0_11, .slice A0_12 l0_12.length c0_12], .agg #[.int .i64 a1_0, .int .i64 a1_1, .int .i64 a1_2, .int .i64 a1_3, .int .i64 a1_4, .int .i64 a1_5, .int .i64 a1_6, .int .i64 a1_7, .int .i64 a1_8, .int .i64 a1_9, .int .i64 a1_10, .int .i64 a1_11, .slice A1_12 l1_12.length c1_12]] w fun e w' => ∃ v12_ : Value, e = .returned (.agg #[.int .i64 r1, .int .i64 r2, .int .i64 r3, .int .i64 r4, .int .i64 r5, .int .i64 r6, .int .i64 r7, .int .i64 r8, .int .i64 r9, .int .i64 r10, .int .i64 r11, .int .i64 r12, v12_]) ∧ Kd.R (Kd.int .i64) 3 w' w.heap.size (fun _ => True) v12_ r13 ∧ Below w.heap.size w w' := by
  unfold bourneref1_two.f at h
  by_cases hk : My.TwoOk ⟨a0_0, a0_1, a0_2, a0_3, ⟨a0_4, a0_5, a0_6, a0_7⟩, ⟨a0_8, a0_9, a0_10, a0_11⟩, l0_12⟩ ⟨a1_0, a1_1, a1_2, a1_3, ⟨a1_4, a1_5, a1_6, a1_7⟩, ⟨a1_8, a1_9, a1_10, a1_11⟩, l1_12⟩
  · rw [if_pos hk] at h
    simp only [Option.some.injEq, Prod.mk.injEq] at h
    obtain ⟨rfl, rfl, rfl, rfl, rfl, rfl, rfl, rfl, rfl, rfl, rfl, rfl, rfl⟩ := h
    refine (My.two_any ⟨a0_0, a0_1, a0_2, a0_3, ⟨a0_4, a0_5, a0_6, a0_7⟩, ⟨a0_8, a0_9, a0_10, a0_11⟩, l0_12⟩ ⟨a1_0, a1_1, a1_2, a1_3, ⟨a1_4, a1_5, a1_6, a1_7⟩, ⟨a1_8, a1_9, a1_10, a1_11⟩, l1_12⟩ A0_12 c0_12 A1_12 c1_12 w hr0_12 hr1_12 hk).mono ?_
    rintro e w' ⟨v, he, ho, hb⟩
    exact ⟨v, he, Kd.R_of_own ho (fun _ _ => trivial), hb⟩
  · rw [if_neg hk] at h
    cases h
end Go.Proofs.Ytggaefklcpbfnaa.Pa
