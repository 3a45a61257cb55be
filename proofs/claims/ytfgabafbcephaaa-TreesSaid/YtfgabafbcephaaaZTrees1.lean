/- Lemmas, contracts of functions and plain laws, part 1: what the row's proof uses. No statement of the seed is proved here. -/
import Derived.Deep.Quiet
import Derived.Below
import Derived.Test.YtfgabafbcephaaaYPaLeaf
import Derived.Test.YtfgabafbcephaaaYPaEq0
import Derived.BigQuiet
import Derived.Deep.LoopGhost
import Derived.Lib.Hide
import Derived.Test.YtfgabafbcephaaaProg
import Derived.WalkKit
import Derived.SizedLaws
import Derived.Lib.SmallJoins
import Derived.Test.YtfgabafbcephaaaYPaSameA
import Derived.Deep.Slices
import Derived.Test.YtfgabafbcephaaaYWMore
import Derived.Test.YtfgabafbcephaaaYPaBefore
import Derived.Test.YtfgabafbcephaaaYPaBourneref1histMay
namespace Go.Txt

inductive Cl where
  | p
  | r
  | a
  deriving DecidableEq

def cl : Op → Cl
  | .move _ => .p
  | .assign _ => .p
  | .pick .. => .p
  | .nilCheck _ => .p
  | .binOp .. => .p
  | .unOp .. => .p
  | .convert .. => .p
  | .fieldAddr .. => .p
  | .field .. => .p
  | .indexAddr .. => .p
  | .index .. => .p
  | .extract .. => .p
  | .slice .. => .p
  | .build .. => .p
  | .load .. => .r
  | .call c => match c.callee with
    | .builtin .len => .p
    | .builtin .cap => .p
    | .builtin .max => .p
    | .builtin .min => .p
    | _ => .a
  | _ => .a

def NoQ : Exit → Act → World → Prop := fun _ _ _ => False

theorem NoQ_out : ¬ LetsOut NoQ := fun ⟨_, _, h⟩ => h

inductive Tr where
  | put (v : Value)
  | dfr (d : Deferred)

def Tr.on (t : Tr) (dst : Option Tmp) (a : Act) : Act :=
  match t with
  | .put v => a.put dst v
  | .dfr d => ({ a with defers := d :: a.defers } : Act).put dst undef

def outc (P : Program) (r : Result Next) (F : Tr → World → Prop) : Prop :=
  match r with
  | .ok (.value v) w' => F (.put v) w'
  | .ok .skip w' => F (.put undef) w'
  | .ok (.defer d) w' => F (.dfr d) w'
  | .ok (.enter f args) w' => Calls P f args w' fun
      | .returned v, w'' => F (.put v) w''
      | _, _ => False
  | .ok (.row row args) w' => Rows P row args w' fun v w'' => F (.put v) w''
  | _ => False

section
variable {P : Program} {ops : Array Oper}

theorem outc_mono {r : Result Next} {F G : Tr → World → Prop} (h : ∀ t w, F t w → G t w) (hr : outc P r F) : outc P r G := by
  cases r with
  | ok n w' =>
    cases n <;> simp only [outc] at hr ⊢
    case value v => exact h _ _ hr
    case skip => exact h _ _ hr
    case defer d => exact h _ _ hr
    case enter f args => exact Calls.mono hr fun e w'' he => by cases e <;> first | exact h _ _ he | exact he
    case row row args => exact Rows.mono hr fun _ _ he => h _ _ he
  | halt x w' => cases x <;> simp only [outc] at hr

theorem outc_false {r : Result Next} (hr : outc P r fun _ _ => False) : False := by
  cases r with
  | ok n w' =>
    cases n <;> simp only [outc] at hr
    case enter f args =>
      obtain ⟨e, w'', fr, he, _⟩ := hr []
      cases e <;> exact he
    case row row args =>
      obtain ⟨v, w'', he, _⟩ := hr default []
      exact he
  | halt x w' => cases x <;> simp only [outc] at hr

theorem outc_of_wp {o : Oper} {a : Act} {w : World} {K : Act → World → Prop} (h : o.wp P a w K NoQ) : outc P ((execOp a.eval o).run P w) fun t w' => K (t.on o.dst a) w' := by
  unfold Oper.wp at h
  generalize (execOp a.eval o).run P w = r at *
  cases r with
  | ok n w' =>
    cases n <;> simp only [Oper.upon] at h <;> simp only [outc]
    case value v => exact h
    case skip => exact h
    case defer d => exact h
    case enter f args =>
      refine Calls.mono h fun e w'' he => ?_
      cases e with
      | returned v => exact he
      | panicked c => exact he
      | outgrown => exact (NoQ_out he).elim
    case row row args => exact h
  | halt x w' =>
    cases x <;> simp only [Oper.upon] at h
    case panic v => exact h.elim

theorem wp_of_outc {o : Oper} {a : Act} {w : World} {K : Act → World → Prop} {Q : Exit → Act → World → Prop} (h : outc P ((execOp a.eval o).run P w) fun t w' => K (t.on o.dst a) w') : o.wp P a w K Q := by
  unfold Oper.wp
  generalize (execOp a.eval o).run P w = r at *
  cases r with
  | ok n w' =>
    cases n <;> simp only [outc] at h <;> simp only [Oper.upon]
    case value v => exact h
    case skip => exact h
    case defer d => exact h
    case enter f args =>
      refine Calls.mono h fun e w'' he => ?_
      cases e with
      | returned v => exact he
      | panicked c => exact he.elim
      | outgrown => exact he.elim
    case row row args => exact h
  | halt x w' => cases x <;> simp only [outc] at h

def Sure (P : Program) (o : Oper) (a : Act) (v : Value) : Prop := ∀ w, (execOp a.eval o).run P w = .ok (.value v) w

def stepT (P : Program) (ops : Array Oper) (o : Oper) (K : Act → World → Prop) (a : Act) (w : World) : Prop :=
  if Region.wanted o (yielded ops a.tmps) then
    match cl o.op with
    | .p => ∃ v, Sure P o a v ∧ K (a.put o.dst v) w
    | .r => ∃ v, (execOp a.eval o).run P w = .ok (.value v) w ∧ K (a.put o.dst v) w
    | .a => outc P ((execOp a.eval o).run P w) fun t w' => K (t.on o.dst a) w'
  else K (a.put o.dst undef) w

theorem stepT_mono {o : Oper} {K K' : Act → World → Prop} {a : Act} {w : World} (h : ∀ a w, K a w → K' a w) (hs : stepT P ops o K a w) : stepT P ops o K' a w := by
  unfold stepT at *
  split
  · rename_i hw
    rw [if_pos hw] at hs
    split
    · rename_i hc; rw [hc] at hs; obtain ⟨v, h1, h2⟩ := hs; exact ⟨v, h1, h _ _ h2⟩
    · rename_i hc; rw [hc] at hs; obtain ⟨v, h1, h2⟩ := hs; exact ⟨v, h1, h _ _ h2⟩
    · rename_i hc; rw [hc] at hs; exact outc_mono (fun _ _ he => h _ _ he) hs
  · rename_i hw
    rw [if_neg hw] at hs
    exact h _ _ hs

theorem wpOp_of_stepT {i : Nat} {o : Oper} (hi : ops[i]? = some o) {K : Act → World → Prop} {Q : Exit → Act → World → Prop} {a : Act} {w : World} (hs : stepT P ops o K a w) : wpOp P ops Q i K a w := by
  unfold stepT at hs
  unfold wpOp
  simp only [hi]
  split
  · rename_i hw
    rw [if_pos hw] at hs
    refine .inl ?_
    split at hs
    · obtain ⟨v, h1, h2⟩ := hs
      simp only [Oper.wp, h1 w, Oper.upon]
      exact h2
    · obtain ⟨v, h1, h2⟩ := hs
      simp only [Oper.wp, h1, Oper.upon]
      exact h2
    · exact wp_of_outc hs
  · rename_i hw
    rw [if_neg hw] at hs
    exact hs

theorem put_on_comm (t : Tr) (x y : Option Tmp) (a : Act) (v : Value) (h : ∀ d, y = some d → x ≠ some d) : t.on x (a.put y v) = (t.on x a).put y v := by
  cases t with
  | put u => exact Act.put_comm a v u (fun d hd he => h d hd he)
  | dfr d =>
    simp only [Tr.on]
    rw [Act.put_defers]
    exact Act.put_comm _ v undef (fun d hd he => h d hd he)

theorem exec_on (t : Tr) (x : Option Tmp) (a : Act) (o : Oper) (hs : ∀ cs b, o.op ≠ .select cs b) (h : ∀ d, x = some d → d ∉ o.looksAt ops) : execOp (t.on x a).eval o = execOp a.eval o := by
  cases t with
  | put u => exact execOp_put o hs a x u h
  | dfr d =>
    simp only [Tr.on]
    rw [execOp_put o hs _ x undef h]
    rfl

theorem wanted_on (t : Tr) (x : Option Tmp) (a : Act) (o : Oper) (h : ∀ d, x = some d → d ∉ o.looksAt ops) : Region.wanted o (yielded ops (t.on x a).tmps) = Region.wanted o (yielded ops a.tmps) := by
  cases t with
  | put u => exact wanted_put o a x u h
  | dfr d =>
    simp only [Tr.on]
    rw [wanted_put o _ x undef h]

theorem stepT_swap {oi oj : Oper} (hap : oj.apart ops oi = true) (hsi : ∀ cs b, oi.op ≠ .select cs b) (hsj : ∀ cs b, oj.op ≠ .select cs b)
    (hc : cl oj.op = .p ∨ cl oi.op = .p ∨ (cl oj.op = .r ∧ cl oi.op = .r)) {K : Act → World → Prop} {a : Act} {w : World}
    (h : stepT P ops oj (stepT P ops oi K) a w) : stepT P ops oi (stepT P ops oj K) a w := by
  obtain ⟨h1, h2, h3⟩ := Oper.apart_spec hap
  have h2' : ∀ d, oi.dst = some d → oj.dst ≠ some d := fun d hd he => h2 d he hd
  have ej : ∀ (t : Tr) (b : Act), execOp (t.on oi.dst b).eval oj = execOp b.eval oj := fun t b => exec_on t _ _ oj hsj h3
  have wj : ∀ (t : Tr) (b : Act), Region.wanted oj (yielded ops (t.on oi.dst b).tmps) = Region.wanted oj (yielded ops b.tmps) := fun t b => wanted_on t _ _ oj h3
  have ei : ∀ (t : Tr) (b : Act), execOp (t.on oj.dst b).eval oi = execOp b.eval oi := fun t b => exec_on t _ _ oi hsi h1
  have wi : ∀ (t : Tr) (b : Act), Region.wanted oi (yielded ops (t.on oj.dst b).tmps) = Region.wanted oi (yielded ops b.tmps) := fun t b => wanted_on t _ _ oi h1
  have ejp : ∀ (v : Value) (b : Act), execOp (b.put oi.dst v).eval oj = execOp b.eval oj := fun v b => ej (.put v) b
  have wjp : ∀ (v : Value) (b : Act), Region.wanted oj (yielded ops (b.put oi.dst v).tmps) = Region.wanted oj (yielded ops b.tmps) := fun v b => wj (.put v) b
  have eip : ∀ (v : Value) (b : Act), execOp (b.put oj.dst v).eval oi = execOp b.eval oi := fun v b => ei (.put v) b
  have wip : ∀ (v : Value) (b : Act), Region.wanted oi (yielded ops (b.put oj.dst v).tmps) = Region.wanted oi (yielded ops b.tmps) := fun v b => wi (.put v) b
  have cij : ∀ (t : Tr) (b : Act) (v : Value), t.on oi.dst (b.put oj.dst v) = (t.on oi.dst b).put oj.dst v := fun t b v => put_on_comm t _ _ b v (fun d hd => fun he => h2 d hd he)
  have cji : ∀ (t : Tr) (b : Act) (v : Value), t.on oj.dst (b.put oi.dst v) = (t.on oj.dst b).put oi.dst v := fun t b v => put_on_comm t _ _ b v (fun d hd => h2' d hd)
  have cpp : ∀ (b : Act) (u v : Value), (b.put oj.dst v).put oi.dst u = (b.put oi.dst u).put oj.dst v := fun b u v => cij (.put u) b v
  by_cases wa : Region.wanted oj (yielded ops a.tmps) = true
  · by_cases wb : Region.wanted oi (yielded ops a.tmps) = true
    · -- both are carried out
      rcases hc with hc | hc | ⟨hcj, hci⟩
      · -- the first touches no memory
        have hj : ∃ v, Sure P oj a v ∧ stepT P ops oi K (a.put oj.dst v) w := by
          unfold stepT at h
          rw [if_pos wa, hc] at h
          exact h
        obtain ⟨v, hv, hi⟩ := hj
        have again : ∀ (b : Act) (w' : World), Region.wanted oj (yielded ops b.tmps) = true → execOp b.eval oj = execOp a.eval oj → K (b.put oj.dst v) w' → stepT P ops oj K b w' := fun b w' e1 e2 e3 => by
          unfold stepT
          rw [if_pos e1, hc]
          exact ⟨v, fun x => by rw [e2]; exact hv x, e3⟩
        unfold stepT at hi
        rw [wip, if_pos wb] at hi
        unfold stepT
        rw [if_pos wb]
        cases hci : cl oi.op with
        | p =>
          rw [hci] at hi
          obtain ⟨u, hu, hk⟩ := hi
          refine ⟨u, fun x => ?_, again _ _ ((wjp u a).trans wa) (ejp u a) (by rw [← cpp]; exact hk)⟩
          have := hu x
          rwa [eip] at this
        | r =>
          rw [hci] at hi
          obtain ⟨u, hu, hk⟩ := hi
          refine ⟨u, ?_, again _ _ ((wjp u a).trans wa) (ejp u a) (by rw [← cpp]; exact hk)⟩
          rwa [eip] at hu
        | a =>
          rw [hci] at hi
          simp only [eip] at hi
          refine outc_mono (fun t w' hk => again _ _ ((wj t a).trans wa) (ej t a) ?_) hi
          rw [cij] at hk
          exact hk
      · -- the second touches no memory
        have first : ∀ (b : Act) (w' : World), Region.wanted oi (yielded ops b.tmps) = true → stepT P ops oi K b w' → ∃ u, Sure P oi b u ∧ K (b.put oi.dst u) w' := fun b w' e1 hb => by
          unfold stepT at hb
          rw [if_pos e1, hc] at hb
          exact hb
        have mk : ∀ u, Sure P oi a u → stepT P ops oj K (a.put oi.dst u) w → stepT P ops oi (stepT P ops oj K) a w := fun u hu hk => by
          unfold stepT
          rw [if_pos wb, hc]
          exact ⟨u, hu, hk⟩
        have one : ∀ (b : Act) (u v : Value), execOp b.eval oi = execOp a.eval oi → Sure P oi b u → Sure P oi a v → u = v := fun b u v e1 hu hv => by
          have e2 := hu w
          rw [e1, hv w] at e2
          injection e2 with e2
          injection e2 with e2
          exact e2.symm
        unfold stepT at h
        rw [if_pos wa] at h
        cases hcj : cl oj.op with
        | p =>
          rw [hcj] at h
          obtain ⟨v, hv, hk⟩ := h
          obtain ⟨u, hu, hk⟩ := first _ _ ((wip v a).trans wb) hk
          refine mk u (fun x => by have := hu x; rwa [eip] at this) ?_
          unfold stepT
          rw [if_pos ((wjp u a).trans wa), hcj]
          exact ⟨v, fun x => by rw [ejp]; exact hv x, by rw [← cpp]; exact hk⟩
        | r =>
          rw [hcj] at h
          obtain ⟨v, hv, hk⟩ := h
          obtain ⟨u, hu, hk⟩ := first _ _ ((wip v a).trans wb) hk
          refine mk u (fun x => by have := hu x; rwa [eip] at this) ?_
          unfold stepT
          rw [if_pos ((wjp u a).trans wa), hcj]
          exact ⟨v, by rw [ejp]; exact hv, by rw [← cpp]; exact hk⟩
        | a =>
          rw [hcj] at h
          have h' : outc P ((execOp a.eval oj).run P w) fun t w' => ∃ u, Sure P oi a u ∧ K ((t.on oj.dst a).put oi.dst u) w' :=
            outc_mono (fun t w' hk => by
              obtain ⟨u, hu, hk⟩ := first _ _ ((wi t a).trans wb) hk
              exact ⟨u, fun x => by have := hu x; rwa [ei] at this, hk⟩) h
          by_cases he : ∃ u, Sure P oi a u
          · obtain ⟨u, hu⟩ := he
            refine mk u hu ?_
            unfold stepT
            rw [if_pos ((wjp u a).trans wa), hcj]
            simp only [ejp]
            refine outc_mono (fun t w' hk => ?_) h'
            obtain ⟨u', hu', hk⟩ := hk
            have := one a u' u rfl hu' hu
            subst this
            rw [cji]
            exact hk
          · exact (outc_false (outc_mono (fun _ _ hk => by obtain ⟨u, hu, _⟩ := hk; exact he ⟨u, hu⟩) h')).elim
      · -- both read
        unfold stepT at h
        rw [if_pos wa, hcj] at h
        obtain ⟨v, hv, h⟩ := h
        rw [wip, if_pos wb, hci] at h
        obtain ⟨u, hu, hk⟩ := h
        rw [eip] at hu
        unfold stepT
        rw [if_pos wb, hci]
        refine ⟨u, hu, ?_⟩
        rw [if_pos ((wjp u a).trans wa), hcj]
        exact ⟨v, by rw [ejp]; exact hv, by rw [← cpp]; exact hk⟩
    · -- the second is passed over
      have pass : ∀ (b : Act) (w' : World), ¬ Region.wanted oi (yielded ops b.tmps) = true → stepT P ops oi K b w' → K (b.put oi.dst undef) w' := fun b w' e1 hb => by
        unfold stepT at hb
        rw [if_neg e1] at hb
        exact hb
      have h' : stepT P ops oj (fun b w' => (¬ Region.wanted oi (yielded ops b.tmps) = true → K (b.put oi.dst undef) w')) a w := stepT_mono (fun b w' hb e1 => pass b w' e1 hb) h
      have goal : stepT P ops oi (stepT P ops oj K) a w = stepT P ops oj K (a.put oi.dst undef) w := by
        unfold stepT
        rw [if_neg wb]
      rw [goal]
      unfold stepT at h' ⊢
      rw [if_pos wa] at h'
      rw [if_pos ((wjp undef a).trans wa)]
      cases hcj : cl oj.op with
      | p =>
        rw [hcj] at h'
        obtain ⟨v, hv, hk⟩ := h'
        exact ⟨v, fun x => by rw [ejp]; exact hv x, by rw [← cpp]; exact hk (by rw [wip]; exact wb)⟩
      | r =>
        rw [hcj] at h'
        obtain ⟨v, hv, hk⟩ := h'
        exact ⟨v, by rw [ejp]; exact hv, by rw [← cpp]; exact hk (by rw [wip]; exact wb)⟩
      | a =>
        rw [hcj] at h'
        simp only [ejp]
        refine outc_mono (fun t w' hk => ?_) h'
        rw [cji]
        exact hk (by rw [wi]; exact wb)
  · -- the first is passed over
    unfold stepT at h
    rw [if_neg wa] at h
    have last : ∀ (b : Act) (w' : World), Region.wanted oj (yielded ops b.tmps) = Region.wanted oj (yielded ops a.tmps) → K (b.put oj.dst undef) w' → stepT P ops oj K b w' := fun b w' e1 hb => by
      unfold stepT
      rw [if_neg (by rw [e1]; exact wa)]
      exact hb
    rw [wip] at h
    unfold stepT
    split
    · rename_i wb
      rw [if_pos wb] at h
      cases hci : cl oi.op with
      | p =>
        rw [hci] at h
        obtain ⟨u, hu, hk⟩ := h
        exact ⟨u, fun x => by have := hu x; rwa [eip] at this, last _ _ (wjp u a) (by rw [← cpp]; exact hk)⟩
      | r =>
        rw [hci] at h
        obtain ⟨u, hu, hk⟩ := h
        rw [eip] at hu
        exact ⟨u, hu, last _ _ (wjp u a) (by rw [← cpp]; exact hk)⟩
      | a =>
        rw [hci] at h
        simp only [eip] at h
        refine outc_mono (fun t w' hk => last _ _ (wj t a) ?_) h
        rw [cij] at hk
        exact hk
    · rename_i wb
      rw [if_neg wb] at h
      exact last _ _ (wjp undef a) (by rw [← cpp]; exact h)

def runT (P : Program) (ops : Array Oper) (Q : Act → World → Prop) : List Nat → Act → World → Prop
  | [], a, w => Q a w
  | i :: r, a, w => match ops[i]? with
    | some o => stepT P ops o (runT P ops Q r) a w
    | none => runT P ops Q r a w

def orderedOrSwaps (ops : Array Oper) (B : Array Nat) (j i : Nat) : Bool :=
  (B.getD i 0).testBit j || match ops[j]?, ops[i]? with
    | some oj, some oi => oj.apart ops oi && (decide (cl oj.op = .p) || decide (cl oi.op = .p) || (decide (cl oj.op = .r) && decide (cl oi.op = .r)))
    | _, _ => false

def upOf (B : Array Nat) (o : Oper) : Nat := o.after.toList.foldr (fun e s => if Region.binds .any e then s ||| (2 ^ e.on ||| B.getD e.on 0) else s) 0

def textB (ops : Array Oper) (B : Array Nat) : Bool :=
  Region.noSelect ops && (List.range ops.size).all fun i =>
    (match ops[i]? with
      | some o => o.after.toList.all (fun e => !Region.binds .any e || decide (e.on < i)) && ((B.getD i 0 ||| upOf B o) == upOf B o)
      | none => true) && (List.range i).all fun j => orderedOrSwaps ops B j i

theorem upOf_bit {B : Array Nat} {o : Oper} {j : Nat} (h : (upOf B o).testBit j = true) : ∃ e ∈ o.after, Region.binds .any e = true ∧ (e.on = j ∨ (B.getD e.on 0).testBit j = true) := by
  unfold upOf at h
  have key : ∀ l : List Edge, (l.foldr (fun e s => if Region.binds .any e then s ||| (2 ^ e.on ||| B.getD e.on 0) else s) 0).testBit j = true → ∃ e ∈ l, Region.binds .any e = true ∧ (e.on = j ∨ (B.getD e.on 0).testBit j = true) := by
    intro l
    induction l with
    | nil => intro h; simp at h
    | cons e r ih =>
      intro h
      simp only [List.foldr_cons] at h
      split at h
      · rename_i hb
        rw [Nat.testBit_or, Nat.testBit_or, Bool.or_eq_true, Bool.or_eq_true] at h
        rcases h with h | h | h
        · obtain ⟨e', h1, h2⟩ := ih h
          exact ⟨e', List.mem_cons_of_mem _ h1, h2⟩
        · rw [Nat.testBit_two_pow] at h
          exact ⟨e, List.mem_cons_self, hb, .inl (by simpa using h)⟩
        · exact ⟨e, List.mem_cons_self, hb, .inr h⟩
      · obtain ⟨e', h1, h2⟩ := ih h
        exact ⟨e', List.mem_cons_of_mem _ h1, h2⟩
  obtain ⟨e, h1, h2⟩ := key _ h
  exact ⟨e, by simpa using h1, h2⟩

theorem textB_row {B : Array Nat} (h : textB ops B = true) {i : Nat} {o : Oper} (hi : ops[i]? = some o) :
    (∀ e ∈ o.after, Region.binds .any e = true → e.on < i) ∧ (∀ j, (B.getD i 0).testBit j = true → ∃ e ∈ o.after, Region.binds .any e = true ∧ (e.on = j ∨ (B.getD e.on 0).testBit j = true)) ∧ ∀ j, j < i → orderedOrSwaps ops B j i = true := by
  have hlt : i < ops.size := (Array.getElem?_eq_some_iff.1 hi).1
  simp only [textB, Bool.and_eq_true, List.all_eq_true, List.mem_range] at h
  have h1 := h.2 i hlt
  rw [hi] at h1
  simp only [Bool.and_eq_true, List.all_eq_true, Bool.or_eq_true, Bool.not_eq_true', decide_eq_true_eq, beq_iff_eq] at h1
  obtain ⟨⟨h2, h3⟩, h4⟩ := h1
  refine ⟨fun e he hb => ?_, fun j hj => ?_, h4⟩
  · rcases h2 e (by simpa using he) with h | h
    · rw [hb] at h; cases h
    · exact h
  · refine upOf_bit ?_
    rw [← h3, Nat.testBit_or, hj, Bool.true_or]

def Shut (ops : Array Oper) (listed : Array Bool) : Prop := ∀ k o, ops[k]? = some o → listed.getD k false = true → ∀ e ∈ o.after, Region.binds .any e = true → listed.getD e.on false = true

theorem bits_listed {B : Array Nat} (hB : textB ops B = true) {listed : Array Bool} (hs : Shut ops listed) : ∀ (m i : Nat), i ≤ m → ∀ o, ops[i]? = some o → (∀ e ∈ o.after, Region.binds .any e = true → listed.getD e.on false = true) →
    ∀ j, (B.getD i 0).testBit j = true → listed.getD j false = true := by
  intro m
  induction m with
  | zero =>
    intro i hi o ho hd j hj
    obtain ⟨h1, h2, _⟩ := textB_row hB ho
    obtain ⟨e, he, hb, _⟩ := h2 j hj
    have := h1 e he hb
    omega
  | succ m ih =>
    intro i hi o ho hd j hj
    obtain ⟨h1, h2, _⟩ := textB_row hB ho
    obtain ⟨e, he, hb, hj⟩ := h2 j hj
    have hlt := h1 e he hb
    have hl := hd e he hb
    rcases hj with rfl | hj
    · exact hl
    · have hsz : i < ops.size := (Array.getElem?_eq_some_iff.1 ho).1
      have hoe : ops[e.on]? = some ops[e.on] := Array.getElem?_eq_getElem (by omega)
      exact ih e.on (by omega) _ hoe (fun e' he' hb' => hs _ _ hoe hl e' he' hb') j hj

def rest (n : Nat) (listed : Array Bool) : List Nat := (List.range n).filter fun i => !listed.getD i true

theorem runT_front {Q : Act → World → Prop} {i : Nat} {oi : Oper} (hi : ops[i]? = some oi) (hsel : ∀ (j : Nat) (o : Oper) cs b, ops[j]? = some o → o.op ≠ .select cs b) :
    ∀ (l1 l2 : List Nat) (a : Act) (w : World),
      (∀ j ∈ l1, ∃ oj, ops[j]? = some oj ∧ oj.apart ops oi = true ∧ (cl oj.op = .p ∨ cl oi.op = .p ∨ (cl oj.op = .r ∧ cl oi.op = .r))) →
      runT P ops Q (l1 ++ i :: l2) a w → stepT P ops oi (runT P ops Q (l1 ++ l2)) a w := by
  intro l1
  induction l1 with
  | nil =>
    intro l2 a w _ h
    simp only [List.nil_append, runT, hi] at h
    exact h
  | cons j r ih =>
    intro l2 a w hl h
    obtain ⟨oj, hj, hap, hc⟩ := hl j List.mem_cons_self
    simp only [List.cons_append, runT, hj] at h
    have h' : stepT P ops oj (stepT P ops oi (runT P ops Q (r ++ l2))) a w := stepT_mono (fun b w' hb => ih l2 b w' (fun k hk => hl k (List.mem_cons_of_mem _ hk)) hb) h
    have h'' := stepT_swap hap (fun cs b => hsel i oi cs b hi) (fun cs b => hsel j oj cs b hj) hc h'
    refine stepT_mono (fun b w' hb => ?_) h''
    simp only [List.cons_append, runT, hj]
    exact hb

theorem getD_set (listed : Array Bool) (i j : Nat) (d : Bool) (hi : i < listed.size) : (listed.setIfInBounds i true).getD j d = if i = j then true else listed.getD j d := by
  by_cases h : i = j
  · subst h; simp [hi]
  · rw [if_neg h, getD_set_ne d h]

theorem rest_split {n : Nat} {listed : Array Bool} (hn : listed.size = n) {i : Nat} (hi : i < n) (hu : listed.getD i true = false) :
    ∃ l1 l2, rest n listed = l1 ++ i :: l2 ∧ rest n (listed.setIfInBounds i true) = l1 ++ l2 ∧ ∀ j ∈ l1, j < i ∧ listed.getD j true = false := by
  have hsplit : List.range n = List.range i ++ i :: (List.range (n - i - 1)).map (· + (i + 1)) := by
    apply List.ext_getElem
    · simp; omega
    · intro k h1 h2
      simp only [List.getElem_range]
      by_cases hk : k < i
      · rw [List.getElem_append_left (by simpa using hk)]
        simp
      · rw [List.getElem_append_right (by simpa using hk)]
        simp only [List.length_range]
        by_cases hki : k = i
        · subst hki; simp
        · obtain ⟨m, hm⟩ : ∃ m, k - i = m + 1 := ⟨k - i - 1, by omega⟩
          simp only [hm, List.getElem_cons_succ, List.getElem_map, List.getElem_range]
          omega
  refine ⟨(List.range i).filter fun j => !listed.getD j true, ((List.range (n - i - 1)).map (· + (i + 1))).filter fun j => !listed.getD j true, ?_, ?_, ?_⟩
  · unfold rest
    rw [hsplit, List.filter_append, List.filter_cons, if_pos (by rw [hu]; rfl)]
  · unfold rest
    rw [hsplit, List.filter_append, List.filter_cons]
    have e1 : (listed.setIfInBounds i true).getD i true = true := by rw [getD_set _ _ _ _ (by omega), if_pos rfl]
    rw [e1]
    simp only [Bool.not_true, Bool.false_eq_true, if_false]
    congr 1
    · refine List.filter_congr fun j hj => ?_
      have : j < i := by simpa using hj
      rw [getD_set_ne true (by omega)]
    · refine List.filter_congr fun j hj => ?_
      obtain ⟨k, _, rfl⟩ := List.mem_map.1 hj
      rw [getD_set_ne true (by omega)]
  · intro j hj
    rw [List.mem_filter] at hj
    exact ⟨by simpa using hj.1, by simpa using hj.2⟩

theorem wpAny_of_run {B : Array Nat} (hB : textB ops B = true) {Q : Exit → Act → World → Prop} : ∀ (fuel : Nat) (listed : Array Bool) (a : Act) (w : World), listed.size = ops.size → Shut ops listed → (rest ops.size listed).length = fuel →
    runT P ops (fun a w => Q .normal a w) (rest ops.size listed) a w → wpAny P .any ops Q fuel listed a w := by
  have hsel := Region.noSelect_spec (by simp only [textB, Bool.and_eq_true] at hB; exact hB.1)
  intro fuel
  induction fuel with
  | zero =>
    intro listed a w hn hs hl h
    have hnil := List.eq_nil_of_length_eq_zero hl
    rw [hnil] at h
    refine ⟨?_, h⟩
    refine List.eq_nil_iff_forall_not_mem.2 fun i hi => ?_
    obtain ⟨h0, o, ho, _⟩ := mem_ready.1 hi
    have hlt : i < ops.size := (Array.getElem?_eq_some_iff.1 ho).1
    have : i ∈ rest ops.size listed := by
      unfold rest
      rw [List.mem_filter, List.mem_range]
      exact ⟨hlt, by rw [h0]; rfl⟩
    rw [hnil] at this
    cases this
  | succ fuel ih =>
    intro listed a w hn hs hl h
    refine ⟨fun hr => ?_, fun i hi => ?_⟩
    · -- the first of the rest is ready
      exfalso
      cases hrest : rest ops.size listed with
      | nil => rw [hrest] at hl; simp at hl
      | cons x r =>
        -- the least one that is not listed
        have hx : x ∈ rest ops.size listed := by rw [hrest]; exact List.mem_cons_self
        have hex : ∀ k, (∃ i, i ≤ k ∧ i ∈ rest ops.size listed) → ∃ i, i ∈ rest ops.size listed ∧ ∀ j, j < i → j ∉ rest ops.size listed := by
          intro k
          induction k with
          | zero =>
            rintro ⟨i, h1, h2⟩
            exact ⟨i, h2, fun j hj => by omega⟩
          | succ k ihk =>
            rintro ⟨i, h1, h2⟩
            by_cases hlow : ∃ j, j ≤ k ∧ j ∈ rest ops.size listed
            · exact ihk hlow
            · exact ⟨i, h2, fun j hj hm => hlow ⟨j, by omega, hm⟩⟩
        obtain ⟨i, him, hmin⟩ := hex x ⟨x, Nat.le_refl _, hx⟩
        have him' := him
        unfold rest at him'
        rw [List.mem_filter, List.mem_range] at him'
        have ho : ops[i]? = some ops[i] := Array.getElem?_eq_getElem him'.1
        have : i ∈ Region.ready .any ops listed := by
          refine mem_ready.2 ⟨by simpa using him'.2, _, ho, fun e he hb => ?_⟩
          have hlt := (textB_row hB ho).1 e he hb
          have hno := hmin e.on hlt
          unfold rest at hno
          rw [List.mem_filter, List.mem_range] at hno
          have hsz : e.on < listed.size := by omega
          have e1 : listed.getD e.on true = listed.getD e.on false := by simp [hsz]
          cases hb2 : listed.getD e.on false with
          | true => rfl
          | false =>
            rw [hb2] at e1
            exact absurd ⟨by omega, by rw [e1]; rfl⟩ hno
        rw [hr] at this
        cases this
    · obtain ⟨h0, oi, ho, hd⟩ := mem_ready.1 hi
      have hlt : i < ops.size := (Array.getElem?_eq_some_iff.1 ho).1
      obtain ⟨l1, l2, e1, e2, hl1⟩ := rest_split hn hlt h0
      rw [e1] at h
      have hfront := runT_front ho hsel l1 l2 a w (fun j hj => by
        obtain ⟨hji, hju⟩ := hl1 j hj
        have hsw := (textB_row hB ho).2.2 j hji
        have hoj : ops[j]? = some ops[j] := Array.getElem?_eq_getElem (by omega)
        unfold orderedOrSwaps at hsw
        rw [Bool.or_eq_true] at hsw
        rcases hsw with hsw | hsw
        · have := bits_listed hB hs i i (Nat.le_refl _) oi ho hd j hsw
          have hsz : j < listed.size := by omega
          have e3 : listed.getD j true = listed.getD j false := by simp [hsz]
          rw [hju, this] at e3
          cases e3
        · rw [hoj, ho] at hsw
          simp only [Bool.and_eq_true, Bool.or_eq_true, decide_eq_true_eq] at hsw
          exact ⟨_, hoj, hsw.1, by
            rcases hsw.2 with (h | h) | h
            · exact .inl h
            · exact .inr (.inl h)
            · exact .inr (.inr h)⟩) h
      refine wpOp_of_stepT ho (stepT_mono (fun b w' hb => ih _ b w' (by simpa using hn) ?_ ?_ (by rw [e2]; exact hb)) hfront)
      · intro k o hk hkl e he hb
        rw [getD_set _ _ _ _ (by omega)] at hkl
        by_cases hik : i = k
        · subst hik
          rw [ho] at hk
          injection hk with hk
          subst hk
          exact getD_set_true (hd e he hb)
        · rw [if_neg hik] at hkl
          exact getD_set_true (hs k o hk hkl e he hb)
      · rw [e2]
        rw [e1] at hl
        simp only [List.length_append, List.length_cons] at hl ⊢
        omega

def textD (P : Program) (ops : Array Oper) (Q : Act → World → Prop) : List Oper → Act → World → Prop
  | [], a, w => Q a w
  | o :: r, a, w => stepT P ops o (textD P ops Q r) a w

theorem runT_of_text {Q : Act → World → Prop} (l : List Oper) : ∀ k, (∀ j, l[j]? = ops[k + j]?) → ∀ a w, textD P ops Q l a w → runT P ops Q (List.range' k l.length) a w := by
  induction l with
  | nil => intro k _ a w h; exact h
  | cons o l ih =>
    intro k h a w hw
    have h0 : ops[k]? = some o := by simpa using (h 0).symm
    simp only [List.length_cons, List.range'_succ, runT, h0]
    exact stepT_mono (fun b w' hb => ih (k + 1) (fun j => by have := h (j + 1); simpa [Nat.add_assoc, Nat.add_comm 1 j] using this) b w' hb) hw

theorem rest_none (n : Nat) : rest n (Array.replicate n false) = List.range n := by
  unfold rest
  refine List.filter_eq_self.2 fun i hi => ?_
  have : i < n := by simpa using hi
  simp [this]

structure wpText (P : Program) (ops : Array Oper) (Q : Act → World → Prop) (l : List Oper) (a : Act) (w : World) : Prop where
  mk :: (out : textD P ops Q l a w)

theorem wp_region_text {id : Nat} {Q : Exit → Act → World → Prop} {a : Act} {w : World} {l : List Oper} (hm : P.follows .mixedOrders = true) (hB : textB l.toArray (Region.before l.toArray) = true)
    (h : wpText P l.toArray (fun a w => Q .normal a w) l a w.drew) : (Code.region id l.toArray true).wp P Q a w := by
  refine wp_region_any hm ?_
  have h1 := runT_of_text (ops := l.toArray) l 0 (by simp) a _ h.out
  refine wpAny_of_run hB _ _ _ _ (by simp) ?_ ?_ ?_
  · intro k o hk hl
    by_cases hlt : k < l.length
    · simp [hlt] at hl
    · simp [hlt] at hl
  · rw [rest_none]; simp
  · rw [rest_none]
    rw [List.range_eq_range']
    simpa using h1

variable {Q : Act → World → Prop} {r : List Oper} {o : Oper} {a : Act} {w : World}

theorem text_nil (h : Q a w) : wpText P ops Q [] a w := ⟨h⟩

theorem text_skip (hw : Region.wanted o (yielded ops a.tmps) = false) (h : wpText P ops Q r (a.put o.dst undef) w) : wpText P ops Q (o :: r) a w := by
  refine ⟨?_⟩
  show stepT P ops o (textD P ops Q r) a w
  unfold stepT
  rw [hw]
  exact h.out

theorem text_pass {ts : List Value} {ds : List Deferred} {d : Nat} (hd : o.dst = some d) (hw : Region.wanted o (yielded ops ts.toArray) = false) (h : wpText P ops Q r ⟨(ts.set d undef).toArray, ds⟩ w) : wpText P ops Q (o :: r) ⟨ts.toArray, ds⟩ w := by
  refine text_skip hw ?_
  rw [hd]
  simpa [Act.put] using h

def Vals (s : Sem Next) : Prop := ∀ (P : Program) (w : World) (x : Next) (w' : World), s.run P w = .ok x w' → ∃ v, x = .value v

theorem vals_pure (v : Value) : Vals (pure (.value v)) := fun P w x w' h => by
  rw [Sem.run_pure] at h
  injection h with h _
  exact ⟨_, h.symm⟩

theorem vals_halt (h : Halt) : Vals (.halt h) := fun P w x w' hr => by simp [Sem.run] at hr

theorem vals_bind {α : Type} {s : Sem α} {f : α → Sem Next} (h : ∀ y, Vals (f y)) : Vals (s >>= f) := fun P w x w' hr => by
  rw [Sem.run_bind] at hr
  cases hs : s.run P w with
  | ok y w1 =>
    rw [hs] at hr
    simp only [Result.andThen_ok] at hr
    exact h y P w1 x w' hr
  | halt e w1 =>
    rw [hs] at hr
    simp [Result.andThen] at hr

theorem vals_v (s : Sem Value) : Vals (do pure (.value (← s))) := vals_bind fun y => vals_pure y

theorem vals_ite {c : Prop} [Decidable c] {s t : Sem Next} (h1 : Vals s) (h2 : Vals t) : Vals (if c then s else t) := by split <;> assumption

theorem vals_panic (e : RuntimeError) : Vals (runtimePanic e) := by
  unfold runtimePanic
  refine vals_bind fun p => ?_
  cases e <;> first | exact vals_halt _ | (refine vals_bind fun _ => ?_; first | exact vals_halt _ | (refine vals_bind fun _ => ?_; exact vals_halt _))

theorem value_of_cl {ρ : Operand → Value} {x : Next} {w w' : World} (hc : cl o.op ≠ .a) (h : (execOp ρ o).run P w = .ok x w') : ∃ v, x = .value v := by
  revert h
  suffices Vals (execOp ρ o) from this P w x w'
  obtain ⟨dst, op, type, pos, after, guard⟩ := o
  cases op <;> simp only [cl, ne_eq, not_true_eq_false, not_false_eq_true, reduceCtorEq] at hc
  case move y => exact vals_pure _
  case assign y => exact vals_pure _
  case nilCheck y =>
    simp only [execOp]
    split
    · exact vals_panic _
    · exact vals_panic _
    · exact vals_panic _
    · split
      · exact vals_panic _
      · refine vals_bind fun _ => vals_bind fun _ => vals_ite ?_ ?_
        · exact vals_bind fun _ => vals_pure _
        · exact vals_pure _
      · exact vals_pure _
    · exact vals_pure _
  case pick c s t =>
    simp only [execOp]
    exact vals_bind fun _ => vals_pure _
  case call c =>
    obtain ⟨callee, args, argTypes⟩ := c
    cases callee with
    | value f => exact absurd rfl hc
    | invoke f m => exact absurd rfl hc
    | builtin b =>
      cases b
      case len => exact fun P w x w' h => vals_v (Builtin.len_ argTypes type (args.map ρ)) P w x w' (by simp only [execOp, resolve, Sem.run_bind, Sem.run_pure, Result.andThen_ok, invoke, builtin] at h ⊢; exact h)
      case cap => exact fun P w x w' h => vals_v (Builtin.cap_ argTypes type (args.map ρ)) P w x w' (by simp only [execOp, resolve, Sem.run_bind, Sem.run_pure, Result.andThen_ok, invoke, builtin] at h ⊢; exact h)
      case max => exact fun P w x w' h => vals_v (Builtin.max_ argTypes type (args.map ρ)) P w x w' (by simp only [execOp, resolve, Sem.run_bind, Sem.run_pure, Result.andThen_ok, invoke, builtin] at h ⊢; exact h)
      case min => exact fun P w x w' h => vals_v (Builtin.min_ argTypes type (args.map ρ)) P w x w' (by simp only [execOp, resolve, Sem.run_bind, Sem.run_pure, Result.andThen_ok, invoke, builtin] at h ⊢; exact h)
      all_goals exact absurd rfl hc
  all_goals (simp only [execOp]; exact vals_v _)

theorem text_p (hw : Region.wanted o (yielded ops a.tmps) = true) (hc : cl o.op = .p) (h : ∀ K : Act → Prop, (∀ a', wpText P ops Q r a' w → K a') → o.quiet P a (fun _ => True) K) : wpText P ops Q (o :: r) a w := by
  obtain ⟨v, h1, h2⟩ := h (fun a' => wpText P ops Q r a' w) (fun _ h => h)
  refine ⟨?_⟩
  show stepT P ops o (textD P ops Q r) a w
  unfold stepT
  rw [if_pos hw, hc]
  refine ⟨v, fun w' => ?_, h2.out⟩
  have h3 := h1 w' trivial
  unfold Oper.quietAt at h3
  cases hr : (execOp a.eval o).run P w' with
  | halt x w1 => rw [hr] at h3; exact h3.elim
  | ok n w1 =>
    obtain ⟨u, rfl⟩ := value_of_cl (by rw [hc]; decide) hr
    rw [hr] at h3
    obtain ⟨e1, e2⟩ := h3
    rw [e1, e2]

theorem text_r (hw : Region.wanted o (yielded ops a.tmps) = true) (hc : cl o.op = .r) (h : ∀ K : Act → Prop, (∀ a', wpText P ops Q r a' w → K a') → o.quiet P a (fun w' => w' = w) K) : wpText P ops Q (o :: r) a w := by
  obtain ⟨v, h1, h2⟩ := h (fun a' => wpText P ops Q r a' w) (fun _ h => h)
  refine ⟨?_⟩
  show stepT P ops o (textD P ops Q r) a w
  unfold stepT
  rw [if_pos hw, hc]
  refine ⟨v, ?_, h2.out⟩
  have h3 := h1 w rfl
  unfold Oper.quietAt at h3
  cases hr : (execOp a.eval o).run P w with
  | halt x w1 => rw [hr] at h3; exact h3.elim
  | ok n w1 =>
    obtain ⟨u, rfl⟩ := value_of_cl (by rw [hc]; decide) hr
    rw [hr] at h3
    obtain ⟨e1, e2⟩ := h3
    rw [e1, e2]

theorem text_a (hw : Region.wanted o (yielded ops a.tmps) = true) (hc : cl o.op = .a) (h : ∀ K : Act → World → Prop, (∀ a' w', wpText P ops Q r a' w' → K a' w') → o.wp P a w K NoQ) : wpText P ops Q (o :: r) a w := by
  refine ⟨?_⟩
  show stepT P ops o (textD P ops Q r) a w
  unfold stepT
  rw [if_pos hw, hc]
  exact outc_of_wp (h _ fun _ _ h => h.out)
end
end Go.Txt

namespace Go.Txt
open Go.RowKit

inductive Ck where
  | p
  | re
  | rl
  | m
  | c
  | a
  deriving DecidableEq

def Bw (wb w : World) : Prop := Below wb.heap.size wb w
theorem Bw.refl (w : World) : Bw w w := Below.refl _ _
theorem Bw.trans {a b c : World} (h : Bw a b) (k : Bw b c) : Bw a c := Below.trans h (Below.mono k h.size)
theorem Bw.alloc (w : World) (o : Obj) : Bw w (w.alloc o) := (Below.refl _ _).alloc (Nat.le_refl _) o
theorem Bw.obj {w w' : World} (h : Bw w w') {g : Nat} {o : Obj} (hg : w.heap[g]? = some o) : w'.heap[g]? = some o := (h.block g (Array.getElem?_eq_some_iff.1 hg).1).trans hg

theorem Bw.undrew {w w' : World} (h : Bw w.drew w') : Below w.heap.size w w' := ⟨h.os, h.tape, h.output, h.size, h.block⟩

def stepF (P : Program) (wb : World) (k : Ck) (s : Sem Next) (w : World) (F : Tr → World → Prop) : Prop :=
  match k with
  | .p => ∃ v, (∀ w1, s.run P w1 = .ok (.value v) w1) ∧ F (.put v) w
  | .re => Bw wb w ∧ ∃ v, (∀ w1, Bw wb w1 → s.run P w1 = .ok (.value v) w1) ∧ F (.put v) w
  | .rl => Bw wb w ∧ ∃ v, (∀ w1, Bw w w1 → s.run P w1 = .ok (.value v) w1) ∧ F (.put v) w
  | .m => Bw wb w ∧ ∃ (mk : Nat → Value) (obj : Obj), (∀ w1, s.run P w1 = .ok (.value (mk w1.heap.size)) (w1.alloc obj)) ∧ ∀ g w', Bw w w' → wb.heap.size ≤ g → w'.heap[g]? = some obj → F (.put (mk g)) w'
  | .c => Bw wb w ∧ ∀ w1, Bw w w1 → outc P (s.run P w1) fun t w' => Bw w1 w' ∧ F t w'
  | .a => outc P (s.run P w) F

section
variable {P : Program} {wb w : World} {k kj ki : Ck} {s sj si : Sem Next} {F G : Tr → World → Prop}

theorem stepF_mono (h : ∀ t w', (k = .c ∨ k = .a ∨ ∃ v, t = .put v) → F t w' → G t w') (hs : stepF P wb k s w F) : stepF P wb k s w G := by
  cases k with
  | p =>
    obtain ⟨v, h1, h2⟩ := hs
    exact ⟨v, h1, h _ _ (.inr (.inr ⟨v, rfl⟩)) h2⟩
  | re =>
    obtain ⟨h0, v, h1, h2⟩ := hs
    exact ⟨h0, v, h1, h _ _ (.inr (.inr ⟨v, rfl⟩)) h2⟩
  | rl =>
    obtain ⟨h0, v, h1, h2⟩ := hs
    exact ⟨h0, v, h1, h _ _ (.inr (.inr ⟨v, rfl⟩)) h2⟩
  | m =>
    obtain ⟨h0, mk, obj, h1, h2⟩ := hs
    exact ⟨h0, mk, obj, h1, fun g w' a1 a2 a3 => h _ _ (.inr (.inr ⟨_, rfl⟩)) (h2 g w' a1 a2 a3)⟩
  | c =>
    obtain ⟨h0, h1⟩ := hs
    exact ⟨h0, fun w1 hw => outc_mono (fun t w' hk => ⟨hk.1, h _ _ (.inl rfl) hk.2⟩) (h1 w1 hw)⟩
  | a => exact outc_mono (fun t w' hk => h _ _ (.inr (.inl rfl)) hk) hs

theorem outc_some {r : Result Next} {φ : Prop} (h : outc P r fun _ _ => φ) : φ := by
  by_cases hp : φ
  · exact hp
  · exact (outc_false (outc_mono (fun _ _ hk => hp hk) h)).elim

theorem stepF_some {φ : Prop} (hs : stepF P wb k s w fun _ _ => φ) : φ := by
  cases k with
  | p => obtain ⟨v, h1, h2⟩ := hs; exact h2
  | re => obtain ⟨h0, v, h1, h2⟩ := hs; exact h2
  | rl => obtain ⟨h0, v, h1, h2⟩ := hs; exact h2
  | m =>
    obtain ⟨h0, mk, obj, h1, h2⟩ := hs
    exact h2 w.heap.size (w.alloc obj) (Bw.alloc w obj) h0.size (heap_alloc_new w obj)
  | c =>
    obtain ⟨h0, h1⟩ := hs
    exact outc_some (outc_mono (fun _ _ hk => hk.2) (h1 w (Bw.refl w)))
  | a => exact outc_some hs

theorem value_inj {v u : Value} {w w' : World} (h : (Result.ok (Next.value v) w) = .ok (.value u) w') : v = u ∧ w = w' := by
  injection h with h1 h2
  injection h1 with h1
  exact ⟨h1, h2⟩

def swapK (kj ki : Ck) : Bool :=
  match kj, ki with
  | .p, _ => true
  | _, .p => true
  | .re, .re => true
  | .re, .rl => true
  | .rl, .re => true
  | .rl, .rl => true
  | .re, .m => true
  | .rl, .m => true
  | .re, .c => true
  | .rl, .c => true
  | .m, .re => true
  | .c, .re => true
  | .m, .m => true
  | .c, .m => true
  | _, _ => false

theorem swap_p {H : Tr → Tr → World → Prop} (h : stepF P wb .p sj w fun tj w1 => stepF P wb ki si w1 fun ti w2 => H tj ti w2) : stepF P wb ki si w fun ti w1 => stepF P wb .p sj w1 fun tj w2 => H tj ti w2 := by
  obtain ⟨v, h1, h2⟩ := h
  exact stepF_mono (fun t w' _ hk => ⟨v, h1, hk⟩) h2

theorem swap_ip {H : Tr → Tr → World → Prop} (h : stepF P wb kj sj w fun tj w1 => stepF P wb .p si w1 fun ti w2 => H tj ti w2) : stepF P wb .p si w fun ti w1 => stepF P wb kj sj w1 fun tj w2 => H tj ti w2 := by
  obtain ⟨v, hv⟩ : ∃ v, ∀ w1, si.run P w1 = .ok (.value v) w1 := stepF_some (stepF_mono (fun t w' _ hk => by obtain ⟨v, h1, _⟩ := hk; exact ⟨v, h1⟩) h)
  refine ⟨v, hv, stepF_mono (fun t w' _ hk => ?_) h⟩
  obtain ⟨u, hu, hk⟩ := hk
  have := (value_inj ((hv w').symm.trans (hu w'))).1
  rw [this]
  exact hk

theorem swap_ire {H : Tr → Tr → World → Prop} (hw : Bw wb w) (h : stepF P wb kj sj w fun tj w1 => stepF P wb .re si w1 fun ti w2 => H tj ti w2) : stepF P wb .re si w fun ti w1 => stepF P wb kj sj w1 fun tj w2 => H tj ti w2 := by
  obtain ⟨v, hv⟩ : ∃ v, ∀ w1, Bw wb w1 → si.run P w1 = .ok (.value v) w1 := stepF_some (stepF_mono (fun t w' _ hk => by obtain ⟨_, v, h1, _⟩ := hk; exact ⟨v, h1⟩) h)
  refine ⟨hw, v, hv, stepF_mono (fun t w' _ hk => ?_) h⟩
  obtain ⟨h0, u, hu, hk⟩ := hk
  have := (value_inj ((hv wb (Bw.refl wb)).symm.trans (hu wb (Bw.refl wb)))).1
  rw [this]
  exact hk

theorem stepF_swap (hk : swapK kj ki = true) {H : Tr → Tr → World → Prop} (h : stepF P wb kj sj w fun tj w1 => stepF P wb ki si w1 fun ti w2 => H tj ti w2) : stepF P wb ki si w fun ti w1 => stepF P wb kj sj w1 fun tj w2 => H tj ti w2 := by
  have late : ∀ {w1 : World}, Bw wb w → (∃ v, (∀ w2, Bw w w2 → sj.run P w2 = .ok (.value v) w2) ∧ H (.put v) (.put v) w1) → True := fun _ _ => trivial
  clear late
  cases ki with
  | p => exact swap_ip h
  | re =>
    cases kj with
    | p => exact swap_p h
    | re => exact swap_ire h.1 h
    | rl => exact swap_ire h.1 h
    | m => exact swap_ire h.1 h
    | c => exact swap_ire h.1 h
    | a => exact absurd hk (by decide)
  | rl =>
    cases kj with
    | p => exact swap_p h
    | re =>
      obtain ⟨h0, v, h1, _, u, h2, h3⟩ := h
      exact ⟨h0, u, h2, h0, v, h1, h3⟩
    | rl =>
      obtain ⟨h0, v, h1, _, u, h2, h3⟩ := h
      exact ⟨h0, u, h2, h0, v, h1, h3⟩
    | m => exact absurd hk (by decide)
    | c => exact absurd hk (by decide)
    | a => exact absurd hk (by decide)
  | m =>
    cases kj with
    | p => exact swap_p h
    | re =>
      obtain ⟨h0, v, h1, _, mk, obj, h2, h3⟩ := h
      exact ⟨h0, mk, obj, h2, fun g w' a1 a2 a3 => ⟨h0.trans a1, v, h1, h3 g w' a1 a2 a3⟩⟩
    | rl =>
      obtain ⟨h0, v, h1, _, mk, obj, h2, h3⟩ := h
      exact ⟨h0, mk, obj, h2, fun g w' a1 a2 a3 => ⟨h0.trans a1, v, fun w1 hb => h1 w1 (a1.trans hb), h3 g w' a1 a2 a3⟩⟩
    | m =>
      obtain ⟨h0, mkj, oj, h1, h2⟩ := h
      have hi := h2 w.heap.size (w.alloc oj) (Bw.alloc w oj) h0.size (heap_alloc_new w oj)
      obtain ⟨_, mki, oi, h3, _⟩ := hi
      refine ⟨h0, mki, oi, h3, fun gi wi a1 a2 a3 => ⟨h0.trans a1, mkj, oj, h1, fun gj wj b1 b2 b3 => ?_⟩⟩
      obtain ⟨_, mki', oi', h3', h4⟩ := h2 gj wj (a1.trans b1) b2 b3
      have e := (h3 wb).symm.trans (h3' wb)
      obtain ⟨e1, e2⟩ := value_inj e
      have eo : oi = oi' := by
        have := congrArg (fun w : World => w.heap[wb.heap.size]?) e2
        simp only [heap_alloc_new] at this
        exact Option.some.inj this
      subst eo
      have em : ∀ n, n = wb.heap.size → mki n = mki' n := fun n hn => by rw [hn]; exact e1
      clear em
      have all : mki gi = mki' gi := by
        have hgi := (h3 ⟨Array.replicate gi (Obj.chan 0 #[] false 0 0 false), wb.tape, wb.drawn, wb.os, wb.output⟩).symm.trans (h3' ⟨Array.replicate gi (Obj.chan 0 #[] false 0 0 false), wb.tape, wb.drawn, wb.os, wb.output⟩)
        have := (value_inj hgi).1
        simpa using this
      rw [all]
      exact h4 gi wj (Bw.refl _) a2 (b1.obj a3)
    | c =>
      obtain ⟨h0, h1⟩ := h
      obtain ⟨mki, oi, h3⟩ : ∃ (mk : Nat → Value) (obj : Obj), ∀ w1, si.run P w1 = .ok (.value (mk w1.heap.size)) (w1.alloc obj) :=
        outc_some (outc_mono (fun _ _ hk => by obtain ⟨_, _, mk, obj, h3, _⟩ := hk; exact ⟨mk, obj, h3⟩) (h1 w (Bw.refl w)))
      refine ⟨h0, mki, oi, h3, fun gi wi a1 a2 a3 => ⟨h0.trans a1, fun w1 b1 => outc_mono (fun t w' hk => ⟨hk.1, ?_⟩) (h1 w1 (a1.trans b1))⟩⟩
      obtain ⟨hk1, _, mki', oi', h3', h4⟩ := hk
      have all : ∀ n, mki n = mki' n := fun n => by
        have hgi := (h3 ⟨Array.replicate n (Obj.chan 0 #[] false 0 0 false), wb.tape, wb.drawn, wb.os, wb.output⟩).symm.trans (h3' ⟨Array.replicate n (Obj.chan 0 #[] false 0 0 false), wb.tape, wb.drawn, wb.os, wb.output⟩)
        have := (value_inj hgi).1
        simpa using this
      have eo : oi = oi' := by
        have := congrArg (fun w : World => w.heap[wb.heap.size]?) (value_inj ((h3 wb).symm.trans (h3' wb))).2
        simp only [heap_alloc_new] at this
        exact Option.some.inj this
      subst eo
      rw [all]
      exact h4 gi w' (Bw.refl _) a2 ((b1.trans hk1).obj a3)
    | a => exact absurd hk (by decide)
  | c =>
    cases kj with
    | p => exact swap_p h
    | re =>
      obtain ⟨h0, v, h1, _, h2⟩ := h
      exact ⟨h0, fun w1 hw => outc_mono (fun t w' hk => ⟨hk.1, (h0.trans hw).trans hk.1, v, h1, hk.2⟩) (h2 w1 hw)⟩
    | rl =>
      obtain ⟨h0, v, h1, _, h2⟩ := h
      exact ⟨h0, fun w1 hw => outc_mono (fun t w' hk => ⟨hk.1, (h0.trans hw).trans hk.1, v, fun w2 hb => h1 w2 ((hw.trans hk.1).trans hb), hk.2⟩) (h2 w1 hw)⟩
    | m => exact absurd hk (by decide)
    | c => exact absurd hk (by decide)
    | a => exact absurd hk (by decide)
  | a =>
    cases kj with
    | p => exact swap_p h
    | re => exact absurd hk (by decide)
    | rl => exact absurd hk (by decide)
    | m => exact absurd hk (by decide)
    | c => exact absurd hk (by decide)
    | a => exact absurd hk (by decide)

theorem outc_of_stepF (hs : stepF P wb k s w F) : outc P (s.run P w) F := by
  cases k with
  | p => obtain ⟨v, h1, h2⟩ := hs; rw [h1]; exact h2
  | re => obtain ⟨h0, v, h1, h2⟩ := hs; rw [h1 w h0]; exact h2
  | rl => obtain ⟨h0, v, h1, h2⟩ := hs; rw [h1 w (Bw.refl w)]; exact h2
  | m =>
    obtain ⟨h0, mk, obj, h1, h2⟩ := hs
    rw [h1]
    exact h2 _ _ (Bw.alloc w obj) h0.size (heap_alloc_new w obj)
  | c =>
    obtain ⟨h0, h1⟩ := hs
    exact outc_mono (fun _ _ hk => hk.2) (h1 w (Bw.refl w))
  | a => exact hs
end

section
variable {P : Program} {ops : Array Oper} {wb : World}

def stepM (P : Program) (ops : Array Oper) (wb : World) (k : Ck) (o : Oper) (K : Act → World → Prop) (a : Act) (w : World) : Prop :=
  if Region.wanted o (yielded ops a.tmps) then stepF P wb k (execOp a.eval o) w fun t w' => K (t.on o.dst a) w' else K ((Tr.put undef).on o.dst a) w

theorem stepM_mono {k : Ck} {o : Oper} {K K' : Act → World → Prop} {a : Act} {w : World} (h : ∀ a w, K a w → K' a w) (hs : stepM P ops wb k o K a w) : stepM P ops wb k o K' a w := by
  unfold stepM at *
  split
  · rename_i hw
    rw [if_pos hw] at hs
    exact stepF_mono (fun _ _ _ he => h _ _ he) hs
  · rename_i hw
    rw [if_neg hw] at hs
    exact h _ _ hs

theorem on_comm {t u : Tr} (h : (∃ v, t = .put v) ∨ ∃ v, u = .put v) (x y : Option Tmp) (a : Act) (hd : ∀ d, x = some d → y ≠ some d) : t.on x (u.on y a) = u.on y (t.on x a) := by
  have hd' : ∀ d, y = some d → x ≠ some d := fun d h1 h2 => hd d h2 h1
  rcases h with ⟨v, rfl⟩ | ⟨v, rfl⟩
  · exact (put_on_comm u y x a v hd).symm
  · exact put_on_comm t x y a v hd'

theorem swapK_put {kj ki : Ck} (h : swapK kj ki = true) : (kj ≠ .c ∧ kj ≠ .a) ∨ (ki ≠ .c ∧ ki ≠ .a) := by
  cases kj <;> cases ki <;> first | exact absurd h (by decide) | (left; constructor <;> (intro hh; cases hh); done) | (right; constructor <;> (intro hh; cases hh); done)

theorem stepM_swap {kj ki : Ck} {oi oj : Oper} (hap : oj.apart ops oi = true) (hsi : ∀ cs b, oi.op ≠ .select cs b) (hsj : ∀ cs b, oj.op ≠ .select cs b) (hk : swapK kj ki = true) {K : Act → World → Prop} {a : Act} {w : World}
    (h : stepM P ops wb kj oj (stepM P ops wb ki oi K) a w) : stepM P ops wb ki oi (stepM P ops wb kj oj K) a w := by
  obtain ⟨h1, h2, h3⟩ := Oper.apart_spec hap
  have ej : ∀ (t : Tr), execOp (t.on oi.dst a).eval oj = execOp a.eval oj := fun t => exec_on t _ _ oj hsj h3
  have wj : ∀ (t : Tr), Region.wanted oj (yielded ops (t.on oi.dst a).tmps) = Region.wanted oj (yielded ops a.tmps) := fun t => wanted_on t _ _ oj h3
  have ei : ∀ (t : Tr), execOp (t.on oj.dst a).eval oi = execOp a.eval oi := fun t => exec_on t _ _ oi hsi h1
  have wi : ∀ (t : Tr), Region.wanted oi (yielded ops (t.on oj.dst a).tmps) = Region.wanted oi (yielded ops a.tmps) := fun t => wanted_on t _ _ oi h1
  have cm : ∀ (ti tj : Tr), ((∃ v, ti = .put v) ∨ ∃ v, tj = .put v) → ti.on oi.dst (tj.on oj.dst a) = tj.on oj.dst (ti.on oi.dst a) := fun ti tj hh => on_comm hh _ _ a (fun d e1 e2 => h2 d e2 e1)
  unfold stepM at h ⊢
  by_cases wa : Region.wanted oj (yielded ops a.tmps) = true
  · by_cases wb' : Region.wanted oi (yielded ops a.tmps) = true
    · rw [if_pos wa] at h
      rw [if_pos wb']
      simp only [wi, if_pos wb', ei] at h
      simp only [wj, if_pos wa, ej]
      have hs := stepF_swap hk (H := fun tj ti w2 => K (ti.on oi.dst (tj.on oj.dst a)) w2) h
      refine stepF_mono (fun ti w1 hti hk1 => stepF_mono (fun tj w2 htj hk2 => ?_) hk1) hs
      rw [← cm ti tj ?_]
      · exact hk2
      · rcases swapK_put hk with ⟨n1, n2⟩ | ⟨n1, n2⟩
        · exact .inr ((htj.resolve_left n1).resolve_left n2)
        · exact .inl ((hti.resolve_left n1).resolve_left n2)
    · rw [if_pos wa] at h
      rw [if_neg wb']
      simp only [wi, if_neg wb'] at h
      simp only [wj, if_pos wa, ej]
      refine stepF_mono (fun tj w2 htj hk2 => ?_) h
      rw [← cm (.put undef) tj (.inl ⟨_, rfl⟩)]
      exact hk2
  · rw [if_neg wa] at h
    simp only [wi, ei] at h
    simp only [wj, if_neg wa]
    by_cases wb' : Region.wanted oi (yielded ops a.tmps) = true
    · rw [if_pos wb'] at h ⊢
      refine stepF_mono (fun ti w2 hti hk2 => ?_) h
      rw [← cm ti (.put undef) (.inr ⟨_, rfl⟩)]
      exact hk2
    · rw [if_neg wb'] at h ⊢
      rw [← cm (.put undef) (.put undef) (.inr ⟨_, rfl⟩)]
      exact h

theorem wpOp_of_stepM {i : Nat} {k : Ck} {o : Oper} (hi : ops[i]? = some o) {K : Act → World → Prop} {Q : Exit → Act → World → Prop} {a : Act} {w : World} (hs : stepM P ops wb k o K a w) : wpOp P ops Q i K a w := by
  unfold stepM at hs
  unfold wpOp
  simp only [hi]
  split
  · rename_i hw
    rw [if_pos hw] at hs
    exact .inl (wp_of_outc (outc_of_stepF hs))
  · rename_i hw
    rw [if_neg hw] at hs
    exact hs

def kop : Op → Ck
  | .move _ => .p
  | .assign _ => .p
  | .pick .. => .p
  | .nilCheck _ => .p
  | .binOp .. => .p
  | .unOp .. => .p
  | .convert .. => .p
  | .fieldAddr .. => .p
  | .field .. => .p
  | .indexAddr .. => .p
  | .index .. => .p
  | .extract .. => .p
  | .slice .. => .p
  | .build .. => .p
  | .makeFunc .. => .p
  | .load .. => .re
  | .alloc _ => .m
  | .box .. => .m
  | .buildSlice .. => .m
  | .makeSlice .. => .m
  | .call c => match c.callee with
    | .builtin .len => .p
    | .builtin .cap => .p
    | .builtin .max => .p
    | .builtin .min => .p
    | .value _ => .c
    | _ => .a
  | _ => .a

def dat (ops : Array Oper) : Nat → Nat → Bool
  | 0, _ => true
  | n + 1, i => match ops[i]? with
    | some o => o.after.toList.any fun e => decide (e.ground = .data) && ((match ops[e.on]? with | some oj => decide (kop oj.op = .m) || decide (kop oj.op = .c) | none => false) || dat ops n e.on)
    | none => false

def kat (ops : Array Oper) (B : Array Nat) (i : Nat) (o : Oper) : Ck :=
  match kop o.op with
  | .p => .p
  | .a => .a
  | k => if (List.range i).any (fun j => match ops[j]? with | some oj => decide (kop oj.op = .a) | none => false) then .a
    else match k with
      | .re => if (List.range i).any (fun j => (B.getD i 0).testBit j && match ops[j]? with | some oj => decide (kop oj.op = .m) || decide (kop oj.op = .c) | none => false) && dat ops (i + 1) i then .rl else .re
      | k => k
theorem kat_p {ops : Array Oper} {B : Array Nat} {i : Nat} {o : Oper} (h : kop o.op = .p) : kat ops B i o = .p := by unfold kat; rw [h]

def runM (P : Program) (ops : Array Oper) (wb : World) (B : Array Nat) (Q : Act → World → Prop) : List Nat → Act → World → Prop
  | [], a, w => Q a w
  | i :: r, a, w => match ops[i]? with
    | some o => stepM P ops wb (kat ops B i o) o (runM P ops wb B Q r) a w
    | none => runM P ops wb B Q r a w

def orderedOrSwapsM (ops : Array Oper) (B : Array Nat) (j i : Nat) : Bool :=
  (B.getD i 0).testBit j || match ops[j]?, ops[i]? with
    | some oj, some oi => oj.apart ops oi && swapK (kat ops B j oj) (kat ops B i oi)
    | _, _ => false

def mixB (ops : Array Oper) (B : Array Nat) : Bool :=
  Region.noSelect ops && (List.range ops.size).all fun i =>
    (match ops[i]? with
      | some o => o.after.toList.all (fun e => !Region.binds .any e || decide (e.on < i)) && ((B.getD i 0 ||| upOf B o) == upOf B o)
      | none => true) && (List.range i).all fun j => orderedOrSwapsM ops B j i

theorem mixB_row {B : Array Nat} (h : mixB ops B = true) {i : Nat} {o : Oper} (hi : ops[i]? = some o) :
    (∀ e ∈ o.after, Region.binds .any e = true → e.on < i) ∧ (∀ j, (B.getD i 0).testBit j = true → ∃ e ∈ o.after, Region.binds .any e = true ∧ (e.on = j ∨ (B.getD e.on 0).testBit j = true)) ∧ ∀ j, j < i → orderedOrSwapsM ops B j i = true := by
  have hlt : i < ops.size := (Array.getElem?_eq_some_iff.1 hi).1
  simp only [mixB, Bool.and_eq_true, List.all_eq_true, List.mem_range] at h
  have h1 := h.2 i hlt
  rw [hi] at h1
  simp only [Bool.and_eq_true, List.all_eq_true, Bool.or_eq_true, Bool.not_eq_true', decide_eq_true_eq, beq_iff_eq] at h1
  obtain ⟨⟨h2, h3⟩, h4⟩ := h1
  refine ⟨fun e he hb => ?_, fun j hj => ?_, h4⟩
  · rcases h2 e (by simpa using he) with h | h
    · rw [hb] at h; cases h
    · exact h
  · refine upOf_bit ?_
    rw [← h3, Nat.testBit_or, hj, Bool.true_or]

theorem bits_listedM {B : Array Nat} (hB : mixB ops B = true) {listed : Array Bool} (hs : Shut ops listed) : ∀ (m i : Nat), i ≤ m → ∀ o, ops[i]? = some o → (∀ e ∈ o.after, Region.binds .any e = true → listed.getD e.on false = true) →
    ∀ j, (B.getD i 0).testBit j = true → listed.getD j false = true := by
  intro m
  induction m with
  | zero =>
    intro i hi o ho hd j hj
    obtain ⟨h1, h2, _⟩ := mixB_row hB ho
    obtain ⟨e, he, hb, _⟩ := h2 j hj
    have := h1 e he hb
    omega
  | succ m ih =>
    intro i hi o ho hd j hj
    obtain ⟨h1, h2, _⟩ := mixB_row hB ho
    obtain ⟨e, he, hb, hj⟩ := h2 j hj
    have hlt := h1 e he hb
    have hl := hd e he hb
    rcases hj with rfl | hj
    · exact hl
    · have hsz : i < ops.size := (Array.getElem?_eq_some_iff.1 ho).1
      have hoe : ops[e.on]? = some ops[e.on] := Array.getElem?_eq_getElem (by omega)
      exact ih e.on (by omega) _ hoe (fun e' he' hb' => hs _ _ hoe hl e' he' hb') j hj

theorem runM_front {B : Array Nat} {Q : Act → World → Prop} {i : Nat} {oi : Oper} (hi : ops[i]? = some oi) (hsel : ∀ (j : Nat) (o : Oper) cs b, ops[j]? = some o → o.op ≠ .select cs b) :
    ∀ (l1 l2 : List Nat) (a : Act) (w : World),
      (∀ j ∈ l1, ∃ oj, ops[j]? = some oj ∧ oj.apart ops oi = true ∧ swapK (kat ops B j oj) (kat ops B i oi) = true) →
      runM P ops wb B Q (l1 ++ i :: l2) a w → stepM P ops wb (kat ops B i oi) oi (runM P ops wb B Q (l1 ++ l2)) a w := by
  intro l1
  induction l1 with
  | nil =>
    intro l2 a w _ h
    simp only [List.nil_append, runM, hi] at h
    exact h
  | cons j r ih =>
    intro l2 a w hl h
    obtain ⟨oj, hj, hap, hc⟩ := hl j List.mem_cons_self
    simp only [List.cons_append, runM, hj] at h
    have h' : stepM P ops wb (kat ops B j oj) oj (stepM P ops wb (kat ops B i oi) oi (runM P ops wb B Q (r ++ l2))) a w := stepM_mono (fun b w' hb => ih l2 b w' (fun k hk => hl k (List.mem_cons_of_mem _ hk)) hb) h
    have h'' := stepM_swap hap (fun cs b => hsel i oi cs b hi) (fun cs b => hsel j oj cs b hj) hc h'
    refine stepM_mono (fun b w' hb => ?_) h''
    simp only [List.cons_append, runM, hj]
    exact hb

theorem wpAny_of_runM {B : Array Nat} (hB : mixB ops B = true) {Q : Exit → Act → World → Prop} : ∀ (fuel : Nat) (listed : Array Bool) (a : Act) (w : World), listed.size = ops.size → Shut ops listed → (rest ops.size listed).length = fuel →
    runM P ops wb B (fun a w => Q .normal a w) (rest ops.size listed) a w → wpAny P .any ops Q fuel listed a w := by
  have hsel := Region.noSelect_spec (by simp only [mixB, Bool.and_eq_true] at hB; exact hB.1)
  intro fuel
  induction fuel with
  | zero =>
    intro listed a w hn hs hl h
    have hnil := List.eq_nil_of_length_eq_zero hl
    rw [hnil] at h
    refine ⟨?_, h⟩
    refine List.eq_nil_iff_forall_not_mem.2 fun i hi => ?_
    obtain ⟨h0, o, ho, _⟩ := mem_ready.1 hi
    have hlt : i < ops.size := (Array.getElem?_eq_some_iff.1 ho).1
    have : i ∈ rest ops.size listed := by
      unfold rest
      rw [List.mem_filter, List.mem_range]
      exact ⟨hlt, by rw [h0]; rfl⟩
    rw [hnil] at this
    cases this
  | succ fuel ih =>
    intro listed a w hn hs hl h
    refine ⟨fun hr => ?_, fun i hi => ?_⟩
    · exfalso
      cases hrest : rest ops.size listed with
      | nil => rw [hrest] at hl; simp at hl
      | cons x r =>
        have hx : x ∈ rest ops.size listed := by rw [hrest]; exact List.mem_cons_self
        have hex : ∀ k, (∃ i, i ≤ k ∧ i ∈ rest ops.size listed) → ∃ i, i ∈ rest ops.size listed ∧ ∀ j, j < i → j ∉ rest ops.size listed := by
          intro k
          induction k with
          | zero =>
            rintro ⟨i, h1, h2⟩
            exact ⟨i, h2, fun j hj => by omega⟩
          | succ k ihk =>
            rintro ⟨i, h1, h2⟩
            by_cases hlow : ∃ j, j ≤ k ∧ j ∈ rest ops.size listed
            · exact ihk hlow
            · exact ⟨i, h2, fun j hj hm => hlow ⟨j, by omega, hm⟩⟩
        obtain ⟨i, him, hmin⟩ := hex x ⟨x, Nat.le_refl _, hx⟩
        have him' := him
        unfold rest at him'
        rw [List.mem_filter, List.mem_range] at him'
        have ho : ops[i]? = some ops[i] := Array.getElem?_eq_getElem him'.1
        have : i ∈ Region.ready .any ops listed := by
          refine mem_ready.2 ⟨by simpa using him'.2, _, ho, fun e he hb => ?_⟩
          have hlt := (mixB_row hB ho).1 e he hb
          have hno := hmin e.on hlt
          unfold rest at hno
          rw [List.mem_filter, List.mem_range] at hno
          have hsz : e.on < listed.size := by omega
          have e1 : listed.getD e.on true = listed.getD e.on false := by simp [hsz]
          cases hb2 : listed.getD e.on false with
          | true => rfl
          | false =>
            rw [hb2] at e1
            exact absurd ⟨by omega, by rw [e1]; rfl⟩ hno
        rw [hr] at this
        cases this
    · obtain ⟨h0, oi, ho, hd⟩ := mem_ready.1 hi
      have hlt : i < ops.size := (Array.getElem?_eq_some_iff.1 ho).1
      obtain ⟨l1, l2, e1, e2, hl1⟩ := rest_split hn hlt h0
      rw [e1] at h
      have hfront := runM_front ho hsel l1 l2 a w (fun j hj => by
        obtain ⟨hji, hju⟩ := hl1 j hj
        have hsw := (mixB_row hB ho).2.2 j hji
        have hoj : ops[j]? = some ops[j] := Array.getElem?_eq_getElem (by omega)
        unfold orderedOrSwapsM at hsw
        rw [Bool.or_eq_true] at hsw
        rcases hsw with hsw | hsw
        · have := bits_listedM hB hs i i (Nat.le_refl _) oi ho hd j hsw
          have hsz : j < listed.size := by omega
          have e3 : listed.getD j true = listed.getD j false := by simp [hsz]
          rw [hju, this] at e3
          cases e3
        · rw [hoj, ho] at hsw
          simp only [Bool.and_eq_true] at hsw
          exact ⟨_, hoj, hsw.1, hsw.2⟩) h
      refine wpOp_of_stepM ho (stepM_mono (fun b w' hb => ih _ b w' (by simpa using hn) ?_ ?_ (by rw [e2]; exact hb)) hfront)
      · intro k o hk hkl e he hb
        rw [getD_set _ _ _ _ (by omega)] at hkl
        by_cases hik : i = k
        · subst hik
          rw [ho] at hk
          injection hk with hk
          subst hk
          exact getD_set_true (hd e he hb)
        · rw [if_neg hik] at hkl
          exact getD_set_true (hs k o hk hkl e he hb)
      · rw [e2]
        rw [e1] at hl
        simp only [List.length_append, List.length_cons] at hl ⊢
        omega

def mixD (P : Program) (ops : Array Oper) (wb : World) (B : Array Nat) (Q : Act → World → Prop) : Nat → List Oper → Act → World → Prop
  | _, [], a, w => Q a w
  | i, o :: r, a, w => stepM P ops wb (kat ops B i o) o (mixD P ops wb B Q (i + 1) r) a w

theorem runM_of_mix {B : Array Nat} {Q : Act → World → Prop} (l : List Oper) : ∀ k, (∀ j, l[j]? = ops[k + j]?) → ∀ a w, mixD P ops wb B Q k l a w → runM P ops wb B Q (List.range' k l.length) a w := by
  induction l with
  | nil => intro k _ a w h; exact h
  | cons o l ih =>
    intro k h a w hw
    have h0 : ops[k]? = some o := by simpa using (h 0).symm
    simp only [List.length_cons, List.range'_succ, runM, h0]
    exact stepM_mono (fun b w' hb => ih (k + 1) (fun j => by have := h (j + 1); simpa [Nat.add_assoc, Nat.add_comm 1 j] using this) b w' hb) hw

structure wpMix (P : Program) (ops : Array Oper) (wb : World) (Q : Act → World → Prop) (i : Nat) (l : List Oper) (a : Act) (w : World) : Prop where
  mk :: (out : mixD P ops wb (Region.before ops) Q i l a w)

theorem wp_region_mix {id : Nat} {Q : Exit → Act → World → Prop} {a : Act} {w : World} {l : List Oper} (hm : P.follows .mixedOrders = true) (hB : mixB l.toArray (Region.before l.toArray) = true)
    (h : Bw w.drew w.drew → wpMix P l.toArray w.drew (fun a w => Q .normal a w) 0 l a w.drew) : (Code.region id l.toArray true).wp P Q a w := by
  refine wp_region_any hm ?_
  have h1 := runM_of_mix (ops := l.toArray) l 0 (by simp) a _ (h (Bw.refl _)).out
  refine wpAny_of_runM (wb := w.drew) hB _ _ _ _ (by simp) ?_ ?_ ?_
  · intro k o hk hl
    by_cases hlt : k < l.length
    · simp [hlt] at hl
    · simp [hlt] at hl
  · rw [rest_none]; simp
  · rw [rest_none]
    rw [List.range_eq_range']
    simpa using h1

variable {Q : Act → World → Prop} {r : List Oper} {o : Oper} {a : Act} {w : World} {i : Nat}

theorem mix_nil (h : Q a w) : wpMix P ops wb Q i [] a w := ⟨h⟩

theorem mix_pass {ts : List Value} {ds : List Deferred} {d : Nat} (hd : o.dst = some d) (hw : Region.wanted o (yielded ops ts.toArray) = false) (h : wpMix P ops wb Q (i + 1) r ⟨(ts.set d undef).toArray, ds⟩ w) : wpMix P ops wb Q i (o :: r) ⟨ts.toArray, ds⟩ w := by
  refine ⟨?_⟩
  show stepM P ops wb (kat ops _ i o) o (mixD P ops wb _ Q (i + 1) r) _ w
  unfold stepM
  rw [hw, hd]
  have := h.out
  simpa [Act.put, Tr.on] using this

theorem mix_p (hw : Region.wanted o (yielded ops a.tmps) = true) (hc : cl o.op = .p) (hk : kop o.op = .p) (h : ∀ K : Act → Prop, (∀ a', wpMix P ops wb Q (i + 1) r a' w → K a') → o.quiet P a (fun _ => True) K) : wpMix P ops wb Q i (o :: r) a w := by
  obtain ⟨v, h1, h2⟩ := h (fun a' => wpMix P ops wb Q (i + 1) r a' w) (fun _ h => h)
  refine ⟨?_⟩
  show stepM P ops wb (kat ops _ i o) o (mixD P ops wb _ Q (i + 1) r) a w
  unfold stepM
  rw [if_pos hw, kat_p hk]
  refine ⟨v, fun w' => ?_, h2.out⟩
  have h3 := h1 w' trivial
  unfold Oper.quietAt at h3
  cases hr : (execOp a.eval o).run P w' with
  | halt x w1 => rw [hr] at h3; exact h3.elim
  | ok n w1 =>
    obtain ⟨u, rfl⟩ := value_of_cl (by rw [hc]; decide) hr
    rw [hr] at h3
    obtain ⟨e1, e2⟩ := h3
    rw [e1, e2]

def Near {α : Type} (b : Nat) (s : Sem α) : Prop := ∀ (P : Program) (w w1 w' : World) (x : α), w1.heap[b]? = w.heap[b]? → (∃ cs t fr, w.heap[b]? = some (.cells cs t fr)) → s.run P w = .ok x w' → s.run P w1 = .ok x w1
theorem near_pure {α : Type} {b : Nat} (x : α) : Near b (pure x : Sem α) := fun P w w1 w' y _ _ h => by
  rw [Sem.run_pure] at h ⊢
  injection h with h _
  rw [h]
def Lone {α : Type} (b : Nat) (s : Sem α) : Prop := ∀ (P : Program) (w w' : World) (x : α), (∃ cs t fr, w.heap[b]? = some (.cells cs t fr)) → s.run P w = .ok x w' → w' = w
theorem lone_pure {α : Type} {b : Nat} (x : α) : Lone b (pure x : Sem α) := fun P w w' y _ h => by
  rw [Sem.run_pure] at h
  injection h with _ h
  exact h.symm
theorem lone_bind {α β : Type} {b : Nat} {s : Sem α} {f : α → Sem β} (h1 : Lone b s) (h2 : ∀ y, Lone b (f y)) : Lone b (s >>= f) := fun P w w' x hb h => by
  rw [Sem.run_bind] at h
  cases hs : s.run P w with
  | ok y w1 =>
    rw [hs] at h
    simp only [Result.andThen_ok] at h
    have e := h1 P w w1 y hb hs
    subst e
    exact h2 y P w1 w' x hb h
  | halt e w1 => rw [hs] at h; simp [Result.andThen] at h
theorem near_bind {α β : Type} {b : Nat} {s : Sem α} {f : α → Sem β} (h1 : Near b s) (h3 : Lone b s) (h2 : ∀ y, Near b (f y)) : Near b (s >>= f) := fun P w w1 w' x he hb h => by
  rw [Sem.run_bind] at h ⊢
  cases hs : s.run P w with
  | ok y w2 =>
    rw [hs] at h
    simp only [Result.andThen_ok] at h
    have e := h3 P w w2 y hb hs
    subst e
    rw [h1 P w2 w1 w2 y he hb hs]
    simp only [Result.andThen_ok]
    exact h2 y P w2 w1 w' x he hb h
  | halt e w2 => rw [hs] at h; simp [Result.andThen] at h
theorem near_prog {α : Type} {b : Nat} {f : Program → Sem α} (h : ∀ p, Near b (f p)) : Near b (Go.program >>= f) := fun P w w1 w' x he hb hr => by
  rw [Sem.run_bind] at hr ⊢
  have e : ∀ w : World, (Go.program).run P w = .ok P w := fun _ => rfl
  rw [e] at hr ⊢
  simp only [Result.andThen_ok] at hr ⊢
  exact h P P w w1 w' x he hb hr
theorem lone_prog {α : Type} {b : Nat} {f : Program → Sem α} (h : ∀ p, Lone b (f p)) : Lone b (Go.program >>= f) := fun P w w' x hb hr => by
  rw [Sem.run_bind] at hr
  have e : ∀ w : World, (Go.program).run P w = .ok P w := fun _ => rfl
  rw [e] at hr
  simp only [Result.andThen_ok] at hr
  exact h P P w w' x hb hr
theorem near_halt {α : Type} {b : Nat} (h : Halt) : Near b (.halt h : Sem α) := fun P w w1 w' x _ _ hr => by simp [Sem.run] at hr
theorem lone_halt {α : Type} {b : Nat} (h : Halt) : Lone b (.halt h : Sem α) := fun P w w' x _ hr => by simp [Sem.run] at hr
theorem near_load {a : Addr} : Near a.block (Go.load a) := fun P w w1 w' x he hb hr => by
  obtain ⟨cs, t, fr, hb⟩ := hb
  have hc : w1.cell? a = w.cell? a := by simp [World.cell?, he]
  unfold Go.load at hr ⊢
  unfold Sem.run at hr ⊢
  rw [hc]
  cases hcell : w.cell? a with
  | some v =>
    rw [hcell] at hr
    simp only [Sem.run] at hr ⊢
    injection hr with hr _
    rw [hr]
  | none =>
    rw [hcell] at hr
    simp [World.farLoad, hb] at hr
theorem lone_load {a : Addr} : Lone a.block (Go.load a) := fun P w w' x hb hr => by
  obtain ⟨cs, t, fr, hb⟩ := hb
  unfold Go.load at hr
  unfold Sem.run at hr
  cases hcell : w.cell? a with
  | some v =>
    rw [hcell] at hr
    simp only [Sem.run] at hr
    injection hr with _ hr
    exact hr.symm
  | none =>
    rw [hcell] at hr
    simp [World.farLoad, hb] at hr
theorem add_block (a : Addr) (n : Nat) : (a.add n).block = a.block := by unfold Addr.add; split <;> rfl
theorem near_cells (a : Addr) : ∀ (n i : Nat) (acc : Array Value), Near a.block (loadCellsFrom a i n acc) ∧ Lone a.block (loadCellsFrom a i n acc)
  | 0, i, acc => ⟨near_pure _, lone_pure _⟩
  | n + 1, i, acc => by
    have hn : Near a.block (Go.load (a.add i)) := by have := near_load (a := a.add i); rwa [add_block] at this
    have hl : Lone a.block (Go.load (a.add i)) := by have := lone_load (a := a.add i); rwa [add_block] at this
    exact ⟨near_bind hn hl fun y => (near_cells a n (i + 1) (acc.push y)).1, lone_bind hl fun y => (near_cells a n (i + 1) (acc.push y)).2⟩
theorem near_under {b : Nat} (t : TypeId) : Near b (Go.underlying t) ∧ Lone b (Go.underlying t) := by
  unfold Go.underlying
  refine ⟨near_prog fun p => ?_, lone_prog fun p => ?_⟩ <;> cases p.underlying t <;> first | exact near_pure _ | exact near_halt _ | exact lone_pure _ | exact lone_halt _
theorem near_size {b : Nat} (t : TypeId) : Near b (Go.sizeOf t) ∧ Lone b (Go.sizeOf t) := by
  have h : Near b (Go.typeInfo t) ∧ Lone b (Go.typeInfo t) := by
    unfold Go.typeInfo
    refine ⟨near_prog fun p => ?_, lone_prog fun p => ?_⟩ <;> cases p.info? t <;> first | exact near_pure _ | exact near_halt _ | exact lone_pure _ | exact lone_halt _
  unfold Go.sizeOf
  exact ⟨near_bind h.1 h.2 fun _ => near_pure _, lone_bind h.2 fun _ => lone_pure _⟩
theorem near_agg {b : Nat} (t : TypeId) : Near b (Go.isAgg t) ∧ Lone b (Go.isAgg t) := by
  unfold Go.isAgg
  refine ⟨near_bind (near_under t).1 (near_under t).2 fun d => ?_, lone_bind (near_under t).2 fun d => ?_⟩ <;> cases d <;> first | exact near_pure _ | exact lone_pure _
theorem near_var (t : TypeId) (a : Addr) : Near a.block (Go.loadVar t a) ∧ Lone a.block (Go.loadVar t a) := by
  unfold Go.loadVar
  refine ⟨near_bind (near_agg t).1 (near_agg t).2 fun d => ?_, lone_bind (near_agg t).2 fun d => ?_⟩
  · cases d
    · exact near_load
    · exact near_bind (near_size t).1 (near_size t).2 fun n => near_bind (near_cells a n 0 #[]).1 (near_cells a n 0 #[]).2 fun _ => near_pure _
  · cases d
    · exact lone_load
    · exact lone_bind (near_size t).2 fun n => lone_bind (near_cells a n 0 #[]).2 fun _ => lone_pure _

theorem load_sure {wr w1 : World} {t : TypeId} {x : Operand} {ad : Addr} {v : Value} (ho : o.op = .load t x) (hx : a.eval x = .pointer (some ad)) (hc : (wr.cell? ad).isSome = true) (hr : (execOp a.eval o).run P wr = .ok (.value v) wr) (hb : Bw wr w1) : (execOp a.eval o).run P w1 = .ok (.value v) w1 := by
  obtain ⟨u, hu⟩ := Option.isSome_iff_exists.1 hc
  have hlt := World.block_lt_of_cell? wr ad hu
  have hcells : ∃ cs t fr, wr.heap[ad.block]? = some (.cells cs t fr) := by
    unfold World.cell? at hu
    split at hu
    · rename_i c e f hh
      exact ⟨_, _, _, hh⟩
    · cases hu
  have hs : execOp a.eval o = (do let y ← Go.loadVar t ad; pure (Next.value y) : Sem Next) := by
    obtain ⟨dst, op, type, pos, after, guard⟩ := o
    simp only at ho
    subst ho
    simp only [execOp, hx]
    rfl
  rw [hs] at hr ⊢
  exact near_bind (near_var t ad).1 (near_var t ad).2 (fun y => near_pure _) P wr w1 wr _ (hb.block _ hlt) hcells hr

theorem quiet_run {C : World → Prop} {wr : World} {K : Act → Prop} (hc : cl o.op ≠ .a) (hC : C wr) (h : o.quiet P a C K) : ∃ v, (execOp a.eval o).run P wr = .ok (.value v) wr ∧ K (a.put o.dst v) := by
  obtain ⟨v, h1, h2⟩ := h
  refine ⟨v, ?_, h2⟩
  have h3 := h1 wr hC
  unfold Oper.quietAt at h3
  cases hr : (execOp a.eval o).run P wr with
  | halt x w1 => rw [hr] at h3; exact h3.elim
  | ok n w1 =>
    obtain ⟨u, rfl⟩ := value_of_cl hc hr
    rw [hr] at h3
    obtain ⟨e1, e2⟩ := h3
    rw [e1, e2]

theorem mix_re {t : TypeId} {x : Operand} {ad : Addr} (hw : Region.wanted o (yielded ops a.tmps) = true) (hk : kat ops (Region.before ops) i o = .re ∨ kat ops (Region.before ops) i o = .rl) (ho : o.op = .load t x) (hx : a.eval x = .pointer (some ad)) (hc : (wb.cell? ad).isSome = true) (hB : Bw wb w)
    (h : ∀ K : Act → Prop, (∀ a', wpMix P ops wb Q (i + 1) r a' w → K a') → o.quiet P a (fun w' => w' = wb) K) : wpMix P ops wb Q i (o :: r) a w := by
  obtain ⟨v, h1, h2⟩ := quiet_run (C := fun w' => w' = wb) (wr := wb) (by rw [ho]; exact fun hh => by cases hh) rfl (h (fun a' => wpMix P ops wb Q (i + 1) r a' w) (fun _ h => h))
  refine ⟨?_⟩
  show stepM P ops wb (kat ops _ i o) o (mixD P ops wb _ Q (i + 1) r) a w
  unfold stepM
  rw [if_pos hw]
  rcases hk with hk | hk
  · rw [hk]
    exact ⟨hB, v, fun w1 hb => load_sure ho hx hc h1 hb, h2.out⟩
  · rw [hk]
    exact ⟨hB, v, fun w1 hb => load_sure ho hx hc h1 (hB.trans hb), h2.out⟩

theorem mix_rl {t : TypeId} {x : Operand} {ad : Addr} (hw : Region.wanted o (yielded ops a.tmps) = true) (hk : kat ops (Region.before ops) i o = .rl) (ho : o.op = .load t x) (hx : a.eval x = .pointer (some ad)) (hc : (w.cell? ad).isSome = true) (hB : Bw wb w)
    (h : ∀ K : Act → Prop, (∀ a', wpMix P ops wb Q (i + 1) r a' w → K a') → o.quiet P a (fun w' => w' = w) K) : wpMix P ops wb Q i (o :: r) a w := by
  obtain ⟨v, h1, h2⟩ := quiet_run (C := fun w' => w' = w) (wr := w) (by rw [ho]; exact fun hh => by cases hh) rfl (h (fun a' => wpMix P ops wb Q (i + 1) r a' w) (fun _ h => h))
  refine ⟨?_⟩
  show stepM P ops wb (kat ops _ i o) o (mixD P ops wb _ Q (i + 1) r) a w
  unfold stepM
  rw [if_pos hw, hk]
  exact ⟨hB, v, fun w1 hb => load_sure ho hx hc h1 hb, h2.out⟩

theorem mix_m (mk : Nat → Value) (obj : Obj) (hw : Region.wanted o (yielded ops a.tmps) = true) (hk : kat ops (Region.before ops) i o = .m) (hr : ∀ w1, (execOp a.eval o).run P w1 = .ok (.value (mk w1.heap.size)) (w1.alloc obj)) (hB : Bw wb w)
    (h : ∀ g w', Bw w w' → wb.heap.size ≤ g → w'.heap[g]? = some obj → wpMix P ops wb Q (i + 1) r (a.put o.dst (mk g)) w') : wpMix P ops wb Q i (o :: r) a w := by
  refine ⟨?_⟩
  show stepM P ops wb (kat ops _ i o) o (mixD P ops wb _ Q (i + 1) r) a w
  unfold stepM
  rw [if_pos hw, hk]
  exact ⟨hB, mk, obj, hr, fun g w' h1 h2 h3 => (h g w' h1 h2 h3).out⟩

theorem mix_c (hw : Region.wanted o (yielded ops a.tmps) = true) (hk : kat ops (Region.before ops) i o = .c) (hB : Bw wb w)
    (h : ∀ w1, Bw w w1 → ∀ K : Act → World → Prop, (∀ a' w', Bw w1 w' ∧ wpMix P ops wb Q (i + 1) r a' w' → K a' w') → o.wp P a w1 K NoQ) : wpMix P ops wb Q i (o :: r) a w := by
  refine ⟨?_⟩
  show stepM P ops wb (kat ops _ i o) o (mixD P ops wb _ Q (i + 1) r) a w
  unfold stepM
  rw [if_pos hw, hk]
  refine ⟨hB, fun w1 hw1 => ?_⟩
  exact outc_mono (fun t w' hk => ⟨hk.1, hk.2.out⟩) (outc_of_wp (h w1 hw1 (fun a' w' => Bw w1 w' ∧ wpMix P ops wb Q (i + 1) r a' w') (fun _ _ h => h)))

theorem mix_a (hw : Region.wanted o (yielded ops a.tmps) = true) (hk : kat ops (Region.before ops) i o = .a) (h : ∀ K : Act → World → Prop, (∀ a' w', wpMix P ops wb Q (i + 1) r a' w' → K a' w') → o.wp P a w K NoQ) : wpMix P ops wb Q i (o :: r) a w := by
  refine ⟨?_⟩
  show stepM P ops wb (kat ops _ i o) o (mixD P ops wb _ Q (i + 1) r) a w
  unfold stepM
  rw [if_pos hw, hk]
  exact outc_mono (fun t w' hk => hk.out) (outc_of_wp (h _ fun _ _ h => h))
end
end Go.Txt

namespace Go.Proofs.Ytfgabafbcephaaa.My
open Go.RowKit Pa Go.Proofs.YtfgabafbcephaaaW.PrintWords

def imay (x : S34) : Bool := decide (0 ≤ x.f0 ∧ x.f0 ≤ 1048575 ∧ -1099511627776 ≤ x.f1 ∧ x.f1 ≤ 1099511627776 ∧ 1 ≤ x.f2 ∧ x.f2 ≤ 1073741823 ∧ -1099511627776 ≤ x.f3 ∧ x.f3 ≤ 1099511627776)
def ord (a b : S34) : Int := if a.f1 < b.f1 then -1 else if b.f1 < a.f1 then 1 else if a.f2 < b.f2 then -1 else if b.f2 < a.f2 then 1 else 0
def wm (x : Int) : Bool := decide (-1099511627776 ≤ x ∧ x ≤ 1099511627776)
def bok (bs : List Int) (i : Nat) : Bool := wm (bs.getD i 0) && (decide (i = 0) || decide (bs.getD (i - 1) 0 < bs.getD i 0))
def ball (bs : List Int) : Nat → Nat → Bool
  | 0, _ => true
  | n + 1, i => bok bs i && ball bs n (i + 1)
def bmay (bs : List Int) : Bool := decide (bs.length ≤ 8) && ball bs bs.length 0
def bkt (bs : List Int) (v : Int) : Nat → Nat → Nat
  | 0, i => i
  | n + 1, i => if v ≤ bs.getD i 0 then i else bkt bs v n (i + 1)
def bucket (bs : List Int) (v : Int) : Nat := bkt bs v bs.length 0
def one (x : S34) (bs : List Int) : S36 := ⟨1, x.f3, x.f3, x.f3, x, x, (List.replicate (bs.length + 1) 0).set (bucket bs x.f3) 1⟩
def oneRes (x : S34) (bs : List Int) : S36 × Int := if imay x && bmay bs then (one x bs, 0) else (z36, 100)
def acV (a : S36) (v : Value) : Value := .agg #[.int .i64 a.f0, .int .i64 a.f1, .int .i64 a.f2, .int .i64 a.f3, .int .i64 a.f4.f0, .int .i64 a.f4.f1, .int .i64 a.f4.f2, .int .i64 a.f4.f3, .int .i64 a.f5.f0, .int .i64 a.f5.f1, .int .i64 a.f5.f2, .int .i64 a.f5.f3, v]

theorem bkt_le (bs : List Int) (v : Int) : ∀ n i, bkt bs v n i ≤ i + n
  | 0, i => by simp [bkt]
  | n + 1, i => by
    unfold bkt
    split
    · omega
    · have := bkt_le bs v n (i + 1)
      omega
theorem bucket_le (bs : List Int) (v : Int) : bucket bs v ≤ bs.length := by
  have := bkt_le bs v bs.length 0
  unfold bucket
  omega
theorem bmay_len {bs : List Int} (h : bmay bs = true) : bs.length ≤ 8 := by
  unfold bmay at h
  rw [Bool.and_eq_true, decide_eq_true_eq] at h
  exact h.1

theorem imay_f (x : S34) : acc_ItemMay.f x.f0 x.f1 x.f2 x.f3 = some (imay x) := by
  unfold acc_ItemMay.f acc_within.f imay
  have e : wrap64 (-1099511627776) = -1099511627776 := by unfold wrap64; rfl
  simp only [e]
  by_cases h1 : x.f0 ≥ 0 <;> by_cases h2 : x.f0 ≤ 1048575 <;> by_cases h3 : x.f1 ≥ -1099511627776 <;> by_cases h4 : x.f1 ≤ 1099511627776 <;> by_cases h5 : x.f2 ≥ 1 <;> by_cases h6 : x.f2 ≤ 1073741823 <;> by_cases h7 : x.f3 ≥ -1099511627776 <;> by_cases h8 : x.f3 ≤ 1099511627776 <;> simp [h1, h2, h3, h4, h5, h6, h7, h8] <;> omega
theorem wm_f (x : Int) : acc_within.f x 1099511627776 = some (wm x) := by
  unfold acc_within.f wm
  have e : wrap64 (-1099511627776) = -1099511627776 := by unfold wrap64; rfl
  simp only [e]
  by_cases h3 : x ≥ -1099511627776 <;> by_cases h4 : x ≤ 1099511627776 <;> simp [h3, h4] <;> omega
theorem wrap_up {i : Nat} (h : i ≤ 17592186044415) : wrap64 ((i : Int) + 1) = ((i + 1 : Nat) : Int) := by unfold wrap64; omega
theorem bm_loop (l : List Int) (hl : l.length ≤ 8) : ∀ n i k, i + n = l.length → n < k → acc_BoundsMay.l0 k l l l.length i = some (ball l n i)
  | 0, i, 0, _, hk => absurd hk (by omega)
  | 0, i, k + 1, h, _ => by
    unfold acc_BoundsMay.l0 ball
    rw [if_neg (by omega)]
  | n + 1, i, 0, _, hk => absurd hk (by omega)
  | n + 1, i, k + 1, h, hk => by
    have ih := bm_loop l hl n (i + 1) k (by omega) (by omega)
    unfold acc_BoundsMay.l0 ball
    rw [if_pos (by omega), if_pos (by omega), if_pos (by omega), wm_f]
    simp only [Option.bind_some]
    rw [wrap_up (by omega), ih]
    unfold bok
    have e1 : rd l (i : Int) = l.getD i 0 := by simp [rd]
    rw [e1]
    by_cases h1 : wm (l.getD i 0) = true
    · rw [if_pos h1, h1]
      by_cases h0 : i = 0
      · subst h0
        simp
      · rw [if_pos (by omega)]
        have e2 : wrap64 ((i : Int) - 1) = ((i - 1 : Nat) : Int) := by unfold wrap64; omega
        rw [e2, if_pos (by omega), if_pos (by omega)]
        have e3 : rd l ((i - 1 : Nat) : Int) = l.getD (i - 1) 0 := by simp [rd]
        rw [e3]
        by_cases h2 : l.getD (i - 1) 0 ≥ l.getD i 0
        · rw [if_pos h2, decide_eq_false h0, decide_eq_false (by omega)]
          simp
        · rw [if_neg h2, decide_eq_false h0, decide_eq_true (by omega)]
          simp
    · have h1' : wm (l.getD i 0) = false := by
        cases h' : wm (l.getD i 0)
        · rfl
        · exact absurd h' h1
      rw [if_neg h1, h1']
      rfl
theorem bmay_f (l : List Int) : acc_BoundsMay.f 9 l = some (bmay l) := by
  unfold acc_BoundsMay.f bmay
  by_cases h : (l.length : Int) > 8
  · rw [if_pos h, decide_eq_false (by omega)]
    simp
  · rw [if_neg h, decide_eq_true (by omega)]
    have := bm_loop l (by omega) l.length 0 9 (by omega) (by omega)
    simpa using this
theorem bk_loop (l : List Int) (v : Int) (hl : l.length ≤ 8) : ∀ n i k, i + n = l.length → n < k → acc_bucket.l0 k l v l l.length i = some ((bkt l v n i : Nat) : Int)
  | 0, i, 0, _, hk => absurd hk (by omega)
  | 0, i, k + 1, h, _ => by
    unfold acc_bucket.l0 bkt
    rw [if_neg (by omega)]
    simp only [Option.some.injEq]
    omega
  | n + 1, i, 0, _, hk => absurd hk (by omega)
  | n + 1, i, k + 1, h, hk => by
    have ih := bk_loop l v hl n (i + 1) k (by omega) (by omega)
    unfold acc_bucket.l0 bkt
    rw [if_pos (by omega), if_pos (by omega), if_pos (by omega), wrap_up (by omega), ih]
    have e1 : rd l (i : Int) = l.getD i 0 := by simp [rd]
    rw [e1]
    split <;> rfl
theorem bucket_f (l : List Int) (v : Int) (hl : l.length ≤ 8) : acc_bucket.f 9 l v = some ((bucket l v : Nat) : Int) := bk_loop l v hl l.length 0 9 (by omega) (by omega)
theorem bm_any (bs : List Int) (A : Option Addr) (c : Nat) (w : World) (hr : Kd.C (Kd.int .i64) w A bs.length bs) (hc : bs.length ≤ c) :
    Calls Try.prog 55 #[.slice A bs.length c] w fun e w' => e = .returned (.bool (bmay bs)) ∧ Below w.heap.size w w' :=
  (acc_BoundsMay.calls 9 A c bs _ w hr hc (bmay_f bs)).mono fun _ _ h => ⟨h.1, h.2.below⟩
theorem im_any (x : S34) (w : World) :
    Calls Try.prog 82 #[.agg #[.int .i64 x.f0, .int .i64 x.f1, .int .i64 x.f2, .int .i64 x.f3]] w fun e w' => e = .returned (.bool (imay x)) ∧ Below w.heap.size w w' :=
  acc_ItemMay.calls _ _ _ _ _ w (imay_f x)
theorem bucket_any (bs : List Int) (v : Int) (A : Option Addr) (c : Nat) (w : World) (hr : Kd.C (Kd.int .i64) w A bs.length bs) (hc : bs.length ≤ c) (hl : bs.length ≤ 8) :
    Calls Try.prog 84 #[.slice A bs.length c, .int .i64 v] w fun e w' => e = .returned (.int .i64 (bucket bs v : Nat)) ∧ Below w.heap.size w w' :=
  (acc_bucket.calls 9 A c bs v _ w hr hc (bucket_f bs v hl)).mono fun _ _ h => ⟨h.1, h.2.below⟩
theorem wm_any (x : Int) (w : World) :
    Calls Try.prog 81 #[.int .i64 x, .int .i64 1099511627776] w fun e w' => e = .returned (.bool (wm x)) ∧ Below w.heap.size w w' :=
  (acc_within.calls x 1099511627776 _ w (wm_f x)).mono fun _ _ h => ⟨h.1, h.2.below⟩
theorem ite3 (a b : Int) : cmp_Compare_int.f a b = some (if a < b then -1 else if b < a then 1 else 0) := by
  unfold cmp_Compare_int.f cmp_isNaN_int.f
  by_cases h1 : a < b
  · simp [h1]
  · by_cases h2 : b < a <;> simp [h1, h2]
theorem or2 (a b : Int) : cmp_Or_int.f 9 [a, b] = some (if a = 0 then b else a) := by
  unfold cmp_Or_int.f
  by_cases h1 : a = 0 <;> by_cases h2 : b = 0 <;> simp [cmp_Or_int.l0, rd, h1, h2, wrap64]
theorem ord_f (a b : S34) : acc_Order.f 9 a.f0 a.f1 a.f2 a.f3 b.f0 b.f1 b.f2 b.f3 = some (ord a b) := by
  unfold acc_Order.f ord
  simp only [ite3, or2, Option.bind_some, Option.some.injEq]
  split <;> (try split) <;> (try split) <;> (try split) <;> (try split) <;> omega
theorem ord_any (a b : S34) (w : World) :
    Calls Try.prog 63 #[.agg #[.int .i64 a.f0, .int .i64 a.f1, .int .i64 a.f2, .int .i64 a.f3], .agg #[.int .i64 b.f0, .int .i64 b.f1, .int .i64 b.f2, .int .i64 b.f3]] w fun e w' => e = .returned (.int .i64 (ord a b)) ∧ Below w.heap.size w w' :=
  acc_Order.calls 9 _ _ _ _ _ _ _ _ _ w (ord_f a b)
end Go.Proofs.Ytfgabafbcephaaa.My

namespace Go.Proofs.Ytfgabafbcephaaa.My
open Go.RowKit

structure Chg (S : Nat → Prop) (w w' : World) : Prop where
  os : w'.os = w.os
  tape : w'.tape = w.tape
  output : w'.output = w.output
  size : w.heap.size ≤ w'.heap.size
  block : ∀ k, k < w.heap.size → ¬ S k → w'.heap[k]? = w.heap[k]?

section
variable {S T : Nat → Prop} {w w1 w2 : World}
theorem Chg.refl (S : Nat → Prop) (w : World) : Chg S w w := ⟨rfl, rfl, rfl, Nat.le_refl _, fun _ _ _ => rfl⟩
theorem Chg.trans (h : Chg S w w1) (k : Chg T w1 w2) (hT : ∀ i, i < w.heap.size → T i → S i) : Chg S w w2 :=
  ⟨k.os.trans h.os, k.tape.trans h.tape, k.output.trans h.output, Nat.le_trans h.size k.size, fun i hi hn => (k.block i (Nat.lt_of_lt_of_le hi h.size) (fun ht => hn (hT i hi ht))).trans (h.block i hi hn)⟩
theorem Chg.then_ (h : Chg S w w1) (k : Chg S w1 w2) : Chg S w w2 := h.trans k (fun _ _ h => h)
theorem Chg.mono (h : Chg S w w1) (hS : ∀ i, i < w.heap.size → S i → T i) : Chg T w w1 := ⟨h.os, h.tape, h.output, h.size, fun i hi hn => h.block i hi (fun hs => hn (hS i hi hs))⟩
theorem Chg.of_below (h : Below w.heap.size w w1) : Chg S w w1 := ⟨h.os, h.tape, h.output, h.size, fun i hi _ => h.block i hi⟩
theorem Chg.below (h : Chg S w w1) (hb : Below w1.heap.size w1 w2) : Chg S w w2 := h.then_ (Chg.of_below hb)
theorem Chg.drew (h : Chg S w w1) : Chg S w w1.drew := ⟨h.os, h.tape, h.output, h.size, h.block⟩
theorem Chg.alloc (h : Chg S w w1) (o : Obj) : Chg S w (w1.alloc o) := h.below ((Below.refl _ _).alloc (Nat.le_refl _) o)
theorem Chg.setCell (h : Chg S w w1) {p : Addr} (hp : S p.block ∨ w.heap.size ≤ p.block) (u : Value) : Chg S w (w1.setCell p u) :=
  h.trans (T := fun k => k = p.block) ⟨rfl, rfl, rfl, by simp [World.setCell], fun k _ hn => Below.heap_setCell _ _ _ _ hn⟩ (fun i hi e => by
    rcases hp with hp | hp
    · rw [e]; exact hp
    · omega)
theorem Chg.grown {row : Option Nat} (h : Chg S w w1) (hg : w1.grownBy w2 row) (hr : ∀ k, row = some k → S k ∨ w.heap.size ≤ k) : Chg S w w2 :=
  h.trans (T := fun k => some k = row) ⟨hg.os, hg.tape, hg.output, hg.size, fun k hk hn => hg.block k hk hn⟩ (fun i hi e => by
    rcases hr i e.symm with h | h
    · exact h
    · omega)
theorem Chg.base {B : Nat} {w0 : World} (h0 : Below B w0 w) (h : Chg S w w1) (hB : B ≤ w.heap.size) (hS : ∀ i, S i → B ≤ i) : Below B w0 w1 :=
  h0.trans ⟨h.os, h.tape, h.output, h.size, fun i hi => h.block i (by omega) (fun hs => by have := hS i hs; omega)⟩
theorem Chg.obj {o : Obj} {b : Nat} (h : Chg S w w1) (hb : w.heap[b]? = some o) (hn : ¬ S b) : w1.heap[b]? = some o := (h.block b (Array.getElem?_eq_some_iff.1 hb).1 hn).trans hb
end

theorem blk_lt {w : World} {b : Nat} {o : Obj} (h : w.heap[b]? = some o) : b < w.heap.size := (Array.getElem?_eq_some_iff.1 h).1
theorem blk_cell {w : World} {b : Nat} {cs : Array Value} {t : TypeId} {fr : Nat × Nat} (h : w.heap[b]? = some (.cells cs t fr)) (j : Nat) : w.cell? ⟨b, j, none⟩ = cs[j]? := by simp [World.cell?, h]
theorem blk_free {w : World} {b : Nat} {cs : Array Value} {t : TypeId} (h : w.heap[b]? = some (.cells cs t (0, 0))) (j : Nat) : w.frozen? ⟨b, j, none⟩ = false := by simp [World.frozen?, h]
theorem blk_set {w : World} {b : Nat} {cs : Array Value} {t : TypeId} {fr : Nat × Nat} (h : w.heap[b]? = some (.cells cs t fr)) (j : Nat) (u : Value) : (w.setCell ⟨b, j, none⟩ u).heap[b]? = some (.cells (cs.setIfInBounds j u) t fr) := by
  simp [World.setCell, Array.getElem?_modify, h]
theorem blk_far {w : World} {b : Nat} {o : Obj} (h : w.heap[b]? = some o) {p : Addr} (hne : b ≠ p.block) (u : Value) : (w.setCell p u).heap[b]? = some o := (Below.heap_setCell w p u b hne).trans h

theorem row_blk {w : World} {base b n cap : Nat} {e : TypeId} {size : Nat} {cs : List Value} (h : w.ownsRow base e size (.slice (some ⟨b, 0, none⟩) n cap) n cs) : ∃ cur, w.heap[b]? = some (.cells cur e (0, 0)) := by
  rcases h.2 with ⟨h1, _⟩ | ⟨g, cap', cur, h1, _, hh, _⟩
  · cases h1
  · injection h1 with h1
    injection h1 with h1
    injection h1 with h1
    subst h1
    exact ⟨cur, hh⟩
theorem row_cap {w : World} {base b n cap : Nat} {e : TypeId} {size : Nat} {cs : List Value} (h : w.ownsRow base e size (.slice (some ⟨b, 0, none⟩) n cap) n cs) : n ≤ cap ∧ cap ≤ maxLen := by
  rcases h.2 with ⟨h1, _⟩ | ⟨g, cap', cur, h1, _, hh, h2, h3, _⟩
  · cases h1
  · injection h1 with _ _ h1
    subst h1
    exact ⟨h2, h3⟩
theorem row_keep {S : Nat → Prop} {w w1 : World} {base n : Nat} {e : TypeId} {size : Nat} {v : Value} {cs : List Value} (h : w.ownsRow base e size v n cs) (hc : Chg S w w1) (hn : ∀ k, v.ownBlock = some k → ¬ S k) : w1.ownsRow base e size v n cs := by
  obtain ⟨h1, h2⟩ := h
  refine ⟨h1, ?_⟩
  rcases h2 with h2 | ⟨g, cap, cur, rfl, hg, hh, r⟩
  · exact .inl h2
  · exact .inr ⟨g, cap, cur, rfl, hg, hc.obj hh (hn g rfl), r⟩
end Go.Proofs.Ytfgabafbcephaaa.My

namespace Go.Proofs.Ytfgabafbcephaaa.My
open Go.RowKit Pa Go.Proofs.YtfgabafbcephaaaW.PrintWords
attribute [local go_sem high] eqA34

def Own (w : World) (base : Nat) (v : Value) (h : List Int) : Prop := w.ownsRow base 3 1 v h.length (h.map (Value.int .i64))
abbrev RdI (w : World) (A : Option Addr) (h : List Int) : Prop := Kd.C (Kd.int .i64) w A h.length h
theorem Own.reads {w : World} {base : Nat} {v : Value} {h : List Int} (ho : Own w base v h) : ∃ A c, v = .slice A h.length c ∧ h.length ≤ c ∧ RdI w A h :=
  Kd.R_reads (d := Kd.int .i64) (Kd.R_of_own (ok := fun _ => True) ho (fun _ _ => trivial))
theorem Own.nil (w : World) (base : Nat) : Own w base (.slice none 0 0) [] := World.ownsRow_nil _ _ _ _
theorem Own.keep {S : Nat → Prop} {w w1 : World} {base : Nat} {v : Value} {h : List Int} (ho : Own w base v h) (hc : Chg S w w1) (hn : ∀ k, v.ownBlock = some k → ¬ S k) : Own w1 base v h := row_keep ho hc hn
theorem Own.below {w w1 : World} {base : Nat} {v : Value} {h : List Int} (ho : Own w base v h) (hb : Below w.heap.size w w1) : Own w1 base v h := ho.keep (S := fun _ => False) (Chg.of_below hb) (fun _ _ h => h)

def itO (x : S34) : Obj := .cells #[.int .i64 x.f0, .int .i64 x.f1, .int .i64 x.f2, .int .i64 x.f3] 34
def acO (a : S36) (v : Value) : Obj := .cells #[.int .i64 a.f0, .int .i64 a.f1, .int .i64 a.f2, .int .i64 a.f3, .int .i64 a.f4.f0, .int .i64 a.f4.f1, .int .i64 a.f4.f2, .int .i64 a.f4.f3, .int .i64 a.f5.f0, .int .i64 a.f5.f1, .int .i64 a.f5.f2, .int .i64 a.f5.f3, v] 36
theorem itO_facts {w : World} {b : Nat} {x : S34} (h : w.heap[b]? = some (itO x)) : w.cell? ⟨b, 0, none⟩ = some (.int .i64 x.f0) ∧ w.cell? ⟨b, 1, none⟩ = some (.int .i64 x.f1) ∧ w.cell? ⟨b, 2, none⟩ = some (.int .i64 x.f2) ∧ w.cell? ⟨b, 3, none⟩ = some (.int .i64 x.f3) ∧ b < w.heap.size :=
  ⟨(blk_cell h 0).trans rfl, (blk_cell h 1).trans rfl, (blk_cell h 2).trans rfl, (blk_cell h 3).trans rfl, blk_lt h⟩
theorem acO_facts {w : World} {b : Nat} {a : S36} {v : Value} (h : w.heap[b]? = some (acO a v)) : w.cell? ⟨b, 0, none⟩ = some (.int .i64 a.f0) ∧ w.cell? ⟨b, 1, none⟩ = some (.int .i64 a.f1) ∧ w.cell? ⟨b, 2, none⟩ = some (.int .i64 a.f2) ∧ w.cell? ⟨b, 3, none⟩ = some (.int .i64 a.f3) ∧ w.cell? ⟨b, 4, none⟩ = some (.int .i64 a.f4.f0) ∧ w.cell? ⟨b, 5, none⟩ = some (.int .i64 a.f4.f1) ∧ w.cell? ⟨b, 6, none⟩ = some (.int .i64 a.f4.f2) ∧ w.cell? ⟨b, 7, none⟩ = some (.int .i64 a.f4.f3) ∧ w.cell? ⟨b, 8, none⟩ = some (.int .i64 a.f5.f0) ∧ w.cell? ⟨b, 9, none⟩ = some (.int .i64 a.f5.f1) ∧ w.cell? ⟨b, 10, none⟩ = some (.int .i64 a.f5.f2) ∧ w.cell? ⟨b, 11, none⟩ = some (.int .i64 a.f5.f3) ∧ w.cell? ⟨b, 12, none⟩ = some v ∧ b < w.heap.size :=
  ⟨(blk_cell h 0).trans rfl, (blk_cell h 1).trans rfl, (blk_cell h 2).trans rfl, (blk_cell h 3).trans rfl, (blk_cell h 4).trans rfl, (blk_cell h 5).trans rfl, (blk_cell h 6).trans rfl, (blk_cell h 7).trans rfl, (blk_cell h 8).trans rfl, (blk_cell h 9).trans rfl, (blk_cell h 10).trans rfl, (blk_cell h 11).trans rfl, (blk_cell h 12).trans rfl, blk_lt h⟩
theorem blk_below {w w1 : World} {b : Nat} {o : Obj} (h : w.heap[b]? = some o) (hb : Below w.heap.size w w1) : w1.heap[b]? = some o := (Chg.of_below (S := fun _ => False) hb).obj h (fun h => h)

def putA (w : World) (b : Nat) (a : S36) (v : Value) : World := ((((((((((((w.setCell ⟨b, 0, none⟩ (.int .i64 a.f0)).setCell ⟨b, 1, none⟩ (.int .i64 a.f1)).setCell ⟨b, 2, none⟩ (.int .i64 a.f2)).setCell ⟨b, 3, none⟩ (.int .i64 a.f3)).setCell ⟨b, 4, none⟩ (.int .i64 a.f4.f0)).setCell ⟨b, 5, none⟩ (.int .i64 a.f4.f1)).setCell ⟨b, 6, none⟩ (.int .i64 a.f4.f2)).setCell ⟨b, 7, none⟩ (.int .i64 a.f4.f3)).setCell ⟨b, 8, none⟩ (.int .i64 a.f5.f0)).setCell ⟨b, 9, none⟩ (.int .i64 a.f5.f1)).setCell ⟨b, 10, none⟩ (.int .i64 a.f5.f2)).setCell ⟨b, 11, none⟩ (.int .i64 a.f5.f3)).setCell ⟨b, 12, none⟩ v
theorem putA_blk {w : World} {b : Nat} {a0 a : S36} {v0 v : Value} (h : w.heap[b]? = some (acO a0 v0)) : (putA w b a v).heap[b]? = some (acO a v) := by
  have := blk_set (blk_set (blk_set (blk_set (blk_set (blk_set (blk_set (blk_set (blk_set (blk_set (blk_set (blk_set (blk_set h 0 (.int .i64 a.f0)) 1 (.int .i64 a.f1)) 2 (.int .i64 a.f2)) 3 (.int .i64 a.f3)) 4 (.int .i64 a.f4.f0)) 5 (.int .i64 a.f4.f1)) 6 (.int .i64 a.f4.f2)) 7 (.int .i64 a.f4.f3)) 8 (.int .i64 a.f5.f0)) 9 (.int .i64 a.f5.f1)) 10 (.int .i64 a.f5.f2)) 11 (.int .i64 a.f5.f3)) 12 v
  simp only [List.setIfInBounds_toArray, List.set_cons_zero, List.set_cons_succ] at this
  exact this
theorem putA_chg (w : World) (b : Nat) (a : S36) (v : Value) : Chg (fun k => k = b) w (putA w b a v) :=
  (((((((((((((Chg.refl (fun k => k = b) w).setCell (p := ⟨b, 0, none⟩) (.inl rfl) _).setCell (p := ⟨b, 1, none⟩) (.inl rfl) _).setCell (p := ⟨b, 2, none⟩) (.inl rfl) _).setCell (p := ⟨b, 3, none⟩) (.inl rfl) _).setCell (p := ⟨b, 4, none⟩) (.inl rfl) _).setCell (p := ⟨b, 5, none⟩) (.inl rfl) _).setCell (p := ⟨b, 6, none⟩) (.inl rfl) _).setCell (p := ⟨b, 7, none⟩) (.inl rfl) _).setCell (p := ⟨b, 8, none⟩) (.inl rfl) _).setCell (p := ⟨b, 9, none⟩) (.inl rfl) _).setCell (p := ⟨b, 10, none⟩) (.inl rfl) _).setCell (p := ⟨b, 11, none⟩) (.inl rfl) _).setCell (p := ⟨b, 12, none⟩) (.inl rfl) _

theorem info_int : (Try.prog.info? 3).map (fun i => (i.zero, i.size, i.bytes)) = some (some (.int .i64 0), 1, 8) := by kernel_rfl
theorem made_ints (n : Nat) : madeCells (Value.int .i64 0).cells n = Array.replicate n (.int .i64 0) := by
  apply Array.ext
  · simp [madeCells]
  · intro i h1 h2
    simp [madeCells, Value.cells, Nat.mod_one]
theorem make_ints (n : Nat) (hn : n ≤ 1000) (w : World) : (Instr.makeSlice 22 (.int .i64 n) (.int .i64 n)).run Try.prog w = .ok (.slice (some ⟨w.heap.size, 0, none⟩) n n) (w.alloc (.cells (Array.replicate n (.int .i64 0)) 3)) := by
  cases hi : Try.prog.info? 3 with
  | none => have := info_int; rw [hi] at this; simp at this
  | some i =>
    have h := info_int
    rw [hi] at h
    simp only [Option.map_some, Option.some.injEq, Prod.mk.injEq] at h
    obtain ⟨hz, hs, hb⟩ := h
    have hr := run_make w 22 3 i (.int .i64 0) Try.underlying22 hi hz .i64 .i64 n n (by omega) (by omega) (by rw [hb]; omega) (by omega)
    rw [hs, Nat.mul_one, Int.toNat_natCast, made_ints] at hr
    exact hr
theorem made_own (n : Nat) (hn : n ≤ 1000) (w : World) (g : Nat) (h : w.heap[g]? = some (.cells (Array.replicate n (.int .i64 0)) 3 (0, 0))) (base : Nat) (hb : base ≤ g) : Own w base (.slice (some ⟨g, 0, none⟩) n n) (List.replicate n 0) := by
  refine ⟨by simp, .inr ⟨g, n, _, by simp, hb, h, by simp, by simp [maxLen]; omega, by simp, ?_⟩⟩
  simp

theorem results_acc {fn : Func} {p u : Tmp} (h : fn.results = #[.cell p 36, .tmp u]) (tmps : Array Value) (w : World) (g : Nat) (a : S36) (v : Value) (hp : tmps.getD p undef = .pointer (some ⟨g, 0, none⟩)) (hg : w.heap[g]? = some (acO a v)) :
    (results fn tmps).run Try.prog w = .ok (.tuple #[acV a v, tmps.getD u undef]) w :=
  results_ct h tmps w g 36 _ (0, 0) _ hp hg Try.underlying36 rfl (by kernel_rfl)

end Go.Proofs.Ytfgabafbcephaaa.My

namespace Go.Proofs.Ytfgabafbcephaaa.My
open Go.RowKit Pa Go.Proofs.YtfgabafbcephaaaW.PrintWords

theorem num_any (a : Int) (w : World) : Calls Try.prog 13 #[.int .i64 a] w fun e w' => e = .returned (.int .i64 a) ∧ w = w' := by
  go_enter Try.func13, Try.ntmps13
  go_wp2
  go_ret
  exact ⟨rfl, rfl⟩
theorem same_loop (l : List Int) (hl : l.length ≤ 17592186044415) : ∀ n i k, i + n = l.length → n < k → bournelaw0_SameInts.l0 k l l i = some true
  | 0, i, 0, _, hk => absurd hk (by omega)
  | 0, i, k + 1, h, _ => by
    unfold bournelaw0_SameInts.l0
    rw [if_neg (by omega)]
  | n + 1, i, 0, _, hk => absurd hk (by omega)
  | n + 1, i, k + 1, h, hk => by
    have ih := same_loop l hl n (i + 1) k (by omega) (by omega)
    unfold bournelaw0_SameInts.l0
    rw [if_pos (by omega), if_pos (by omega), if_pos (by omega), if_pos rfl, wrap_up (by omega), ih]
theorem ints_yes (l : List Int) (A B : Option Addr) (c d : Nat) (w : World) (hA : RdI w A l) (hc : l.length ≤ c) (hB : RdI w B l) (hd : l.length ≤ d) (hl : l.length ≤ 17592186044415) :
    Calls Try.prog 27 #[.slice A l.length c, .slice B l.length d] w fun e w' => e = .returned (.bool true) ∧ Below w.heap.size w w' :=
  (bournelaw0_SameInts.calls (l.length + 1) A c l B d l true w hA hc hB hd (by
    unfold bournelaw0_SameInts.f
    have h := same_loop l hl l.length 0 (l.length + 1) (by omega) (by omega)
    simp only [Int.natCast_zero] at h
    simp [h])).mono fun e w' h => ⟨h.1, h.2.below⟩
def AVar (w : World) (b : Nat) (a : S36) (A : Option Addr) (c : Nat) : Prop := w.heap[b]? = some (acO a (.slice A a.f6.length c)) ∧ a.f6.length ≤ c ∧ RdI w A a.f6
theorem AVar.below {w w1 : World} {b : Nat} {a : S36} {A : Option Addr} {c : Nat} (h : AVar w b a A c) (hb : Below w.heap.size w w1) : AVar w1 b a A c := ⟨blk_below h.1 hb, h.2.1, Kd.C_below h.2.2 hb⟩
theorem AVar.new {w : World} {a : S36} {A : Option Addr} {c : Nat} (hl : a.f6.length ≤ c) (hr : RdI w A a.f6) : AVar (w.alloc (acO a (.slice A a.f6.length c))) w.heap.size a A c :=
  ⟨heap_alloc_new w _, hl, Kd.C_below hr ((Below.refl _ _).alloc (Nat.le_refl _) _)⟩
theorem rdI_nil (w : World) : RdI w none [] := ⟨rfl, by decide, fun h => absurd h (by decide)⟩
theorem rdI_blk {w : World} {b : Nat} {l : List Int} {T : TypeId} {fr : Nat × Nat} (h : w.heap[b]? = some (.cells (l.map (Value.int .i64)).toArray T fr)) (hl : l.length ≤ 1000) : RdI w (some ⟨b, 0, none⟩) l := by
  refine ⟨rfl, by omega, fun _ => ⟨_, rfl, fun j p hp => ⟨[.int .i64 p], rfl, rfl, fun i u hu => ?_⟩⟩⟩
  rw [show j * (Kd.int .i64).sz + i = j + i by rw [show (Kd.int .i64).sz = 1 from rfl, Nat.mul_one], add_plain, blk_cell h]
  cases i with
  | zero =>
    simp at hu
    subst hu
    simp [List.getElem?_map, hp]
  | succ i => simp at hu
end Go.Proofs.Ytfgabafbcephaaa.My

namespace Go.Proofs.Ytfgabafbcephaaa.My
open Go.RowKit Pa Go.Proofs.YtfgabafbcephaaaW.PrintWords

theorem rd_of_row {w : World} {x : Addr} {len cap : Nat} {zs : List Int} (hl : len ≤ cap) (hm : cap ≤ maxLen) (hz : zs.length = cap)
    (hc : ∀ i, i < zs.length → w.cell? (x.add i) = some (.int .i64 (zs.getD i 0))) (hw : ∀ n ∈ zs, (Lit.int .i64 n).wf = true) :
    ∃ l : List Int, len = l.length ∧ RdI w (some x) l ∧ ∀ n ∈ l, (Lit.int .i64 n).wf = true := by
  refine ⟨zs.take len, by rw [List.length_take]; omega, ⟨rfl, ?_, fun _ => ⟨x, rfl, fun j p hp => ⟨[.int .i64 p], rfl, rfl, fun i u hu => ?_⟩⟩⟩, fun n hn => hw n (List.mem_of_mem_take hn)⟩
  · rw [List.length_take]
    have h : maxLen = 9223372036854775807 := by simp [maxLen]
    omega
  · rw [show j * (Kd.int .i64).sz + i = j + i by rw [show (Kd.int .i64).sz = 1 from rfl, Nat.mul_one]]
    cases i with
    | zero =>
      simp at hu
      subst hu
      have hj := (List.getElem?_eq_some_iff.1 hp).1
      rw [List.length_take] at hj
      have h1 := hc j (by omega)
      rw [List.getElem?_take] at hp
      split at hp
      · rw [List.getD_eq_getElem?_getD, hp] at h1
        exact h1
      · cases hp
    | succ i => simp at hu
end Go.Proofs.Ytfgabafbcephaaa.My

namespace Go.Proofs.Ytfgabafbcephaaa.My
open Go.RowKit Pa Go.Proofs.YtfgabafbcephaaaW.PrintWords
attribute [local go_sem high] eqA34

def Rel (p : Prop) : Prop := p
theorem bne_ {b : Bool} (h : ¬ b = true) : b = false := by
  cases b
  · rfl
  · exact absurd rfl h
theorem RdI.at_ {w : World} {A : Option Addr} {h : List Int} (hr : RdI w A h) {i : Nat} (hi : i < h.length) : ∃ ad, A = some ad ∧ w.cell? (ad.add i) = some (.int .i64 (h.getD i 0)) := by
  obtain ⟨ad, e, hc⟩ := hr.2.2 (by omega)
  obtain ⟨c, hl, hR, hu⟩ := hc i (h.getD i 0) (by rw [List.getD_eq_getElem?_getD]; simp [hi])
  have hR' : c = [.int .i64 (h.getD i 0)] := hR
  subst hR'
  have := hu 0 _ rfl
  rw [show i * (Kd.int .i64).sz + 0 = i from Nat.mul_one i] at this
  exact ⟨ad, e, this⟩
theorem RdI.below {w w1 : World} {A : Option Addr} {h : List Int} (hr : RdI w A h) (hb : Below w.heap.size w w1) : RdI w1 A h := Kd.C_below hr hb

def nok (n : Int) : Bool := decide (0 ≤ n ∧ n ≤ 8192)
def hmay (h : List Int) (nb : Nat) (c : Int) : Bool := h.all nok && decide (h.length = nb + 1) && decide (h.sum = c)
theorem sum_take (h : List Int) {k : Nat} (hk : k < h.length) : (h.take (k + 1)).sum = (h.take k).sum + h.getD k 0 := by
  rw [List.take_succ_eq_append_getElem hk, List.sum_append]
  simp [List.getD_eq_getElem?_getD, hk]
theorem nok_sum {h : List Int} (ha : ∀ x ∈ h, nok x = true) : 0 ≤ h.sum ∧ h.sum ≤ 8192 * h.length := by
  induction h with
  | nil => simp
  | cons x r ih =>
    have h1 := ih (fun y hy => ha y (List.mem_cons_of_mem _ hy))
    have h2 := ha x (List.mem_cons_self ..)
    unfold nok at h2
    rw [decide_eq_true_eq] at h2
    rw [List.sum_cons, List.length_cons]
    omega
theorem mem_take_lt {h : List Int} {k : Nat} (hs : ∀ j, j < k → nok (h.getD j 0) = true) : ∀ x ∈ h.take k, nok x = true := fun x hx => by
  obtain ⟨i, hi, e⟩ := List.mem_iff_getElem.1 hx
  rw [List.length_take] at hi
  rw [List.getElem_take] at e
  have := hs i (by omega)
  rw [List.getD_eq_getElem?_getD, List.getElem?_eq_getElem (by omega), Option.getD_some, e] at this
  exact this
theorem all_nok {h : List Int} (hs : ∀ j, j < h.length → nok (h.getD j 0) = true) : h.all nok = true := by
  rw [List.all_eq_true]
  have := mem_take_lt (h := h) (k := h.length) hs
  rwa [List.take_length] at this
theorem all_nok_no {h : List Int} {j : Nat} (hj : j < h.length) (hs : nok (h.getD j 0) = false) : h.all nok = false := by
  rw [List.all_eq_false]
  refine ⟨h[j], List.getElem_mem hj, ?_⟩
  rw [List.getD_eq_getElem?_getD, List.getElem?_eq_getElem hj, Option.getD_some] at hs
  rw [hs]
  simp

set_option maxHeartbeats 2000000 in
set_option maxRecDepth 100000 in
theorem hist_any (a : S36) (g : Nat) (Ah : Option Addr) (ch : Nat) (A1 : Option Addr) (c1 nb : Nat) (w : World) (h : w.heap[g]? = some (acO a (.slice Ah a.f6.length ch))) (hr : RdI w Ah a.f6) (hl : a.f6.length ≤ 9) (hn : nb ≤ 8) :
    Calls Try.prog 94 #[.pointer (some ⟨g, 0, none⟩), .slice A1 nb c1] w fun e w' => e = .returned (.bool (hmay a.f6 nb a.f0)) ∧ Below w.heap.size w w' := by
  have HH := Lib.hid h
  have HR := Lib.hid hr
  clear h hr
  obtain ⟨a0, a1, a2, a3, a4, a5, a6, a7, a8, a9, a10, a11, a12, al⟩ := acO_facts HH.out
  go_enter Try.func94, Try.ntmps94
  go_wp2_with fail
  go_loopw [5, 13] (fun s i wr => ∃ k : Nat, i = .int .i64 k ∧ s = .int .i64 (a.f6.take k).sum ∧ k ≤ a.f6.length ∧ wr = w ∧ Rel (∀ j, j < k → nok (a.f6.getD j 0) = true)) (fun _ i _ => a.f6.length - (intOf i).toNat)
  case atStart => exact ⟨0, rfl, by simp, by omega, rfl, fun j hj => absurd hj (by omega)⟩
  case round =>
    obtain ⟨k, rfl, rfl, hk, rfl, hx⟩ := hrel
    have HX := Lib.hid hx
    clear hx
    have hs := nok_sum (mem_take_lt HX.out)
    rw [List.length_take] at hs
    obtain ⟨hs1, hs2⟩ := hs
    have HS := Lib.hid (show (a.f6.take k).sum = (a.f6.take k).sum from rfl)
    generalize hse : (a.f6.take k).sum = s at *
    have HSE := Lib.hid hse
    clear hse
    by_cases hlt : k < a.f6.length
    · obtain ⟨ad, rfl, e0⟩ := HR.out.at_ hlt
      have hst := sum_take a.f6 hlt
      generalize hn : a.f6.getD k 0 = n at *
      have HN := Lib.hid hn
      have HST := Lib.hid hst
      clear hn hst
      by_cases h1 : nok n = true
      · have h2 := h1
        unfold nok at h2
        rw [decide_eq_true_eq] at h2
        obtain ⟨h3, h4⟩ := h2
        have H1 := Lib.hid h1
        have hd1 : decide (n < 0) = false := decide_eq_false (by omega)
        have hd2 : decide (8192 < n) = false := decide_eq_false (by omega)
        clear h1
        go_wp2_with fail
        refine ⟨⟨k + 1, by go_num, ?_, by omega, by first | rfl | trivial, fun j hj => ?_⟩, by simp [intOf]; omega⟩
        · rw [HST.out, HSE.out]
        · by_cases hjk : j = k
          · rw [hjk, HN.out]; exact H1.out
          · exact HX.out j (by omega)
      · have h1' := bne_ h1
        have hres : hmay a.f6 nb a.f0 = false := by
          unfold hmay
          rw [all_nok_no hlt (by rw [HN.out]; exact h1')]
          rfl
        have h2 := h1'
        unfold nok at h2
        rw [decide_eq_false_iff_not] at h2
        have HRES := Lib.hid hres
        clear hres h1 h1'
        by_cases h3 : n < 0
        · have hd1 : decide (n < 0) = true := decide_eq_true h3
          go_wp2_with fail
          go_ret
          exact ⟨by rw [HRES.out]; rfl, Below.refl _ _⟩
        · have hd1 : decide (n < 0) = false := decide_eq_false h3
          have hd2 : decide (8192 < n) = true := decide_eq_true (by omega)
          go_wp2_with fail
          go_ret
          exact ⟨by rw [HRES.out]; rfl, Below.refl _ _⟩
    · obtain rfl : k = a.f6.length := by omega
      have hall := all_nok HX.out
      rw [List.take_length] at HSE
      have hres : hmay a.f6 nb a.f0 = (decide (a.f6.length = nb + 1) && decide (s = a.f0)) := by
        unfold hmay
        rw [hall, HSE.out]
        rfl
      have HRES := Lib.hid hres
      clear hall hres
      by_cases h1 : a.f6.length = nb + 1
      · have hd1 : ((a.f6.length : Int) == (nb : Int) + 1) = true := by rw [beq_iff_eq]; omega
        have H1 := Lib.hid h1
        clear h1
        by_cases h2 : s = a.f0
        · have hd2 : (s == a.f0) = true := by rw [beq_iff_eq]; exact h2
          have H2 := Lib.hid h2
          clear h2
          go_wp2_with fail
          go_ret
          refine ⟨?_, Below.refl _ _⟩
          rw [HRES.out, decide_eq_true H1.out, decide_eq_true H2.out]
          rfl
        · have hd2 : (s == a.f0) = false := beq_eq_false_iff_ne.2 h2
          go_wp2_with fail
          go_ret
          refine ⟨?_, Below.refl _ _⟩
          rw [HRES.out, decide_eq_true H1.out, decide_eq_false h2]
          rfl
      · have hd1 : ((a.f6.length : Int) == (nb : Int) + 1) = false := beq_eq_false_iff_ne.2 (by omega)
        go_wp2_with fail
        go_ret
        refine ⟨?_, Below.refl _ _⟩
        rw [HRES.out, decide_eq_false h1]
        rfl

def isz (x : S34) : Bool := x.f0 == 0 && (x.f1 == 0 && (x.f2 == 0 && x.f3 == 0))
def bareB (a : S36) : Bool := a.f1 == 0 && (a.f2 == 0 && (a.f3 == 0 && (isz a.f4 && isz a.f5)))
theorem isz_yes {x : S34} (h : isz x = true) : x = ⟨0, 0, 0, 0⟩ := by
  unfold isz at h
  simp only [Bool.and_eq_true, beq_iff_eq] at h
  obtain ⟨h1, h2, h3, h4⟩ := h
  cases x
  simp_all
theorem bare_no {a : S36} (h : a.f1 ≠ 0 ∨ a.f2 ≠ 0 ∨ a.f3 ≠ 0 ∨ isz a.f4 = false ∨ isz a.f5 = false) : bareB a = false := by
  unfold bareB
  rcases h with h | h | h | h | h
  · rw [beq_eq_false_iff_ne.2 h]; rfl
  · rw [beq_eq_false_iff_ne.2 h]; simp
  · rw [beq_eq_false_iff_ne.2 h]; simp
  · rw [h]; simp
  · rw [h]; simp
theorem isz_no {x : S34} (h : isz x = false) : (x.f0 == 0 && (x.f1 == 0 && (x.f2 == 0 && x.f3 == 0))) = false := h

set_option maxHeartbeats 4000000 in
set_option maxRecDepth 100000 in
theorem bare_any (a : S36) (g : Nat) (v : Value) (w : World) (h : w.heap[g]? = some (acO a v)) :
    Calls Try.prog 95 #[.pointer (some ⟨g, 0, none⟩)] w fun e w' => e = .returned (.bool (bareB a)) ∧ Below w.heap.size w w' := by
  have hz : (w.alloc (.cells #[.int .i64 0, .int .i64 0, .int .i64 0, .int .i64 0] 34)).heap[w.heap.size]? = some (itO ⟨0, 0, 0, 0⟩) := heap_alloc_new w _
  have hb : Below w.heap.size w (w.alloc (.cells #[.int .i64 0, .int .i64 0, .int .i64 0, .int .i64 0] 34)) := (Below.refl w.heap.size w).alloc (Nat.le_refl _) _
  obtain ⟨z0, z1, z2, z3, zl⟩ := itO_facts hz
  obtain ⟨a0, a1, a2, a3, a4, a5, a6, a7, a8, a9, a10, a11, a12, al⟩ := acO_facts (blk_below h hb)
  simp only at z0 z1 z2 z3
  have HB := Lib.hid hb
  clear h hz hb
  go_enter Try.func95, Try.ntmps95
  go_wp2_with fail
  generalize w.alloc (.cells #[.int .i64 0, .int .i64 0, .int .i64 0, .int .i64 0] 34) = w1 at *
  by_cases h1 : a.f1 = 0
  · by_cases h2 : a.f2 = 0
    · by_cases h3 : a.f3 = 0
      · by_cases h4 : isz a.f4 = true
        · by_cases h5 : isz a.f5 = true
          · have hres : bareB a = true := by unfold bareB; rw [h1, h2, h3, h4, h5]; rfl
            have HRES := Lib.hid hres
            have e4 := isz_yes h4
            have e5 := isz_yes h5
            rw [h1] at a1
            rw [h2] at a2
            rw [h3] at a3
            rw [e4] at a4 a5 a6 a7
            rw [e5] at a8 a9 a10 a11
            simp only at a4 a5 a6 a7 a8 a9 a10 a11
            clear e4 e5 h1 h2 h3 h4 h5 hres
            refine Txt.wp_region_text (by kernel_rfl) (by kernel_rfl) ?_
            repeat (first
              | (refine Txt.text_p (by rfl) rfl (fun K hK => ?_); go_big_quiet_op; refine hK _ ?_; clear hK K)
              | (refine Txt.text_r (by rfl) rfl (fun K hK => ?_); go_big_quiet_op; refine hK _ ?_; clear hK K)
              | (refine Txt.text_pass (by rfl) (by rfl) ?_; simp only [List.set_cons_succ, List.set_cons_zero]))
            refine Txt.text_nil ?_
            go_wp2_with fail
            go_ret
            exact ⟨by rw [HRES.out]; rfl, HB.out.drew⟩
          · have h5' := bne_ h5
            have hres := bare_no (a := a) (.inr (.inr (.inr (.inr h5'))))
            have HRES := Lib.hid hres
            have e4 := isz_yes h4
            have e5 := isz_no h5'
            rw [h1] at a1
            rw [h2] at a2
            rw [h3] at a3
            rw [e4] at a4 a5 a6 a7
            simp only at a4 a5 a6 a7
            clear e4 h1 h2 h3 h4 h5 hres h5'
            refine Txt.wp_region_text (by kernel_rfl) (by kernel_rfl) ?_
            repeat (first
              | (refine Txt.text_p (by rfl) rfl (fun K hK => ?_); go_big_quiet_op; refine hK _ ?_; clear hK K)
              | (refine Txt.text_r (by rfl) rfl (fun K hK => ?_); go_big_quiet_op; refine hK _ ?_; clear hK K)
              | (refine Txt.text_pass (by rfl) (by rfl) ?_; simp only [List.set_cons_succ, List.set_cons_zero]))
            refine Txt.text_nil ?_
            go_wp2_with fail
            go_ret
            exact ⟨by rw [HRES.out]; rfl, HB.out.drew⟩
        · have h4' := bne_ h4
          have hres := bare_no (a := a) (.inr (.inr (.inr (.inl h4'))))
          have HRES := Lib.hid hres
          have e4 := isz_no h4'
          rw [h1] at a1
          rw [h2] at a2
          rw [h3] at a3
          clear h1 h2 h3 h4 hres h4'
          refine Txt.wp_region_text (by kernel_rfl) (by kernel_rfl) ?_
          repeat (first
            | (refine Txt.text_p (by rfl) rfl (fun K hK => ?_); go_big_quiet_op; refine hK _ ?_; clear hK K)
            | (refine Txt.text_r (by rfl) rfl (fun K hK => ?_); go_big_quiet_op; refine hK _ ?_; clear hK K)
            | (refine Txt.text_pass (by rfl) (by rfl) ?_; simp only [List.set_cons_succ, List.set_cons_zero]))
          refine Txt.text_nil ?_
          go_wp2_with fail
          go_ret
          exact ⟨by rw [HRES.out]; rfl, HB.out.drew⟩
      · have hres := bare_no (a := a) (.inr (.inr (.inl h3)))
        have HRES := Lib.hid hres
        have e3 : (a.f3 == 0) = false := beq_eq_false_iff_ne.2 h3
        rw [h1] at a1
        rw [h2] at a2
        clear h1 h2 h3 hres
        refine Txt.wp_region_text (by kernel_rfl) (by kernel_rfl) ?_
        repeat (first
          | (refine Txt.text_p (by rfl) rfl (fun K hK => ?_); go_big_quiet_op; refine hK _ ?_; clear hK K)
          | (refine Txt.text_r (by rfl) rfl (fun K hK => ?_); go_big_quiet_op; refine hK _ ?_; clear hK K)
          | (refine Txt.text_pass (by rfl) (by rfl) ?_; simp only [List.set_cons_succ, List.set_cons_zero]))
        refine Txt.text_nil ?_
        go_wp2_with fail
        go_ret
        exact ⟨by rw [HRES.out]; rfl, HB.out.drew⟩
    · have hres := bare_no (a := a) (.inr (.inl h2))
      have HRES := Lib.hid hres
      have e3 : (a.f2 == 0) = false := beq_eq_false_iff_ne.2 h2
      rw [h1] at a1
      clear h1 h2 hres
      refine Txt.wp_region_text (by kernel_rfl) (by kernel_rfl) ?_
      repeat (first
        | (refine Txt.text_p (by rfl) rfl (fun K hK => ?_); go_big_quiet_op; refine hK _ ?_; clear hK K)
        | (refine Txt.text_r (by rfl) rfl (fun K hK => ?_); go_big_quiet_op; refine hK _ ?_; clear hK K)
        | (refine Txt.text_pass (by rfl) (by rfl) ?_; simp only [List.set_cons_succ, List.set_cons_zero]))
      refine Txt.text_nil ?_
      go_wp2_with fail
      go_ret
      exact ⟨by rw [HRES.out]; rfl, HB.out.drew⟩
  · have hres := bare_no (a := a) (.inl h1)
    have HRES := Lib.hid hres
    have e3 : (a.f1 == 0) = false := beq_eq_false_iff_ne.2 h1
    clear h1 hres
    refine Txt.wp_region_text (by kernel_rfl) (by kernel_rfl) ?_
    repeat (first
      | (refine Txt.text_p (by rfl) rfl (fun K hK => ?_); go_big_quiet_op; refine hK _ ?_; clear hK K)
      | (refine Txt.text_r (by rfl) rfl (fun K hK => ?_); go_big_quiet_op; refine hK _ ?_; clear hK K)
      | (refine Txt.text_pass (by rfl) (by rfl) ?_; simp only [List.set_cons_succ, List.set_cons_zero]))
    refine Txt.text_nil ?_
    go_wp2_with fail
    go_ret
    exact ⟨by rw [HRES.out]; rfl, HB.out.drew⟩
end Go.Proofs.Ytfgabafbcephaaa.My

namespace Go.Proofs.Ytfgabafbcephaaa.My
open Go.RowKit Pa Go.Proofs.YtfgabafbcephaaaW.PrintWords
attribute [local go_sem high] eqA34

def iok (a : S36) (x : S34) : Bool := imay x && (decide (a.f2 ≤ x.f3) && decide (x.f3 ≤ a.f3))
def emay (a : S36) : Bool := iok a a.f4 && (iok a a.f5 && (decide (a.f4.f0 = a.f5.f0) && decide (ord a.f4 a.f5 ≤ 0)))
def pairO (x y : S34) : Obj := .cells #[.int .i64 x.f0, .int .i64 x.f1, .int .i64 x.f2, .int .i64 x.f3, .int .i64 y.f0, .int .i64 y.f1, .int .i64 y.f2, .int .i64 y.f3] 34
def pick2 (x y : S34) (k : Nat) : S34 := if k = 0 then x else y
theorem pair_facts {w : World} {b : Nat} {x y : S34} (h : w.heap[b]? = some (pairO x y)) {k : Nat} (hk : k < 2) : w.cell? ⟨b, k * 4, none⟩ = some (.int .i64 (pick2 x y k).f0) ∧ w.cell? ⟨b, k * 4 + 1, none⟩ = some (.int .i64 (pick2 x y k).f1) ∧ w.cell? ⟨b, k * 4 + 2, none⟩ = some (.int .i64 (pick2 x y k).f2) ∧ w.cell? ⟨b, k * 4 + 3, none⟩ = some (.int .i64 (pick2 x y k).f3) ∧ b < w.heap.size := by
  rcases (by omega : k = 0 ∨ k = 1) with rfl | rfl
  · exact ⟨(blk_cell h 0).trans rfl, (blk_cell h 1).trans rfl, (blk_cell h 2).trans rfl, (blk_cell h 3).trans rfl, blk_lt h⟩
  · exact ⟨(blk_cell h 4).trans rfl, (blk_cell h 5).trans rfl, (blk_cell h 6).trans rfl, (blk_cell h 7).trans rfl, blk_lt h⟩
theorem emay_no {a : S36} {k : Nat} (h : iok a (pick2 a.f4 a.f5 k) = false) : emay a = false := by
  unfold emay
  unfold pick2 at h
  split at h
  · rw [h]; rfl
  · rw [h]; simp

set_option maxHeartbeats 4000000 in
set_option maxRecDepth 100000 in
theorem ends_any (a : S36) (g : Nat) (v : Value) (w : World) (h : w.heap[g]? = some (acO a v)) :
    Calls Try.prog 96 #[.pointer (some ⟨g, 0, none⟩)] w fun e w' => e = .returned (.bool (emay a)) ∧ Below w.heap.size w w' := by
  obtain ⟨a0, a1, a2, a3, a4, a5, a6, a7, a8, a9, a10, a11, a12, al⟩ := acO_facts h
  have HH := Lib.hid h
  clear h
  go_enter Try.func96, Try.ntmps96
  go_wp2_with fail
  refine Txt.wp_region_text (by kernel_rfl) (by kernel_rfl) ?_
  repeat (first
    | (refine Txt.text_p (by rfl) rfl (fun K hK => ?_); go_big_quiet_op; refine hK _ ?_; clear hK K)
    | (refine Txt.text_r (by rfl) rfl (fun K hK => ?_); go_big_quiet_op; refine hK _ ?_; clear hK K)
    | (refine Txt.text_pass (by rfl) (by rfl) ?_; simp only [List.set_cons_succ, List.set_cons_zero]))
  refine Txt.text_a (by rfl) rfl (fun K hK => ?_)
  go_wp2_with fail
  have hal : Below w.heap.size w (w.drew.alloc (pairO a.f4 a.f5)) := (Below.refl w.heap.size w).drew.alloc (Nat.le_refl _) _
  have hp : (w.drew.alloc (pairO a.f4 a.f5)).heap[w.heap.size]? = some (pairO a.f4 a.f5) := heap_alloc_new w.drew _
  repeat (first
    | (refine Txt.text_p (by rfl) rfl (fun K hK => ?_); go_big_quiet_op; refine hK _ ?_; clear hK K)
    | (refine Txt.text_r (by rfl) rfl (fun K hK => ?_); go_big_quiet_op; refine hK _ ?_; clear hK K)
    | (refine Txt.text_pass (by rfl) (by rfl) ?_; simp only [List.set_cons_succ, List.set_cons_zero]))
  refine Txt.text_nil ?_
  show Exit.then _ _ _ _ (w.drew.alloc (pairO a.f4 a.f5))
  clear a0 a1 a2 a3 a4 a5 a6 a7 a8 a9 a10 a11 a12 al
  have HH1 := Lib.hid (blk_below HH.out hal)
  have HP := Lib.hid hp
  have HB := Lib.hid hal
  clear hp hal HH
  generalize w.drew.alloc (pairO a.f4 a.f5) = w1 at *
  go_wp2_with fail
  go_loopw [15] (fun i wr => ∃ k : Nat, i = .int .i64 k ∧ k ≤ 2 ∧ Below w.heap.size w wr ∧ wr.heap[w.heap.size]? = some (pairO a.f4 a.f5) ∧ wr.heap[g]? = some (acO a v) ∧ Rel (∀ j, j < k → iok a (pick2 a.f4 a.f5 j) = true)) (fun i _ => 2 - (intOf i).toNat)
  case atStart => exact ⟨0, rfl, by omega, HB.out, HP.out, HH1.out, fun j hj => absurd hj (by omega)⟩
  case round =>
    obtain ⟨k, rfl, hk, hb, hp, hg, hx⟩ := hrel
    have HX := Lib.hid hx
    have HB2 := Lib.hid hb
    have HP2 := Lib.hid hp
    have HG2 := Lib.hid hg
    clear hx hb hp hg HB HP HH1
    by_cases hlt : k < 2
    · obtain ⟨p0, p1, p2, p3, pl⟩ := pair_facts HP2.out hlt
      have hno := emay_no (a := a) (k := k)
      have hup : iok a (pick2 a.f4 a.f5 k) = true → ∀ j, j < k + 1 → iok a (pick2 a.f4 a.f5 j) = true := fun h j hj => by
        by_cases e : j = k
        · rw [e]; exact h
        · exact HX.out j (by omega)
      generalize pick2 a.f4 a.f5 k = x at *
      have HNO := Lib.hid hno
      have HUP := Lib.hid hup
      clear hno hup
      have hal : Below wr.heap.size wr (wr.alloc (itO x)) := (Below.refl wr.heap.size wr).alloc (Nat.le_refl _) _
      have hxv : (wr.alloc (itO x)).heap[wr.heap.size]? = some (itO x) := heap_alloc_new wr _
      have hg2 := blk_below HG2.out hal
      have hp2 := blk_below HP2.out hal
      obtain ⟨x0, x1, x2, x3, xl⟩ := itO_facts hxv
      obtain ⟨a0, a1, a2, a3, a4, a5, a6, a7, a8, a9, a10, a11, a12, al⟩ := acO_facts hg2
      have HB3 := Lib.hid (HB2.out.trans (hal.mono HB2.out.size))
      have HXV := Lib.hid hxv
      have HG3 := Lib.hid hg2
      have HP3 := Lib.hid hp2
      clear hal hxv hg2 hp2 HB2 HG2 HP2
      unfold itO at x0 x1 x2 x3 xl a0 a1 a2 a3 a4 a5 a6 a7 a8 a9 a10 a11 a12 al
      go_wp2_with fail
      show Code.wp _ _ _ _ (wr.alloc (itO x))
      clear x0 x1 x2 x3 xl a0 a1 a2 a3 a4 a5 a6 a7 a8 a9 a10 a11 a12 al p0 p1 p2 p3 pl
      generalize wr.alloc (itO x) = wa at *
      generalize wr.heap.size = xb at *
      obtain ⟨x0, x1, x2, x3, xl⟩ := itO_facts HXV.out
      obtain ⟨a0, a1, a2, a3, a4, a5, a6, a7, a8, a9, a10, a11, a12, al⟩ := acO_facts HG3.out
      refine Txt.wp_region_text (by kernel_rfl) (by kernel_rfl) ?_
      repeat (first
        | (refine Txt.text_p (by rfl) rfl (fun K hK => ?_); go_big_quiet_op; refine hK _ ?_; clear hK K)
        | (refine Txt.text_r (by rfl) rfl (fun K hK => ?_); go_big_quiet_op; refine hK _ ?_; clear hK K)
        | (refine Txt.text_pass (by rfl) (by rfl) ?_; simp only [List.set_cons_succ, List.set_cons_zero]))
      refine Txt.text_a (by rfl) rfl (fun K hK => ?_)
      go_wp2_with fail
      refine (im_any x _).mono ?_
      rintro e w3 ⟨rfl, hb⟩
      have hb2 := Txt.Bw.undrew hb
      have hx3 := blk_below HXV.out hb2
      have hg3 := blk_below HG3.out hb2
      have HP4 := Lib.hid (blk_below HP3.out hb2)
      have HB4 := Lib.hid (HB3.out.trans (hb2.mono HB3.out.size))
      have HG4 := Lib.hid hg3
      clear x0 x1 x2 x3 xl a0 a1 a2 a3 a4 a5 a6 a7 a8 a9 a10 a11 a12 al
      obtain ⟨x0, x1, x2, x3, xl⟩ := itO_facts hx3
      obtain ⟨a0, a1, a2, a3, a4, a5, a6, a7, a8, a9, a10, a11, a12, al⟩ := acO_facts hg3
      clear hb hb2 hx3 hg3 HXV HG3 HP3 HB3
      by_cases h1 : imay x = true
      · by_cases h2 : a.f2 ≤ x.f3
        · by_cases h3 : x.f3 ≤ a.f3
          · have hok : iok a x = true := by unfold iok; rw [h1, decide_eq_true h2, decide_eq_true h3]; rfl
            have HOK := Lib.hid (HUP.out hok)
            have hd1 : decide (x.f3 < a.f2) = false := decide_eq_false (by omega)
            have hd2 : decide (a.f3 < x.f3) = false := decide_eq_false (by omega)
            rw [h1]
            clear hok h1 h2 h3
            go_wp2_with fail
            repeat (first
              | (refine Txt.text_p (by rfl) rfl (fun K hK => ?_); go_big_quiet_op; refine hK _ ?_; clear hK K)
              | (refine Txt.text_r (by rfl) rfl (fun K hK => ?_); go_big_quiet_op; refine hK _ ?_; clear hK K)
              | (refine Txt.text_pass (by rfl) (by rfl) ?_; simp only [List.set_cons_succ, List.set_cons_zero]))
            refine Txt.text_nil ?_
            go_wp2_with fail
            exact ⟨⟨k + 1, by go_num, by omega, HB4.out, HP4.out, HG4.out, HOK.out⟩, by simp [intOf]; omega⟩
          · have hok : iok a x = false := by unfold iok; rw [h1, decide_eq_true h2, decide_eq_false h3]; rfl
            have HRES := Lib.hid (HNO.out hok)
            have hd1 : decide (x.f3 < a.f2) = false := decide_eq_false (by omega)
            have hd2 : decide (a.f3 < x.f3) = true := decide_eq_true (by omega)
            rw [h1]
            clear hok h1 h2 h3
            go_wp2_with fail
            repeat (first
              | (refine Txt.text_p (by rfl) rfl (fun K hK => ?_); go_big_quiet_op; refine hK _ ?_; clear hK K)
              | (refine Txt.text_r (by rfl) rfl (fun K hK => ?_); go_big_quiet_op; refine hK _ ?_; clear hK K)
              | (refine Txt.text_pass (by rfl) (by rfl) ?_; simp only [List.set_cons_succ, List.set_cons_zero]))
            refine Txt.text_nil ?_
            go_wp2_with fail
            go_ret
            exact ⟨by rw [HRES.out]; rfl, HB4.out⟩
        · have hok : iok a x = false := by unfold iok; rw [h1, decide_eq_false h2]; rfl
          have HRES := Lib.hid (HNO.out hok)
          have hd1 : decide (x.f3 < a.f2) = true := decide_eq_true (by omega)
          rw [h1]
          clear hok h1 h2
          go_wp2_with fail
          repeat (first
            | (refine Txt.text_p (by rfl) rfl (fun K hK => ?_); go_big_quiet_op; refine hK _ ?_; clear hK K)
            | (refine Txt.text_r (by rfl) rfl (fun K hK => ?_); go_big_quiet_op; refine hK _ ?_; clear hK K)
            | (refine Txt.text_pass (by rfl) (by rfl) ?_; simp only [List.set_cons_succ, List.set_cons_zero]))
          refine Txt.text_nil ?_
          go_wp2_with fail
          go_ret
          exact ⟨by rw [HRES.out]; rfl, HB4.out⟩
      · have h1' := bne_ h1
        have hok : iok a x = false := by unfold iok; rw [h1']; rfl
        have HRES := Lib.hid (HNO.out hok)
        rw [h1']
        clear hok h1 h1'
        go_wp2_with fail
        repeat (first
          | (refine Txt.text_p (by rfl) rfl (fun K hK => ?_); go_big_quiet_op; refine hK _ ?_; clear hK K)
          | (refine Txt.text_r (by rfl) rfl (fun K hK => ?_); go_big_quiet_op; refine hK _ ?_; clear hK K)
          | (refine Txt.text_pass (by rfl) (by rfl) ?_; simp only [List.set_cons_succ, List.set_cons_zero]))
        refine Txt.text_nil ?_
        go_wp2_with fail
        go_ret
        exact ⟨by rw [HRES.out]; rfl, HB4.out⟩
    · obtain rfl : k = 2 := by omega
      have hf := HX.out 0 (by omega)
      have hl := HX.out 1 (by omega)
      unfold pick2 at hf hl
      rw [if_pos rfl] at hf
      rw [if_neg (by omega)] at hl
      have HFL := Lib.hid (And.intro hf hl)
      clear hf hl
      obtain ⟨a0, a1, a2, a3, a4, a5, a6, a7, a8, a9, a10, a11, a12, al⟩ := acO_facts HG2.out
      have HB5 := Lib.hid HB2.out.drew
      by_cases h1 : a.f4.f0 = a.f5.f0
      · have hd1 : (a.f4.f0 == a.f5.f0) = true := by rw [beq_iff_eq]; exact h1
        have H1 := Lib.hid h1
        clear h1
        go_wp2_with fail
        refine Txt.wp_region_text (by kernel_rfl) (by kernel_rfl) ?_
        repeat (first
          | (refine Txt.text_p (by rfl) rfl (fun K hK => ?_); go_big_quiet_op; refine hK _ ?_; clear hK K)
          | (refine Txt.text_r (by rfl) rfl (fun K hK => ?_); go_big_quiet_op; refine hK _ ?_; clear hK K)
          | (refine Txt.text_pass (by rfl) (by rfl) ?_; simp only [List.set_cons_succ, List.set_cons_zero]))
        refine Txt.text_a (by rfl) rfl (fun K hK => ?_)
        go_wp2_with fail
        refine (ord_any a.f4 a.f5 _).mono ?_
        rintro e w3 ⟨rfl, hb⟩
        have HB6 := Lib.hid (HB2.out.trans ((Txt.Bw.undrew hb).mono HB2.out.size))
        clear hb
        by_cases h2 : ord a.f4 a.f5 ≤ 0
        · have hres : emay a = true := by unfold emay; rw [HFL.out.1, HFL.out.2, decide_eq_true H1.out, decide_eq_true h2]; rfl
          have HRES := Lib.hid hres
          have hd2 : decide (ord a.f4 a.f5 ≤ 0) = true := decide_eq_true h2
          clear hres h2
          generalize ord a.f4 a.f5 = o at *
          go_wp2_with fail
          repeat (first
            | (refine Txt.text_p (by rfl) rfl (fun K hK => ?_); go_big_quiet_op; refine hK _ ?_; clear hK K)
            | (refine Txt.text_r (by rfl) rfl (fun K hK => ?_); go_big_quiet_op; refine hK _ ?_; clear hK K)
            | (refine Txt.text_pass (by rfl) (by rfl) ?_; simp only [List.set_cons_succ, List.set_cons_zero]))
          refine Txt.text_nil ?_
          go_wp2_with fail
          go_ret
          exact ⟨by rw [HRES.out]; rfl, HB6.out⟩
        · have hres : emay a = false := by unfold emay; rw [HFL.out.1, HFL.out.2, decide_eq_true H1.out, decide_eq_false h2]; rfl
          have HRES := Lib.hid hres
          have hd2 : decide (ord a.f4 a.f5 ≤ 0) = false := decide_eq_false h2
          clear hres h2
          generalize ord a.f4 a.f5 = o at *
          go_wp2_with fail
          repeat (first
            | (refine Txt.text_p (by rfl) rfl (fun K hK => ?_); go_big_quiet_op; refine hK _ ?_; clear hK K)
            | (refine Txt.text_r (by rfl) rfl (fun K hK => ?_); go_big_quiet_op; refine hK _ ?_; clear hK K)
            | (refine Txt.text_pass (by rfl) (by rfl) ?_; simp only [List.set_cons_succ, List.set_cons_zero]))
          refine Txt.text_nil ?_
          go_wp2_with fail
          go_ret
          exact ⟨by rw [HRES.out]; rfl, HB6.out⟩
      · have hd1 : (a.f4.f0 == a.f5.f0) = false := beq_eq_false_iff_ne.2 h1
        have hres : emay a = false := by unfold emay; rw [HFL.out.1, HFL.out.2, decide_eq_false h1]; rfl
        have HRES := Lib.hid hres
        clear hres h1
        go_wp2_with fail
        refine Txt.wp_region_text (by kernel_rfl) (by kernel_rfl) ?_
        repeat (first
          | (refine Txt.text_p (by rfl) rfl (fun K hK => ?_); go_big_quiet_op; refine hK _ ?_; clear hK K)
          | (refine Txt.text_r (by rfl) rfl (fun K hK => ?_); go_big_quiet_op; refine hK _ ?_; clear hK K)
          | (refine Txt.text_pass (by rfl) (by rfl) ?_; simp only [List.set_cons_succ, List.set_cons_zero]))
        refine Txt.text_nil ?_
        go_wp2_with fail
        go_ret
        exact ⟨by rw [HRES.out]; rfl, HB5.out⟩
end Go.Proofs.Ytfgabafbcephaaa.My

namespace Go.Proofs.Ytfgabafbcephaaa.My
open Go.RowKit Pa Go.Proofs.YtfgabafbcephaaaW.PrintWords
attribute [local go_sem high] eqA34

def amay (a : S36) (bs : List Int) : Bool := bmay bs && (decide (a.f6.length ≤ bs.length + 1) && (hmay a.f6 bs.length a.f0 && (decide (0 ≤ a.f0) && (decide (a.f0 ≤ 8192) && (if a.f0 = 0 then bareB a else wm a.f2 && (wm a.f3 && (decide (a.f2 ≤ a.f3) && (emay a && (decide (a.f0 * a.f2 ≤ a.f1) && decide (a.f1 ≤ a.f0 * a.f3))))))))))
theorem mul_bound {c m : Int} (h1 : 0 ≤ c) (h2 : c ≤ 8192) (h3 : -1099511627776 ≤ m) (h4 : m ≤ 1099511627776) : -9007199254740992 ≤ c * m ∧ c * m ≤ 9007199254740992 := by
  have e1 := Int.mul_le_mul_of_nonneg_left h4 h1
  have e2 := Int.mul_le_mul_of_nonneg_left h3 h1
  omega
theorem wm_iff {x : Int} (h : wm x = true) : -1099511627776 ≤ x ∧ x ≤ 1099511627776 := by
  unfold wm at h
  rwa [decide_eq_true_eq] at h

set_option maxHeartbeats 8000000 in
set_option maxRecDepth 100000 in
theorem may_any (a : S36) (bs : List Int) (Ah : Option Addr) (ch : Nat) (A1 : Option Addr) (c1 : Nat) (w : World) (hh : RdI w Ah a.f6) (hr : RdI w A1 bs) (hc : bs.length ≤ c1) :
    Calls Try.prog 92 #[acV a (.slice Ah a.f6.length ch), .slice A1 bs.length c1] w fun e w' => e = .returned (.bool (amay a bs)) ∧ Below w.heap.size w w' := by
  have HA := Lib.hid hh
  have HR := Lib.hid hr
  have HC := Lib.hid hc
  have hB : Below w.heap.size w (w.alloc (acO a (.slice Ah a.f6.length ch))) := (Below.refl w.heap.size w).alloc (Nat.le_refl _) _
  have hg : (w.alloc (acO a (.slice Ah a.f6.length ch))).heap[w.heap.size]? = some (acO a (.slice Ah a.f6.length ch)) := heap_alloc_new w _
  have HB := Lib.hid hB
  have HG := Lib.hid hg
  clear hh hr hc hB hg
  unfold acV
  go_enter Try.func92, Try.ntmps92
  go_wp2_with fail
  show Calls _ _ _ (w.alloc (acO a (.slice Ah a.f6.length ch))) _
  generalize w.alloc (acO a (.slice Ah a.f6.length ch)) = w1 at *
  obtain ⟨a0, a1, a2, a3, a4, a5, a6, a7, a8, a9, a10, a11, a12, al⟩ := acO_facts HG.out
  refine (bm_any bs A1 c1 _ (Kd.C_below HR.out HB.out) HC.out).mono ?_
  rintro e w2 ⟨rfl, hb⟩
  replace HG := Lib.hid (blk_below HG.out hb)
  replace HB := Lib.hid (HB.out.trans (hb.mono HB.out.size))
  clear hb a0 a1 a2 a3 a4 a5 a6 a7 a8 a9 a10 a11 a12 al
  obtain ⟨a0, a1, a2, a3, a4, a5, a6, a7, a8, a9, a10, a11, a12, al⟩ := acO_facts HG.out
  by_cases hbm : bmay bs = true
  · have hb8 := bmay_len hbm
    have HBM := Lib.hid hbm
    rw [hbm]
    clear hbm
    by_cases hl : a.f6.length ≤ bs.length + 1
    · have HL := Lib.hid hl
      have hdl : decide ((bs.length : Int) + 1 < a.f6.length) = false := decide_eq_false (by omega)
      clear hl
      go_wp2_with fail
      refine (hist_any a w.heap.size Ah ch A1 c1 bs.length _ HG.out (Kd.C_below HA.out HB.out) (by have := HL.out; omega) hb8).mono ?_
      rintro e w3 ⟨rfl, hb⟩
      replace HG := Lib.hid (blk_below HG.out hb)
      replace HB := Lib.hid (HB.out.trans (hb.mono HB.out.size))
      clear hb a0 a1 a2 a3 a4 a5 a6 a7 a8 a9 a10 a11 a12 al
      obtain ⟨a0, a1, a2, a3, a4, a5, a6, a7, a8, a9, a10, a11, a12, al⟩ := acO_facts HG.out
      by_cases hm : hmay a.f6 bs.length a.f0 = true
      · have HHM := Lib.hid hm
        rw [hm]
        clear hm
        by_cases h0 : 0 ≤ a.f0
        · have hdc : decide (a.f0 < 0) = false := decide_eq_false (by omega)
          by_cases h9 : a.f0 ≤ 8192
          · have H0 := Lib.hid (And.intro h0 h9)
            have hdd : decide (8192 < a.f0) = false := decide_eq_false (by omega)
            clear h0 h9
            by_cases hz : a.f0 = 0
            · have hres : amay a bs = bareB a := by unfold amay; rw [HBM.out, decide_eq_true HL.out, HHM.out, decide_eq_true H0.out.1, decide_eq_true H0.out.2, if_pos hz]; rfl
              have HRES := Lib.hid hres
              clear hres
              have hzb : (a.f0 == 0) = true := by rw [beq_iff_eq]; exact hz
              clear hz
              go_wp2_with fail
              refine (bare_any a w.heap.size (.slice Ah a.f6.length ch) _ HG.out).mono ?_
              rintro e w4 ⟨rfl, hb⟩
              replace HG := Lib.hid (blk_below HG.out hb)
              replace HB := Lib.hid (HB.out.trans (hb.mono HB.out.size))
              clear hb a0 a1 a2 a3 a4 a5 a6 a7 a8 a9 a10 a11 a12 al
              obtain ⟨a0, a1, a2, a3, a4, a5, a6, a7, a8, a9, a10, a11, a12, al⟩ := acO_facts HG.out
              go_wp2_with fail
              go_ret
              exact ⟨by rw [HRES.out]; rfl, HB.out⟩
            · have HZ := Lib.hid hz
              have hzb : (a.f0 == 0) = false := beq_eq_false_iff_ne.2 hz
              clear hz
              go_wp2_with fail
              refine (wm_any a.f2 _).mono ?_
              rintro e w4 ⟨rfl, hb⟩
              replace HG := Lib.hid (blk_below HG.out hb)
              replace HB := Lib.hid (HB.out.trans (hb.mono HB.out.size))
              clear hb a0 a1 a2 a3 a4 a5 a6 a7 a8 a9 a10 a11 a12 al
              obtain ⟨a0, a1, a2, a3, a4, a5, a6, a7, a8, a9, a10, a11, a12, al⟩ := acO_facts HG.out
              by_cases hw2 : wm a.f2 = true
              · have HW1 := Lib.hid hw2
                rw [hw2]
                clear hw2
                go_wp2_with fail
                refine (wm_any a.f3 _).mono ?_
                rintro e w5 ⟨rfl, hb⟩
                replace HG := Lib.hid (blk_below HG.out hb)
                replace HB := Lib.hid (HB.out.trans (hb.mono HB.out.size))
                clear hb a0 a1 a2 a3 a4 a5 a6 a7 a8 a9 a10 a11 a12 al
                obtain ⟨a0, a1, a2, a3, a4, a5, a6, a7, a8, a9, a10, a11, a12, al⟩ := acO_facts HG.out
                by_cases hw3 : wm a.f3 = true
                · have HW2 := Lib.hid (And.intro HW1.out hw3)
                  have HW := Lib.hid (And.intro (wm_iff HW1.out) (wm_iff hw3))
                  rw [hw3]
                  clear hw3
                  by_cases ho : a.f2 ≤ a.f3
                  · have HO := Lib.hid ho
                    have hd1 : decide (a.f2 ≤ a.f3) = true := decide_eq_true ho
                    clear ho
                    go_wp2_with fail
                    refine (ends_any a w.heap.size (.slice Ah a.f6.length ch) _ HG.out).mono ?_
                    rintro e w6 ⟨rfl, hb⟩
                    replace HG := Lib.hid (blk_below HG.out hb)
                    replace HB := Lib.hid (HB.out.trans (hb.mono HB.out.size))
                    clear hb a0 a1 a2 a3 a4 a5 a6 a7 a8 a9 a10 a11 a12 al
                    obtain ⟨a0, a1, a2, a3, a4, a5, a6, a7, a8, a9, a10, a11, a12, al⟩ := acO_facts HG.out
                    by_cases he : emay a = true
                    · rw [he]
                      have HE := Lib.hid he
                      clear he
                      obtain ⟨m1, m2⟩ := mul_bound H0.out.1 H0.out.2 HW.out.1.1 HW.out.1.2
                      obtain ⟨m3, m4⟩ := mul_bound H0.out.1 H0.out.2 HW.out.2.1 HW.out.2.2
                      have hv1 : wrap64 (a.f0 * a.f2) = a.f0 * a.f2 := by unfold wrap64; omega
                      have hv2 : wrap64 (a.f0 * a.f3) = a.f0 * a.f3 := by unfold wrap64; omega
                      have hv3 : IntKind.i64.wrap (a.f0 * a.f2) = a.f0 * a.f2 := by rw [IntKind.wrap_i64]; omega
                      have hv4 : IntKind.i64.wrap (a.f0 * a.f3) = a.f0 * a.f3 := by rw [IntKind.wrap_i64]; omega
                      by_cases hs1 : a.f0 * a.f2 ≤ a.f1
                      · by_cases hs2 : a.f1 ≤ a.f0 * a.f3
                        · have hres : amay a bs = true := by unfold amay; rw [HBM.out, decide_eq_true HL.out, HHM.out, decide_eq_true H0.out.1, decide_eq_true H0.out.2, if_neg HZ.out, HW2.out.1, HW2.out.2, decide_eq_true HO.out, HE.out, decide_eq_true hs1, decide_eq_true hs2]; rfl
                          have HRES := Lib.hid hres
                          clear hres
                          have hd2 : decide (a.f0 * a.f2 ≤ a.f1) = true := decide_eq_true hs1
                          have hd3 : decide (a.f1 ≤ a.f0 * a.f3) = true := decide_eq_true hs2
                          clear hs1 hs2
                          go_wp2_with fail
                          go_ret
                          exact ⟨by rw [HRES.out]; rfl, HB.out⟩
                        · have hres : amay a bs = false := by unfold amay; rw [HBM.out, decide_eq_true HL.out, HHM.out, decide_eq_true H0.out.1, decide_eq_true H0.out.2, if_neg HZ.out, HW2.out.1, HW2.out.2, decide_eq_true HO.out, HE.out, decide_eq_true hs1, decide_eq_false hs2]; rfl
                          have HRES := Lib.hid hres
                          clear hres
                          have hd2 : decide (a.f0 * a.f2 ≤ a.f1) = true := decide_eq_true hs1
                          have hd3 : decide (a.f1 ≤ a.f0 * a.f3) = false := decide_eq_false hs2
                          clear hs1 hs2
                          go_wp2_with fail
                          go_ret
                          exact ⟨by rw [HRES.out]; rfl, HB.out⟩
                      · have hres : amay a bs = false := by unfold amay; rw [HBM.out, decide_eq_true HL.out, HHM.out, decide_eq_true H0.out.1, decide_eq_true H0.out.2, if_neg HZ.out, HW2.out.1, HW2.out.2, decide_eq_true HO.out, HE.out, decide_eq_false hs1]; rfl
                        have HRES := Lib.hid hres
                        clear hres
                        have hd2 : decide (a.f0 * a.f2 ≤ a.f1) = false := decide_eq_false hs1
                        clear hs1
                        go_wp2_with fail
                        go_ret
                        exact ⟨by rw [HRES.out]; rfl, HB.out⟩
                    · have he' := bne_ he
                      rw [he']
                      have hres : amay a bs = false := by unfold amay; rw [HBM.out, decide_eq_true HL.out, HHM.out, decide_eq_true H0.out.1, decide_eq_true H0.out.2, if_neg HZ.out, HW2.out.1, HW2.out.2, decide_eq_true HO.out, he']; rfl
                      have HRES := Lib.hid hres
                      clear hres
                      clear he he'
                      go_wp2_with fail
                      go_ret
                      exact ⟨by rw [HRES.out]; rfl, HB.out⟩
                  · have hres : amay a bs = false := by unfold amay; rw [HBM.out, decide_eq_true HL.out, HHM.out, decide_eq_true H0.out.1, decide_eq_true H0.out.2, if_neg HZ.out, HW2.out.1, HW2.out.2, decide_eq_false ho]; rfl
                    have HRES := Lib.hid hres
                    clear hres
                    have hd1 : decide (a.f2 ≤ a.f3) = false := decide_eq_false ho
                    clear ho
                    go_wp2_with fail
                    go_ret
                    exact ⟨by rw [HRES.out]; rfl, HB.out⟩
                · have hw3' := bne_ hw3
                  rw [hw3']
                  have hres : amay a bs = false := by unfold amay; rw [HBM.out, decide_eq_true HL.out, HHM.out, decide_eq_true H0.out.1, decide_eq_true H0.out.2, if_neg HZ.out, HW1.out, hw3']; rfl
                  have HRES := Lib.hid hres
                  clear hres
                  clear hw3 hw3'
                  go_wp2_with fail
                  go_ret
                  exact ⟨by rw [HRES.out]; rfl, HB.out⟩
              · have hw2' := bne_ hw2
                rw [hw2']
                have hres : amay a bs = false := by unfold amay; rw [HBM.out, decide_eq_true HL.out, HHM.out, decide_eq_true H0.out.1, decide_eq_true H0.out.2, if_neg HZ.out, hw2']; rfl
                have HRES := Lib.hid hres
                clear hres
                clear hw2 hw2'
                go_wp2_with fail
                go_ret
                exact ⟨by rw [HRES.out]; rfl, HB.out⟩
          · have hres : amay a bs = false := by unfold amay; rw [HBM.out, decide_eq_true HL.out, HHM.out, decide_eq_true h0, decide_eq_false h9]; rfl
            have HRES := Lib.hid hres
            clear hres
            have hdd : decide (8192 < a.f0) = true := decide_eq_true (by omega)
            clear h0 h9
            go_wp2_with fail
            go_ret
            exact ⟨by rw [HRES.out]; rfl, HB.out⟩
        · have hres : amay a bs = false := by unfold amay; rw [HBM.out, decide_eq_true HL.out, HHM.out, decide_eq_false h0]; rfl
          have HRES := Lib.hid hres
          clear hres
          have hdc : decide (a.f0 < 0) = true := decide_eq_true (by omega)
          clear h0
          go_wp2_with fail
          go_ret
          exact ⟨by rw [HRES.out]; rfl, HB.out⟩
      · have hm' := bne_ hm
        rw [hm']
        have hres : amay a bs = false := by unfold amay; rw [HBM.out, decide_eq_true HL.out, hm']; rfl
        have HRES := Lib.hid hres
        clear hres
        clear hm hm'
        go_wp2_with fail
        go_ret
        exact ⟨by rw [HRES.out]; rfl, HB.out⟩
    · have hres : amay a bs = false := by unfold amay; rw [HBM.out, decide_eq_false hl]; rfl
      have HRES := Lib.hid hres
      clear hres
      have hdl : decide ((bs.length : Int) + 1 < a.f6.length) = true := decide_eq_true (by omega)
      clear hl
      go_wp2_with fail
      go_ret
      exact ⟨by rw [HRES.out]; rfl, HB.out⟩
  · have hbm' := bne_ hbm
    rw [hbm']
    have hres : amay a bs = false := by unfold amay; rw [hbm']; rfl
    have HRES := Lib.hid hres
    clear hres
    clear hbm hbm'
    go_wp2_with fail
    go_ret
    exact ⟨by rw [HRES.out]; rfl, HB.out⟩
end Go.Proofs.Ytfgabafbcephaaa.My

namespace Go.Proofs.Ytfgabafbcephaaa.My
open Go.RowKit Pa Go.Proofs.YtfgabafbcephaaaW.PrintWords
attribute [local go_sem high] eqA34

def AccAt (w : World) (b p : Nat) (x : S36) : Prop := ∃ (Ah : Option Addr) (ch : Nat), w.cell? ⟨b, p, none⟩ = some (.int .i64 x.f0) ∧ w.cell? ⟨b, p + 1, none⟩ = some (.int .i64 x.f1) ∧ w.cell? ⟨b, p + 2, none⟩ = some (.int .i64 x.f2) ∧ w.cell? ⟨b, p + 3, none⟩ = some (.int .i64 x.f3) ∧ w.cell? ⟨b, p + 4, none⟩ = some (.int .i64 x.f4.f0) ∧ w.cell? ⟨b, p + 5, none⟩ = some (.int .i64 x.f4.f1) ∧ w.cell? ⟨b, p + 6, none⟩ = some (.int .i64 x.f4.f2) ∧ w.cell? ⟨b, p + 7, none⟩ = some (.int .i64 x.f4.f3) ∧ w.cell? ⟨b, p + 8, none⟩ = some (.int .i64 x.f5.f0) ∧ w.cell? ⟨b, p + 9, none⟩ = some (.int .i64 x.f5.f1) ∧ w.cell? ⟨b, p + 10, none⟩ = some (.int .i64 x.f5.f2) ∧ w.cell? ⟨b, p + 11, none⟩ = some (.int .i64 x.f5.f3) ∧ w.cell? ⟨b, p + 12, none⟩ = some (.slice Ah x.f6.length ch) ∧ x.f6.length ≤ ch ∧ RdI w Ah x.f6
theorem AccAt.below {w w1 : World} {b p : Nat} {x : S36} (h : AccAt w b p x) (hb : Below w.heap.size w w1) : AccAt w1 b p x := by
  obtain ⟨Ah, ch, h0, h1, h2, h3, h4, h5, h6, h7, h8, h9, h10, h11, h12, hl, hr⟩ := h
  exact ⟨Ah, ch, pw_cell_below hb h0, pw_cell_below hb h1, pw_cell_below hb h2, pw_cell_below hb h3, pw_cell_below hb h4, pw_cell_below hb h5, pw_cell_below hb h6, pw_cell_below hb h7, pw_cell_below hb h8, pw_cell_below hb h9, pw_cell_below hb h10, pw_cell_below hb h11, pw_cell_below hb h12, hl, Kd.C_below hr hb⟩
theorem AccAt.blk {w : World} {b : Nat} {x : S36} {Ah : Option Addr} {ch : Nat} (h : w.heap[b]? = some (acO x (.slice Ah x.f6.length ch))) (hl : x.f6.length ≤ ch) (hr : RdI w Ah x.f6) : AccAt w b 0 x := by
  obtain ⟨a0, a1, a2, a3, a4, a5, a6, a7, a8, a9, a10, a11, a12, _⟩ := acO_facts h
  exact ⟨Ah, ch, a0, a1, a2, a3, a4, a5, a6, a7, a8, a9, a10, a11, a12, hl, hr⟩
def RdA (w : World) (A : Option Addr) (xs : List S36) : Prop := 0 < xs.length → ∃ b o, A = some ⟨b, o, none⟩ ∧ b < w.heap.size ∧ ∀ i, i < xs.length → AccAt w b (o + i * 13) (xs.getD i z36)
theorem RdA.below {w w1 : World} {A : Option Addr} {xs : List S36} (h : RdA w A xs) (hb : Below w.heap.size w w1) : RdA w1 A xs := fun hp => by
  obtain ⟨b, o, e, hbs, hc⟩ := h hp
  exact ⟨b, o, e, Nat.lt_of_lt_of_le hbs hb.size, fun i hi => (hc i hi).below hb⟩

def allm (bs : List Int) : Int → List S36 → Bool
  | _, [] => bmay bs
  | f, a :: r => if amay a bs = true then (if 0 < a.f0 then (if 0 ≤ f ∧ a.f4.f0 ≠ f then false else allm bs a.f4.f0 r) else allm bs f r) else false
theorem drop_cons {xs : List S36} {k : Nat} (hk : k < xs.length) : xs.drop k = xs.getD k z36 :: xs.drop (k + 1) := by
  rw [List.drop_eq_getElem_cons hk, List.getD_eq_getElem?_getD, List.getElem?_eq_getElem hk, Option.getD_some]

set_option maxHeartbeats 8000000 in
set_option maxRecDepth 100000 in
theorem allmay_any (bs : List Int) (xs : List S36) (A1 : Option Addr) (c1 : Nat) (A : Option Addr) (c : Nat) (w : World) (hr : RdI w A1 bs) (hc : bs.length ≤ c1) (ha : RdA w A xs) (hl : xs.length ≤ 17592186044415) :
    Calls Try.prog 77 #[.slice A1 bs.length c1, .slice A xs.length c] w fun e w' => e = .returned (.bool (allm bs (-1) xs)) ∧ Below w.heap.size w w' := by
  have HR := Lib.hid hr
  have HC := Lib.hid hc
  have HA := Lib.hid ha
  clear hr hc ha
  go_enter Try.func77, Try.ntmps77
  go_wp2_with fail
  go_loopw [5, 10] (fun s i wr => ∃ (k : Nat) (f : Int), i = .int .i64 k ∧ s = .int .i64 f ∧ k ≤ xs.length ∧ Below w.heap.size w wr ∧ Rel (allm bs (-1) xs = allm bs f (xs.drop k))) (fun _ i _ => xs.length - (intOf i).toNat)
  case atStart => exact ⟨0, -1, rfl, rfl, by omega, Below.refl _ _, rfl⟩
  case round =>
    obtain ⟨k, f, rfl, rfl, hk, hb, hx⟩ := hrel
    have HX := Lib.hid hx
    have HB := Lib.hid hb
    clear hx hb
    by_cases hlt : k < xs.length
    · obtain ⟨b, o, rfl, hbs, hcells⟩ := HA.out (by omega)
      obtain ⟨Ah, ch, e0, e1, e2, e3, e4, e5, e6, e7, e8, e9, e10, e11, e12, hlh, hrh⟩ := (hcells k hlt).below HB.out
      have hx := HX.out
      unfold Rel at hx
      rw [drop_cons hlt, allm] at hx
      generalize xs.getD k z36 = x at *
      have hal : Below wr.heap.size wr (wr.alloc (acO x (.slice Ah x.f6.length ch))) := (Below.refl wr.heap.size wr).alloc (Nat.le_refl _) _
      have hv : (wr.alloc (acO x (.slice Ah x.f6.length ch))).heap[wr.heap.size]? = some (acO x (.slice Ah x.f6.length ch)) := heap_alloc_new wr _
      obtain ⟨a0, a1, a2, a3, a4, a5, a6, a7, a8, a9, a10, a11, a12, al⟩ := acO_facts hv
      have HY := Lib.hid hx
      have HRH := Lib.hid (Kd.C_below hrh hal)
      have HLH := Lib.hid hlh
      have HV := Lib.hid hv
      have HB2 := Lib.hid (HB.out.trans (hal.mono HB.out.size))
      clear hx hal hv hrh hlh hcells HB
      unfold acO at a0 a1 a2 a3 a4 a5 a6 a7 a8 a9 a10 a11 a12 al
      go_wp2_with fail
      show Calls _ _ _ (wr.alloc (acO x (.slice Ah x.f6.length ch))) _
      clear a0 a1 a2 a3 a4 a5 a6 a7 a8 a9 a10 a11 a12 al e0 e1 e2 e3 e4 e5 e6 e7 e8 e9 e10 e11 e12
      generalize wr.alloc (acO x (.slice Ah x.f6.length ch)) = wa at *
      generalize wr.heap.size = xb at *
      refine (may_any x bs Ah ch A1 c1 _ HRH.out (Kd.C_below HR.out HB2.out) HC.out).mono ?_
      rintro e w2 ⟨rfl, hb⟩
      obtain ⟨a0, a1, a2, a3, a4, a5, a6, a7, a8, a9, a10, a11, a12, al⟩ := acO_facts (blk_below HV.out hb)
      have HB3 := Lib.hid (HB2.out.trans (hb.mono HB2.out.size))
      have hy := HY.out
      clear hb HV HB2 HRH HLH HX HY
      by_cases hm : amay x bs = true
      · rw [if_pos hm] at hy
        rw [hm]
        clear hm
        by_cases h0 : 0 < x.f0
        · rw [if_pos h0] at hy
          have hd0 : decide (0 < x.f0) = true := decide_eq_true h0
          clear h0
          by_cases hs : 0 ≤ f ∧ x.f4.f0 ≠ f
          · rw [if_pos hs] at hy
            obtain ⟨hs1, hs2⟩ := hs
            have hd1 : decide (0 ≤ f) = true := decide_eq_true hs1
            have hd2 : (x.f4.f0 == f) = false := beq_eq_false_iff_ne.2 hs2
            have HZ := Lib.hid hy
            clear hy hs1 hs2
            go_wp2_with fail
            go_ret
            exact ⟨by rw [HZ.out]; rfl, HB3.out⟩
          · rw [if_neg hs] at hy
            have HZ := Lib.hid hy
            by_cases h1 : 0 ≤ f
            · have hd1 : decide (0 ≤ f) = true := decide_eq_true h1
              have hd2 : (x.f4.f0 == f) = true := by
                rw [beq_iff_eq]
                exact Classical.byContradiction fun hn => hs ⟨h1, hn⟩
              clear hy hs h1
              go_wp2_with fail
              exact ⟨⟨k + 1, x.f4.f0, by go_num, rfl, by omega, HB3.out, HZ.out⟩, by simp [intOf]; omega⟩
            · have hd1 : decide (0 ≤ f) = false := decide_eq_false h1
              clear hy hs h1
              go_wp2_with fail
              exact ⟨⟨k + 1, x.f4.f0, by go_num, rfl, by omega, HB3.out, HZ.out⟩, by simp [intOf]; omega⟩
        · rw [if_neg h0] at hy
          have hd0 : decide (0 < x.f0) = false := decide_eq_false h0
          have HZ := Lib.hid hy
          clear h0 hy
          go_wp2_with fail
          exact ⟨⟨k + 1, f, by go_num, rfl, by omega, HB3.out, HZ.out⟩, by simp [intOf]; omega⟩
      · have hm' := bne_ hm
        rw [if_neg hm] at hy
        rw [hm']
        have HZ := Lib.hid hy
        clear hm hm' hy
        go_wp2_with fail
        go_ret
        exact ⟨by rw [HZ.out]; rfl, HB3.out⟩
    · obtain rfl : k = xs.length := by omega
      go_wp2_with fail
      refine (bm_any bs A1 c1 _ (Kd.C_below HR.out HB.out) HC.out).mono ?_
      rintro e w2 ⟨rfl, hb⟩
      have hx := HX.out
      unfold Rel at hx
      rw [List.drop_length, allm] at hx
      have HY := Lib.hid hx
      have HB2 := Lib.hid (HB.out.trans (hb.mono HB.out.size))
      clear hx hb
      go_wp2_with fail
      go_ret
      exact ⟨by rw [HY.out]; rfl, HB2.out⟩
end Go.Proofs.Ytfgabafbcephaaa.My

namespace Go.Proofs.Ytfgabafbcephaaa.My
open Go.RowKit Go.ChangeShapes Go.WideShapes Go.Deep Go.Joins Pa Go.Proofs.YtfgabafbcephaaaW.PrintWords

section
variable {H : Type} {enc : TypeId × Value → H} {W : World} {fuel base : Nat} {spare : Nat → Bool} {held : Bool} {x : DataW H × List MemPlace}

theorem open_int {cs : List Value} (h : DataW.trod enc Try.prog W base spare held fuel 3 cs = some x) : ∃ n, cs = [.int .i64 n] ∧ (Lit.int .i64 n).wf = true := by
  obtain ⟨n, e, _, hw⟩ := DataW.trod_int Try.underlying3 h
  exact ⟨n, e, hw⟩
def Wf26 (a : S34) : Prop := (Lit.int .i64 a.f0).wf = true ∧ (Lit.int .i64 a.f1).wf = true ∧ (Lit.int .i64 a.f2).wf = true ∧ (Lit.int .i64 a.f3).wf = true
theorem one_cell {cs : List Value} {k : Nat} {v : Value} (h : (cs.drop k).take 1 = [v]) : cs[k]? = some v := by
  have e : ((cs.drop k).take 1)[0]? = some v := by rw [h]; rfl
  rw [List.getElem?_take, if_pos (by decide), List.getElem?_drop] at e
  simpa using e
theorem list4 {cs : List Value} {a b c d : Value} (hl : cs.length = 4) (h0 : cs[0]? = some a) (h1 : cs[1]? = some b) (h2 : cs[2]? = some c) (h3 : cs[3]? = some d) : cs = [a, b, c, d] := by
  match cs, hl with
  | [_, _, _, _], _ => simp_all
theorem open_item {cs : List Value} (h : DataW.trod enc Try.prog W base spare held fuel 34 cs = some x) : ∃ a : S34, cs = [.int .i64 a.f0, .int .i64 a.f1, .int .i64 a.f2, .int .i64 a.f3] ∧ Wf26 a := by
  obtain ⟨y0, y1, y2, y3, n', _, hcl, t0, t1, t2, t3⟩ := trod_struct4 Try.underlying34 h
  obtain ⟨z0, e0, w0⟩ := open_int t0
  obtain ⟨z1, e1, w1⟩ := open_int t1
  obtain ⟨z2, e2, w2⟩ := open_int t2
  obtain ⟨z3, e3, w3⟩ := open_int t3
  have hc4 : Try.prog.cellsOf 34 = 4 := by kernel_rfl
  have hci : Try.prog.cellsOf 3 = 1 := by kernel_rfl
  rw [hc4] at hcl
  simp only [hci] at e0 e1 e2 e3
  exact ⟨⟨z0, z1, z2, z3⟩, list4 hcl (one_cell e0) (one_cell e1) (one_cell e2) (one_cell e3), w0, w1, w2, w3⟩
theorem open_row {A : Option Addr} {len cap : Nat} (h : DataW.trod enc Try.prog W base spare held fuel 22 [.slice A len cap] = some x) : ∃ l : List Int, len = l.length ∧ RdI W A l ∧ len ≤ cap ∧ ∀ n ∈ l, (Lit.int .i64 n).wf = true := by
  rcases open_ints Try.underlying22 Try.underlying3 (by kernel_rfl) h with ⟨hcs, _⟩ | ⟨x, l, c, zs, hcs, _, hl, hm, hz, _, hcell, hwz⟩
  · simp at hcs
    obtain ⟨rfl, rfl, rfl⟩ := hcs
    exact ⟨[], rfl, rdI_nil _, Nat.le_refl _, by simp⟩
  · simp at hcs
    obtain ⟨rfl, rfl, rfl⟩ := hcs
    have hzl : len ≤ zs.length := by rw [hz]; split <;> omega
    have hzc : zs.length ≤ cap := by rw [hz]; split <;> omega
    obtain ⟨l, e, hr, hw⟩ := rd_of_row hzl (Nat.le_trans hzc hm) rfl hcell hwz
    exact ⟨l, e, hr, hl, hw⟩
end
end Go.Proofs.Ytfgabafbcephaaa.My

namespace Go.Proofs.Ytfgabafbcephaaa.My
open Go.RowKit Pa Go.Proofs.YtfgabafbcephaaaW.PrintWords Go.Proofs.YtfgabafbcephaaaW.PrintMore
attribute [local go_sem high] eqA34
attribute [local go_sem] max2_int min2_int max_two min_two

def fst_ (o x : S36) : S36 := if o.f0 = 0 then ⟨o.f0, o.f1, x.f2, x.f3, x.f4, x.f5, o.f6⟩ else o
def add3 (o x : S36) : S36 := ⟨o.f0 + x.f0, o.f1 + x.f1, if x.f2 < o.f2 then x.f2 else o.f2, if o.f3 < x.f3 then x.f3 else o.f3, o.f4, o.f5, o.f6⟩
def add4 (o x : S36) : S36 := if ord x.f4 o.f4 < 0 then ⟨o.f0, o.f1, o.f2, o.f3, x.f4, o.f5, o.f6⟩ else o
def add5 (o x : S36) : S36 := if 0 ≤ ord x.f5 o.f5 then ⟨o.f0, o.f1, o.f2, o.f3, o.f4, x.f5, o.f6⟩ else o
def add6 (o : S36) (h : List Int) : S36 := ⟨o.f0, o.f1, o.f2, o.f3, o.f4, o.f5, h⟩
def hadd (h n : List Int) : List Int := List.zipWith (· + ·) h n
def addA (o x : S36) : S36 := add6 (add5 (add4 (add3 (fst_ o x) x) x) x) (hadd o.f6 x.f6)

structure OutAt (w0 w : World) (g hb cap : Nat) (o : S36) : Prop where
  blk : w.heap[g]? = some (acO o (.slice (some ⟨hb, 0, none⟩) o.f6.length cap))
  row : Own w w0.heap.size (.slice (some ⟨hb, 0, none⟩) o.f6.length cap) o.f6
  bel : Below w0.heap.size w0 w
  newg : w0.heap.size ≤ g
section
variable {w0 w w1 : World} {g hb cap : Nat} {o o1 : S36}
theorem OutAt.ne (h : OutAt w0 w g hb cap o) : hb ≠ g := fun e => by
  obtain ⟨cur, hc⟩ := row_blk h.row
  rw [e, h.blk] at hc
  injection hc with hc
  injection hc with _ ht
  exact absurd ht (by decide)
theorem OutAt.newh (h : OutAt w0 w g hb cap o) : w0.heap.size ≤ hb := own_base h.row hb rfl
theorem OutAt.put (h : OutAt w0 w g hb cap o) (hg : w1.heap[g]? = some (acO o1 (.slice (some ⟨hb, 0, none⟩) o.f6.length cap))) (hc : Chg (fun k => k = g) w w1) (e : o1.f6 = o.f6) : OutAt w0 w1 g hb cap o1 :=
  ⟨by rw [e]; exact hg, by
    rw [e]
    exact h.row.keep hc (fun k hk e1 => h.ne (by
      have e2 : hb = k := by simpa [Value.ownBlock] using hk
      rw [e2, e1])), Chg.base h.bel hc h.bel.size (fun i hi => by have := h.newg; omega), h.newg⟩
theorem OutAt.quiet (h : OutAt w0 w g hb cap o) (hb1 : Below w.heap.size w w1) : OutAt w0 w1 g hb cap o :=
  ⟨blk_below h.blk hb1, h.row.below hb1, h.bel.trans (hb1.mono h.bel.size), h.newg⟩
end
def put4c (w : World) (g j : Nat) (x : S34) : World := (((w.setCell ⟨g, j, none⟩ (.int .i64 x.f0)).setCell ⟨g, j + 1, none⟩ (.int .i64 x.f1)).setCell ⟨g, j + 2, none⟩ (.int .i64 x.f2)).setCell ⟨g, j + 3, none⟩ (.int .i64 x.f3)
theorem put4c_chg {w w1 : World} {g : Nat} (h : Chg (fun k => k = g) w w1) (j : Nat) (x : S34) : Chg (fun k => k = g) w (put4c w1 g j x) :=
  (((h.setCell (p := ⟨g, j, none⟩) (.inl rfl) _).setCell (p := ⟨g, j + 1, none⟩) (.inl rfl) _).setCell (p := ⟨g, j + 2, none⟩) (.inl rfl) _).setCell (p := ⟨g, j + 3, none⟩) (.inl rfl) _
theorem blk_put4 {w : World} {g : Nat} {cs : Array Value} {t : TypeId} {fr : Nat × Nat} (h : w.heap[g]? = some (.cells cs t fr)) (j : Nat) (x : S34) : (put4c w g j x).heap[g]? = some (.cells ((((cs.setIfInBounds j (.int .i64 x.f0)).setIfInBounds (j + 1) (.int .i64 x.f1)).setIfInBounds (j + 2) (.int .i64 x.f2)).setIfInBounds (j + 3) (.int .i64 x.f3)) t fr) :=
  blk_set (blk_set (blk_set (blk_set h j _) (j + 1) _) (j + 2) _) (j + 3) _

structure AddOk (o x : S36) : Prop where
  c1 : 0 ≤ o.f0 ∧ o.f0 ≤ 8192
  c2 : 0 ≤ x.f0 ∧ x.f0 ≤ 8192
  s1 : -90071992547409920 ≤ o.f1 ∧ o.f1 ≤ 90071992547409920
  s2 : -90071992547409920 ≤ x.f1 ∧ x.f1 ≤ 90071992547409920
  len : x.f6.length = o.f6.length
  h1 : ∀ i, i < o.f6.length → 0 ≤ o.f6.getD i 0 ∧ o.f6.getD i 0 ≤ 8192
  h2 : ∀ i, i < o.f6.length → 0 ≤ x.f6.getD i 0 ∧ x.f6.getD i 0 ≤ 8192

theorem AddOk.fst {o x : S36} (h : AddOk o x) : AddOk (fst_ o x) x := by
  unfold fst_
  split
  · exact ⟨h.c1, h.c2, h.s1, h.s2, h.len, h.h1, h.h2⟩
  · exact h
theorem fst_yes {o x : S36} (h : o.f0 = 0) : fst_ o x = ⟨o.f0, o.f1, x.f2, x.f3, x.f4, x.f5, o.f6⟩ := if_pos h
theorem fst_no {o x : S36} (h : ¬ o.f0 = 0) : fst_ o x = o := if_neg h

theorem hadd_ext : ∀ {o h n : List Int}, h.length = o.length → n.length = o.length → (∀ j, j < o.length → h.getD j 0 = o.getD j 0 + n.getD j 0) → h = hadd o n
  | [], h, n, l1, l2, _ => by
    have := List.eq_nil_of_length_eq_zero l1
    subst this
    rfl
  | a :: o, h, n, l1, l2, hj => by
    cases h with
    | nil => simp at l1
    | cons b h =>
      cases n with
      | nil => simp at l2
      | cons c n =>
        have h0 := hj 0 (by simp)
        simp at h0
        have ih := hadd_ext (o := o) (h := h) (n := n) (by simpa using l1) (by simpa using l2) (fun j hj' => by
          have := hj (j + 1) (by simpa using hj')
          simpa using this)
        rw [h0, ih]
        rfl
theorem acc13 {w0 : World} {b p : Nat} {x : S36} (h : AccAt w0 b p x) : ∃ (Ah : Option Addr) (ch : Nat), (∀ w, Below w0.heap.size w0 w → w.cell? ⟨b, p, none⟩ = some (.int .i64 x.f0) ∧ w.cell? ⟨b, p + 1, none⟩ = some (.int .i64 x.f1) ∧ w.cell? ⟨b, p + 2, none⟩ = some (.int .i64 x.f2) ∧ w.cell? ⟨b, p + 3, none⟩ = some (.int .i64 x.f3) ∧ w.cell? ⟨b, p + 4, none⟩ = some (.int .i64 x.f4.f0) ∧ w.cell? ⟨b, p + 5, none⟩ = some (.int .i64 x.f4.f1) ∧ w.cell? ⟨b, p + 6, none⟩ = some (.int .i64 x.f4.f2) ∧ w.cell? ⟨b, p + 7, none⟩ = some (.int .i64 x.f4.f3) ∧ w.cell? ⟨b, p + 8, none⟩ = some (.int .i64 x.f5.f0) ∧ w.cell? ⟨b, p + 9, none⟩ = some (.int .i64 x.f5.f1) ∧ w.cell? ⟨b, p + 10, none⟩ = some (.int .i64 x.f5.f2) ∧ w.cell? ⟨b, p + 11, none⟩ = some (.int .i64 x.f5.f3) ∧ w.cell? ⟨b, p + 12, none⟩ = some (.slice Ah x.f6.length ch)) ∧ x.f6.length ≤ ch ∧ RdI w0 Ah x.f6 := by
  obtain ⟨Ah, ch, h0, h1, h2, h3, h4, h5, h6, h7, h8, h9, h10, h11, h12, hl, hr⟩ := h
  exact ⟨Ah, ch, fun w hb => ⟨pw_cell_below hb h0, pw_cell_below hb h1, pw_cell_below hb h2, pw_cell_below hb h3, pw_cell_below hb h4, pw_cell_below hb h5, pw_cell_below hb h6, pw_cell_below hb h7, pw_cell_below hb h8, pw_cell_below hb h9, pw_cell_below hb h10, pw_cell_below hb h11, pw_cell_below hb h12⟩, hl, hr⟩
theorem Own.cell {w : World} {base hb cap : Nat} {h : List Int} (ho : Own w base (.slice (some ⟨hb, 0, none⟩) h.length cap) h) {k : Nat} (hk : k < h.length) : w.cell? ⟨hb, k, none⟩ = some (.int .i64 (h.getD k 0)) := by
  have h1 := World.ownsRow.cells ho (g := hb) rfl k (.int .i64 (h.getD k 0)) (by rw [List.getElem?_map, List.getD_eq_getElem?_getD, List.getElem?_eq_getElem hk]; rfl)
  rwa [add_plain] at h1
theorem OutAt.hset {w0 w : World} {g hb cap : Nat} {o : S36} {h : List Int} (ho : OutAt w0 w g hb cap (add6 o h)) (k : Nat) (v : Int) : OutAt w0 (w.setCell ⟨hb, k, none⟩ (.int .i64 v)) g hb cap (add6 o (h.set k v)) := by
  have hch := (Chg.refl (fun k => k = hb) w).setCell (p := ⟨hb, k, none⟩) (.inl rfl) (.int .i64 v)
  have e : (add6 o (h.set k v)).f6.length = (add6 o h).f6.length := List.length_set ..
  refine ⟨?_, ?_, Chg.base ho.bel hch ho.bel.size (fun i hi => by have := ho.newh; omega), ho.newg⟩
  · rw [e]
    exact hch.obj ho.blk (fun e => ho.ne e.symm)
  · have h1 := (World.ownsRow.stored ho.row k (.int .i64 v)).1
    unfold Own
    rw [e]
    have e2 : (add6 o (h.set k v)).f6.map (Value.int .i64) = ((add6 o h).f6.map (Value.int .i64)).set k (.int .i64 v) := List.map_set ..
    rw [e2]
    exact h1

set_option maxHeartbeats 8000000 in
set_option maxRecDepth 100000 in
theorem add_any (o x : S36) (w0 w : World) (g hb cap b p : Nat) (ho : OutAt w0 w g hb cap o) (hx : AccAt w0 b p x) (hk : AddOk o x) (hl : o.f6.length ≤ 9) :
    Calls Try.prog 78 #[.pointer (some ⟨g, 0, none⟩), .pointer (some ⟨b, p, none⟩)] w fun e w' => e = .returned (.tuple #[]) ∧ OutAt w0 w' g hb cap (addA o x) := by
  have HO := Lib.hid ho
  have HX := Lib.hid hx
  have HK := Lib.hid hk
  clear ho hx hk
  obtain ⟨Ah, ch, hxc, hlh, hrh⟩ := acc13 HX.out
  have HXC := Lib.hid hxc
  have HRH := Lib.hid hrh
  clear hxc hrh
  obtain ⟨a0, a1, a2, a3, a4, a5, a6, a7, a8, a9, a10, a11, a12, al⟩ := acO_facts HO.out.blk
  obtain ⟨e0, e1, e2, e3, e4, e5, e6, e7, e8, e9, e10, e11, e12⟩ := HXC.out _ HO.out.bel
  have hf := fun j => blk_free HO.out.blk j
  go_enter Try.func78, Try.ntmps78
  by_cases hz : o.f0 = 0
  focus
    have hzb : (o.f0 == 0) = true := by rw [beq_iff_eq]; exact hz
    have HZ := Lib.hid hz
    clear hz
    go_wp2_with fail
    refine Txt.wp_region_text (by kernel_rfl) (by kernel_rfl) ?_
    repeat (first
      | (refine Txt.text_p (by rfl) rfl (fun K hK => ?_); go_big_quiet_op; refine hK _ ?_; clear hK K)
      | (refine Txt.text_r (by rfl) rfl (fun K hK => ?_); go_big_quiet_op; refine hK _ ?_; clear hK K)
      | (refine Txt.text_pass (by rfl) (by rfl) ?_; simp only [List.set_cons_succ, List.set_cons_zero]))
    refine Txt.text_a (by rfl) rfl (fun K hK => ?_)
    go_wp2_with fail
    repeat (first
      | (refine Txt.text_p (by rfl) rfl (fun K hK => ?_); go_big_quiet_op; refine hK _ ?_; clear hK K)
      | (refine Txt.text_r (by rfl) rfl (fun K hK => ?_); go_big_quiet_op; refine hK _ ?_; clear hK K)
      | (refine Txt.text_pass (by rfl) (by rfl) ?_; simp only [List.set_cons_succ, List.set_cons_zero]))
    refine Txt.text_a (by rfl) rfl (fun K hK => ?_)
    go_wp2_with fail
    repeat (first
      | (refine Txt.text_p (by rfl) rfl (fun K hK => ?_); go_big_quiet_op; refine hK _ ?_; clear hK K)
      | (refine Txt.text_r (by rfl) rfl (fun K hK => ?_); go_big_quiet_op; refine hK _ ?_; clear hK K)
      | (refine Txt.text_pass (by rfl) (by rfl) ?_; simp only [List.set_cons_succ, List.set_cons_zero]))
    refine Txt.text_a (by rfl) rfl (fun K hK => ?_)
    go_wp2_with fail
    repeat (first
      | (refine Txt.text_p (by rfl) rfl (fun K hK => ?_); go_big_quiet_op; refine hK _ ?_; clear hK K)
      | (refine Txt.text_r (by rfl) rfl (fun K hK => ?_); go_big_quiet_op; refine hK _ ?_; clear hK K)
      | (refine Txt.text_pass (by rfl) (by rfl) ?_; simp only [List.set_cons_succ, List.set_cons_zero]))
    refine Txt.text_a (by rfl) rfl (fun K hK => ?_)
    go_wp2_with fail
    refine Txt.text_nil ?_
    show Exit.then _ _ _ _ (World.drew (put4c (put4c ((w.setCell ⟨g, 2, none⟩ (.int .i64 x.f2)).setCell ⟨g, 3, none⟩ (.int .i64 x.f3)) g 4 x.f4) g 8 x.f5))
    have hbk := blk_put4 (blk_put4 (blk_set (blk_set HO.out.blk 2 (.int .i64 x.f2)) 3 (.int .i64 x.f3)) 4 x.f4) 8 x.f5
    simp only [List.setIfInBounds_toArray, List.set_cons_zero, List.set_cons_succ] at hbk
    have hch := put4c_chg (put4c_chg (((Chg.refl (fun k => k = g) w).setCell (p := ⟨g, 2, none⟩) (.inl rfl) (.int .i64 x.f2)).setCell (p := ⟨g, 3, none⟩) (.inl rfl) (.int .i64 x.f3)) 4 x.f4) 8 x.f5
    have ho1 : OutAt w0 (World.drew (put4c (put4c ((w.setCell ⟨g, 2, none⟩ (.int .i64 x.f2)).setCell ⟨g, 3, none⟩ (.int .i64 x.f3)) g 4 x.f4) g 8 x.f5)) g hb cap (fst_ o x) := by
      rw [fst_yes HZ.out]
      exact (HO.out.put (o1 := ⟨o.f0, o.f1, x.f2, x.f3, x.f4, x.f5, o.f6⟩) hbk hch rfl).quiet (Below.refl _ _).drew
    clear hbk hch a0 a1 a2 a3 a4 a5 a6 a7 a8 a9 a10 a11 a12 al e0 e1 e2 e3 e4 e5 e6 e7 e8 e9 e10 e11 e12 hf HO hzb HZ
    generalize World.drew (put4c (put4c ((w.setCell ⟨g, 2, none⟩ (.int .i64 x.f2)).setCell ⟨g, 3, none⟩ (.int .i64 x.f3)) g 4 x.f4) g 8 x.f5) = w1 at *
    go_wp2_with fail
  rotate_left 1
  focus
    have hzb : (o.f0 == 0) = false := beq_eq_false_iff_ne.2 hz
    have ho1 : OutAt w0 w g hb cap (fst_ o x) := by
      rw [fst_no hz]
      exact HO.out
    clear hz
    go_wp2_with fail
    clear a0 a1 a2 a3 a4 a5 a6 a7 a8 a9 a10 a11 a12 al e0 e1 e2 e3 e4 e5 e6 e7 e8 e9 e10 e11 e12 hf HO hzb
    generalize w = w1 at *
  all_goals
    have hk1 := HK.out.fst
    have hl1 : (fst_ o x).f6.length ≤ 9 := by unfold fst_; split <;> exact hl
    have HF := Lib.hid (show (fst_ o x).f6 = o.f6 by unfold fst_; split <;> rfl)
    obtain ⟨o1, he1⟩ : ∃ o1, o1 = fst_ o x := ⟨_, rfl⟩
    rw [← he1] at ho1 hk1 hl1 HF
    have HE1 := Lib.hid he1
    have HO1 := Lib.hid ho1
    clear he1 ho1
    obtain ⟨a0, a1, a2, a3, a4, a5, a6, a7, a8, a9, a10, a11, a12, al⟩ := acO_facts HO1.out.blk
    obtain ⟨e0, e1, e2, e3, e4, e5, e6, e7, e8, e9, e10, e11, e12⟩ := HXC.out _ HO1.out.bel
    have hf := fun j => blk_free HO1.out.blk j
    obtain ⟨hc1, hc2⟩ := hk1.c1
    obtain ⟨hc3, hc4⟩ := hk1.c2
    obtain ⟨hs1, hs2⟩ := hk1.s1
    obtain ⟨hs3, hs4⟩ := hk1.s2
    have HK1 := Lib.hid hk1
    clear hk1
    have hbg : b ≠ g := by
      obtain ⟨_, _, h0, _⟩ := HX.out
      have h1 := World.block_lt_of_cell? w0 _ h0
      have h2 := HO1.out.newg
      intro e
      simp only at h1
      omega
    have hgb : g ≠ b := fun e => hbg e.symm
    obtain ⟨m2, hm2⟩ : ∃ m, (if x.f2 < o1.f2 then x.f2 else o1.f2) = m := ⟨_, rfl⟩
    obtain ⟨m3, hm3⟩ : ∃ m, (if o1.f3 < x.f3 then x.f3 else o1.f3) = m := ⟨_, rfl⟩
    refine Txt.wp_region_text (by kernel_rfl) (by kernel_rfl) ?_
    repeat (first
      | (refine Txt.text_p (by rfl) rfl (fun K hK => ?_); go_big_quiet_op; refine hK _ ?_; clear hK K)
      | (refine Txt.text_r (by rfl) rfl (fun K hK => ?_); go_big_quiet_op; refine hK _ ?_; clear hK K)
      | (refine Txt.text_pass (by rfl) (by rfl) ?_; simp only [List.set_cons_succ, List.set_cons_zero]))
    refine Txt.text_a (by rfl) rfl (fun K hK => ?_)
    go_wp2_with fail
    refine Txt.text_nil ?_
    go_wp2_with fail
    refine Txt.wp_region_text (by kernel_rfl) (by kernel_rfl) ?_
    repeat (first
      | (refine Txt.text_p (by rfl) rfl (fun K hK => ?_); go_big_quiet_op; refine hK _ ?_; clear hK K)
      | (refine Txt.text_r (by rfl) rfl (fun K hK => ?_); go_big_quiet_op; refine hK _ ?_; clear hK K)
      | (refine Txt.text_pass (by rfl) (by rfl) ?_; simp only [List.set_cons_succ, List.set_cons_zero]))
    refine Txt.text_a (by rfl) rfl (fun K hK => ?_)
    go_wp2_with fail
    refine Txt.text_nil ?_
    go_wp2_with fail
    refine Txt.wp_region_text (by kernel_rfl) (by kernel_rfl) ?_
    repeat (first
      | (refine Txt.text_p (by rfl) rfl (fun K hK => ?_); go_big_quiet_op; refine hK _ ?_; clear hK K)
      | (refine Txt.text_r (by rfl) rfl (fun K hK => ?_); go_big_quiet_op; refine hK _ ?_; clear hK K)
      | (refine Txt.text_pass (by rfl) (by rfl) ?_; simp only [List.set_cons_succ, List.set_cons_zero]))
    refine Txt.text_a (by rfl) rfl (fun K hK => ?_)
    go_wp2_with fail
    repeat (first
      | (refine Txt.text_p (by rfl) rfl (fun K hK => ?_); go_big_quiet_op; refine hK _ ?_; clear hK K)
      | (refine Txt.text_r (by rfl) rfl (fun K hK => ?_); go_big_quiet_op; refine hK _ ?_; clear hK K)
      | (refine Txt.text_pass (by rfl) (by rfl) ?_; simp only [List.set_cons_succ, List.set_cons_zero]))
    refine Txt.text_a (by rfl) rfl (fun K hK => ?_)
    go_wp2_with fail
    refine Txt.text_nil ?_
    show Exit.then _ _ _ _ (World.drew (World.drew (World.drew ((((w1.setCell ⟨g, 0, none⟩ (.int .i64 (o1.f0 + x.f0))).setCell ⟨g, 1, none⟩ (.int .i64 (o1.f1 + x.f1))).setCell ⟨g, 2, none⟩ (.int .i64 m2)).setCell ⟨g, 3, none⟩ (.int .i64 m3)))))
    have hbk := blk_set (blk_set (blk_set (blk_set HO1.out.blk 0 (.int .i64 (o1.f0 + x.f0))) 1 (.int .i64 (o1.f1 + x.f1))) 2 (.int .i64 m2)) 3 (.int .i64 m3)
    simp only [List.setIfInBounds_toArray, List.set_cons_zero, List.set_cons_succ] at hbk
    have hch := ((((Chg.refl (fun k => k = g) w1).setCell (p := ⟨g, 0, none⟩) (.inl rfl) (.int .i64 (o1.f0 + x.f0))).setCell (p := ⟨g, 1, none⟩) (.inl rfl) (.int .i64 (o1.f1 + x.f1))).setCell (p := ⟨g, 2, none⟩) (.inl rfl) (.int .i64 m2)).setCell (p := ⟨g, 3, none⟩) (.inl rfl) (.int .i64 m3)
    have ho3 : OutAt w0 (World.drew (World.drew (World.drew ((((w1.setCell ⟨g, 0, none⟩ (.int .i64 (o1.f0 + x.f0))).setCell ⟨g, 1, none⟩ (.int .i64 (o1.f1 + x.f1))).setCell ⟨g, 2, none⟩ (.int .i64 m2)).setCell ⟨g, 3, none⟩ (.int .i64 m3))))) g hb cap (add3 o1 x) := (HO1.out.put (o1 := add3 o1 x) (by unfold acO add3; simp only [hm2, hm3]; exact hbk) hch rfl).quiet ((Below.refl _ _).drew.drew.drew)
    clear hbk hch a0 a1 a2 a3 a4 a5 a6 a7 a8 a9 a10 a11 a12 al e0 e1 e2 e3 e4 e5 e6 e7 e8 e9 e10 e11 e12 hf hm2 hm3
    generalize World.drew (World.drew (World.drew ((((w1.setCell ⟨g, 0, none⟩ (.int .i64 (o1.f0 + x.f0))).setCell ⟨g, 1, none⟩ (.int .i64 (o1.f1 + x.f1))).setCell ⟨g, 2, none⟩ (.int .i64 m2)).setCell ⟨g, 3, none⟩ (.int .i64 m3)))) = w3 at *
    obtain ⟨o3, he3⟩ : ∃ o3, o3 = add3 o1 x := ⟨_, rfl⟩
    have HF3 := Lib.hid (show o3.f6 = o.f6 by rw [he3]; exact HF.out)
    rw [← he3] at ho3
    have HE3 := Lib.hid he3
    have HO3 := Lib.hid ho3
    clear he3 ho3 HF HK1 HO1 hc1 hc2 hc3 hc4 hs1 hs2 hs3 hs4 hl1
    obtain ⟨a0, a1, a2, a3, a4, a5, a6, a7, a8, a9, a10, a11, a12, al⟩ := acO_facts HO3.out.blk
    obtain ⟨e0, e1, e2, e3, e4, e5, e6, e7, e8, e9, e10, e11, e12⟩ := HXC.out _ HO3.out.bel
    have hf := fun j => blk_free HO3.out.blk j
    go_wp2_with fail
    refine Txt.wp_region_text (by kernel_rfl) (by kernel_rfl) ?_
    repeat (first
      | (refine Txt.text_p (by rfl) rfl (fun K hK => ?_); go_big_quiet_op; refine hK _ ?_; clear hK K)
      | (refine Txt.text_r (by rfl) rfl (fun K hK => ?_); go_big_quiet_op; refine hK _ ?_; clear hK K)
      | (refine Txt.text_pass (by rfl) (by rfl) ?_; simp only [List.set_cons_succ, List.set_cons_zero]))
    refine Txt.text_a (by rfl) rfl (fun K hK => ?_)
    go_wp2_with fail
    refine (ord_any x.f4 o3.f4 _).mono ?_
    rintro e w3c ⟨rfl, hb⟩
    have HOc := Lib.hid (HO3.out.quiet (Txt.Bw.undrew hb))
    clear hb a0 a1 a2 a3 a4 a5 a6 a7 a8 a9 a10 a11 a12 al e0 e1 e2 e3 e4 e5 e6 e7 e8 e9 e10 e11 e12 hf HO3
    obtain ⟨a0, a1, a2, a3, a4, a5, a6, a7, a8, a9, a10, a11, a12, al⟩ := acO_facts HOc.out.blk
    obtain ⟨e0, e1, e2, e3, e4, e5, e6, e7, e8, e9, e10, e11, e12⟩ := HXC.out _ HOc.out.bel
    have hf := fun j => blk_free HOc.out.blk j
    have hadd4 : add4 o3 x = if ord x.f4 o3.f4 < 0 then ⟨o3.f0, o3.f1, o3.f2, o3.f3, x.f4, o3.f5, o3.f6⟩ else o3 := rfl
    have HAD := Lib.hid hadd4
    clear hadd4
    generalize ord x.f4 o3.f4 = ov at *
    by_cases h4 : ov < 0
    focus
      have hd : decide (ov < 0) = true := decide_eq_true h4
      have h9 := HAD.out
      rw [if_pos h4] at h9
      have H9 := Lib.hid h9
      clear h4 h9
      go_wp2_with fail
      repeat (first
        | (refine Txt.text_p (by rfl) rfl (fun K hK => ?_); go_big_quiet_op; refine hK _ ?_; clear hK K)
        | (refine Txt.text_r (by rfl) rfl (fun K hK => ?_); go_big_quiet_op; refine hK _ ?_; clear hK K)
        | (refine Txt.text_pass (by rfl) (by rfl) ?_; simp only [List.set_cons_succ, List.set_cons_zero]))
      refine Txt.text_nil ?_
      go_wp2_with fail
      show Code.wp _ _ _ _ (put4c w3c g 4 x.f4)
      have hbk := blk_put4 HOc.out.blk 4 x.f4
      simp only [List.setIfInBounds_toArray, List.set_cons_zero, List.set_cons_succ] at hbk
      have hch := put4c_chg (Chg.refl (fun k => k = g) w3c) 4 x.f4
      have hoN : OutAt w0 (put4c w3c g 4 x.f4) g hb cap (add4 o3 x) := by
        rw [H9.out]
        exact HOc.out.put (o1 := ⟨o3.f0, o3.f1, o3.f2, o3.f3, x.f4, o3.f5, o3.f6⟩) hbk hch rfl
      clear hbk hch a0 a1 a2 a3 a4 a5 a6 a7 a8 a9 a10 a11 a12 al e0 e1 e2 e3 e4 e5 e6 e7 e8 e9 e10 e11 e12 hf hd
      generalize put4c w3c g 4 x.f4 = wN at *
    rotate_left 1
    focus
      have hd : decide (ov < 0) = false := decide_eq_false h4
      have h9 := HAD.out
      rw [if_neg h4] at h9
      have H9 := Lib.hid h9
      clear h4 h9
      go_wp2_with fail
      repeat (first
        | (refine Txt.text_p (by rfl) rfl (fun K hK => ?_); go_big_quiet_op; refine hK _ ?_; clear hK K)
        | (refine Txt.text_r (by rfl) rfl (fun K hK => ?_); go_big_quiet_op; refine hK _ ?_; clear hK K)
        | (refine Txt.text_pass (by rfl) (by rfl) ?_; simp only [List.set_cons_succ, List.set_cons_zero]))
      refine Txt.text_nil ?_
      go_wp2_with fail
      have hoN : OutAt w0 w3c g hb cap (add4 o3 x) := by
        rw [H9.out]
        exact HOc.out
      clear a0 a1 a2 a3 a4 a5 a6 a7 a8 a9 a10 a11 a12 al e0 e1 e2 e3 e4 e5 e6 e7 e8 e9 e10 e11 e12 hf hd
      generalize w3c = wN at *
    all_goals
      have hf4 : (add4 o3 x).f6 = o3.f6 := by rw [H9.out]
      obtain ⟨o4, he4⟩ : ∃ o4, o4 = add4 o3 x := ⟨_, rfl⟩
      rw [← he4] at hoN hf4
      have HF4 := Lib.hid (hf4.trans HF3.out)
      have HE4 := Lib.hid he4
      have HO4 := Lib.hid hoN
      clear he4 hoN hf4 HF3 H9 HAD HOc
      obtain ⟨a0, a1, a2, a3, a4, a5, a6, a7, a8, a9, a10, a11, a12, al⟩ := acO_facts HO4.out.blk
      obtain ⟨e0, e1, e2, e3, e4, e5, e6, e7, e8, e9, e10, e11, e12⟩ := HXC.out _ HO4.out.bel
      have hf := fun j => blk_free HO4.out.blk j
      refine Txt.wp_region_text (by kernel_rfl) (by kernel_rfl) ?_
      repeat (first
        | (refine Txt.text_p (by rfl) rfl (fun K hK => ?_); go_big_quiet_op; refine hK _ ?_; clear hK K)
        | (refine Txt.text_r (by rfl) rfl (fun K hK => ?_); go_big_quiet_op; refine hK _ ?_; clear hK K)
        | (refine Txt.text_pass (by rfl) (by rfl) ?_; simp only [List.set_cons_succ, List.set_cons_zero]))
      refine Txt.text_a (by rfl) rfl (fun K hK => ?_)
      go_wp2_with fail
      refine (ord_any x.f5 o4.f5 _).mono ?_
      rintro e w4c ⟨rfl, hb⟩
      have HOd := Lib.hid (HO4.out.quiet (Txt.Bw.undrew hb))
      clear hb a0 a1 a2 a3 a4 a5 a6 a7 a8 a9 a10 a11 a12 al e0 e1 e2 e3 e4 e5 e6 e7 e8 e9 e10 e11 e12 hf HO4
      obtain ⟨a0, a1, a2, a3, a4, a5, a6, a7, a8, a9, a10, a11, a12, al⟩ := acO_facts HOd.out.blk
      obtain ⟨e0, e1, e2, e3, e4, e5, e6, e7, e8, e9, e10, e11, e12⟩ := HXC.out _ HOd.out.bel
      have hf := fun j => blk_free HOd.out.blk j
      have hadd5 : add5 o4 x = if 0 ≤ ord x.f5 o4.f5 then ⟨o4.f0, o4.f1, o4.f2, o4.f3, o4.f4, x.f5, o4.f6⟩ else o4 := rfl
      have HAD := Lib.hid hadd5
      clear hadd5
      generalize ord x.f5 o4.f5 = ov2 at *
      by_cases h4 : 0 ≤ ov2
      focus
        have hd : decide (0 ≤ ov2) = true := decide_eq_true h4
        have h9 := HAD.out
        rw [if_pos h4] at h9
        have H9 := Lib.hid h9
        clear h4 h9
        go_wp2_with fail
        repeat (first
          | (refine Txt.text_p (by rfl) rfl (fun K hK => ?_); go_big_quiet_op; refine hK _ ?_; clear hK K)
          | (refine Txt.text_r (by rfl) rfl (fun K hK => ?_); go_big_quiet_op; refine hK _ ?_; clear hK K)
          | (refine Txt.text_pass (by rfl) (by rfl) ?_; simp only [List.set_cons_succ, List.set_cons_zero]))
        refine Txt.text_nil ?_
        go_wp2_with fail
        show Code.wp _ _ _ _ (put4c w4c g 8 x.f5)
        have hbk := blk_put4 HOd.out.blk 8 x.f5
        simp only [List.setIfInBounds_toArray, List.set_cons_zero, List.set_cons_succ] at hbk
        have hch := put4c_chg (Chg.refl (fun k => k = g) w4c) 8 x.f5
        have hoN : OutAt w0 (put4c w4c g 8 x.f5) g hb cap (add5 o4 x) := by
          rw [H9.out]
          exact HOd.out.put (o1 := ⟨o4.f0, o4.f1, o4.f2, o4.f3, o4.f4, x.f5, o4.f6⟩) hbk hch rfl
        clear hbk hch a0 a1 a2 a3 a4 a5 a6 a7 a8 a9 a10 a11 a12 al e0 e1 e2 e3 e4 e5 e6 e7 e8 e9 e10 e11 e12 hf hd
        generalize put4c w4c g 8 x.f5 = wN at *
      rotate_left 1
      focus
        have hd : decide (0 ≤ ov2) = false := decide_eq_false h4
        have h9 := HAD.out
        rw [if_neg h4] at h9
        have H9 := Lib.hid h9
        clear h4 h9
        go_wp2_with fail
        repeat (first
          | (refine Txt.text_p (by rfl) rfl (fun K hK => ?_); go_big_quiet_op; refine hK _ ?_; clear hK K)
          | (refine Txt.text_r (by rfl) rfl (fun K hK => ?_); go_big_quiet_op; refine hK _ ?_; clear hK K)
          | (refine Txt.text_pass (by rfl) (by rfl) ?_; simp only [List.set_cons_succ, List.set_cons_zero]))
        refine Txt.text_nil ?_
        go_wp2_with fail
        have hoN : OutAt w0 w4c g hb cap (add5 o4 x) := by
          rw [H9.out]
          exact HOd.out
        clear a0 a1 a2 a3 a4 a5 a6 a7 a8 a9 a10 a11 a12 al e0 e1 e2 e3 e4 e5 e6 e7 e8 e9 e10 e11 e12 hf hd
        generalize w4c = wN at *
      all_goals
        have hf5 : (add5 o4 x).f6 = o4.f6 := by rw [H9.out]
        obtain ⟨o5, he5⟩ : ∃ o5, o5 = add5 o4 x := ⟨_, rfl⟩
        rw [← he5] at hoN hf5
        have HF5 := Lib.hid (hf5.trans HF4.out)
        have HE5 := Lib.hid he5
        have HO5 := Lib.hid hoN
        clear he5 hoN hf5 HF4 H9 HAD HOd
        go_wp2_with fail
        go_loopw [124] (fun i wr => ∃ (k : Nat) (h : List Int), i = .int .i64 k ∧ k ≤ x.f6.length ∧ OutAt w0 wr g hb cap (add6 o5 h) ∧ Rel (h.length = o.f6.length ∧ ∀ j, j < o.f6.length → h.getD j 0 = if j < k then o.f6.getD j 0 + x.f6.getD j 0 else o.f6.getD j 0)) (fun i _ => x.f6.length - (intOf i).toNat)
        case atStart => exact ⟨0, o5.f6, rfl, by omega, HO5.out, by rw [HF5.out], fun j hj => by rw [if_neg (by omega), HF5.out]⟩
        case round =>
          obtain ⟨k, h, rfl, hk, hor, hx⟩ := hrel
          have HXR := Lib.hid hx
          have HOR := Lib.hid hor
          clear hx hor
          by_cases hlt : k < x.f6.length
          · obtain ⟨ad, rfl, n0⟩ := RdI.at_ (Kd.C_below HRH.out HOR.out.bel) hlt
            have hol : k < o.f6.length := by rw [← HK.out.len]; exact hlt
            have hk9 : k < 9 := by omega
            have hkl : k < h.length := by rw [HXR.out.1]; exact hol
            have c12 : wr.cell? ⟨g, 12, none⟩ = some (.slice (some ⟨hb, 0, none⟩) h.length cap) := (blk_cell HOR.out.blk 12).trans rfl
            have hgl := blk_lt HOR.out.blk
            have hv := Own.cell (h := h) HOR.out.row hkl
            obtain ⟨cur, hcur⟩ := row_blk HOR.out.row
            have hfz := blk_free hcur
            have hbl := blk_lt hcur
            have hhk : h.getD k 0 = o.f6.getD k 0 := by rw [HXR.out.2 k hol, if_neg (by omega)]
            obtain ⟨u1, u2⟩ := HK.out.h1 k hol
            obtain ⟨u3, u4⟩ := HK.out.h2 k hol
            rw [← hhk] at u1 u2
            have HHK := Lib.hid hhk
            have HOL := Lib.hid hol
            obtain ⟨n, hn⟩ : ∃ n, x.f6.getD k 0 = n := ⟨_, rfl⟩
            obtain ⟨uu, huu⟩ : ∃ n, h.getD k 0 = n := ⟨_, rfl⟩
            rw [hn] at n0 u3 u4
            rw [huu] at hv u1 u2
            have HN := Lib.hid (And.intro hn huu)
            clear hcur hhk hol hn huu
            go_wp2_with fail
            refine ⟨⟨k + 1, h.set k (uu + n), by go_num, by omega, HOR.out.hset k _, ?_, fun j hj => ?_⟩, by simp [intOf]; omega⟩
            · rw [List.length_set]; exact HXR.out.1
            · rw [List.getD_eq_getElem?_getD, List.getElem?_set]
              by_cases hjk : k = j
              · subst hjk
                rw [if_pos rfl, if_pos hkl, if_pos (by omega), ← HHK.out, HN.out.1, HN.out.2]
                rfl
              · rw [if_neg hjk, ← List.getD_eq_getElem?_getD, HXR.out.2 j hj]
                by_cases hj2 : j < k
                · rw [if_pos hj2, if_pos (by omega)]
                · rw [if_neg hj2, if_neg (by omega)]
          · obtain rfl : k = x.f6.length := by omega
            go_wp2_with fail
            have hh : h = hadd o.f6 x.f6 := hadd_ext HXR.out.1 HK.out.len (fun j hj => by rw [HXR.out.2 j hj, if_pos (by have := HK.out.len; omega)])
            have hfin : add6 o5 h = addA o x := by rw [addA, ← HE1.out, ← HE3.out, ← HE4.out, ← HE5.out, ← hh]
            refine bodyPost_end (results_none rfl _ _ _) rfl ⟨rfl, ?_⟩
            rw [← hfin]
            exact HOR.out
end Go.Proofs.Ytfgabafbcephaaa.My

namespace Go.Proofs.Ytfgabafbcephaaa.My
open Go.RowKit Pa Go.Proofs.YtfgabafbcephaaaW.PrintWords

structure Fit (bs : List Int) (a : S36) : Prop where
  bm : bmay bs = true
  c : 0 ≤ a.f0 ∧ a.f0 ≤ 8192
  s : -1099511627776 * a.f0 ≤ a.f1 ∧ a.f1 ≤ 1099511627776 * a.f0
  len : a.f6.length = bs.length + 1
  h : ∀ i, i < a.f6.length → 0 ≤ a.f6.getD i 0 ∧ a.f6.getD i 0 ≤ a.f0

theorem sum_ge {h : List Int} (ha : ∀ x ∈ h, 0 ≤ x) : 0 ≤ h.sum ∧ ∀ i, i < h.length → h.getD i 0 ≤ h.sum := by
  induction h with
  | nil => exact ⟨by simp, fun i hi => absurd hi (by simp)⟩
  | cons x r ih =>
    obtain ⟨h1, h2⟩ := ih (fun y hy => ha y (List.mem_cons_of_mem _ hy))
    have h3 := ha x (List.mem_cons_self ..)
    rw [List.sum_cons]
    refine ⟨by omega, fun i hi => ?_⟩
    cases i with
    | zero => simp; omega
    | succ i =>
      have := h2 i (by simpa using hi)
      simp only [List.getD_cons_succ]
      omega
theorem getD_mem {h : List Int} {i : Nat} (hi : i < h.length) : h.getD i 0 ∈ h := by
  rw [List.getD_eq_getElem?_getD, List.getElem?_eq_getElem hi, Option.getD_some]
  exact List.getElem_mem hi
theorem mul_le {c m : Int} (h1 : 0 ≤ c) (h4 : m ≤ 1099511627776) : c * m ≤ 1099511627776 * c := by
  have e1 := Int.mul_le_mul_of_nonneg_left h4 h1
  omega
theorem mul_ge {c m : Int} (h1 : 0 ≤ c) (h4 : -1099511627776 ≤ m) : -1099511627776 * c ≤ c * m := by
  have e1 := Int.mul_le_mul_of_nonneg_left h4 h1
  omega

theorem amay_fit {a : S36} {bs : List Int} (h : amay a bs = true) : Fit bs a := by
  unfold amay at h
  simp only [Bool.and_eq_true, decide_eq_true_eq] at h
  obtain ⟨hb, hl, hh, h0, h8, hr⟩ := h
  unfold hmay at hh
  simp only [Bool.and_eq_true, decide_eq_true_eq, List.all_eq_true] at hh
  obtain ⟨⟨hn, hlen⟩, hs⟩ := hh
  have hnn : ∀ x ∈ a.f6, 0 ≤ x := fun x hx => by
    have := hn x hx
    unfold nok at this
    rw [decide_eq_true_eq] at this
    exact this.1
  obtain ⟨g1, g2⟩ := sum_ge hnn
  refine ⟨hb, ⟨h0, h8⟩, ?_, hlen, fun i hi => ⟨hnn _ (getD_mem hi), by rw [← hs]; exact g2 i hi⟩⟩
  by_cases hz : a.f0 = 0
  · rw [if_pos hz] at hr
    unfold bareB at hr
    simp only [Bool.and_eq_true, beq_iff_eq] at hr
    omega
  · rw [if_neg hz] at hr
    simp only [Bool.and_eq_true, decide_eq_true_eq] at hr
    obtain ⟨hw2, hw3, _, _, hs1, hs2⟩ := hr
    have w2 := wm_iff hw2
    have w3 := wm_iff hw3
    exact ⟨Int.le_trans (mul_ge h0 w2.1) hs1, Int.le_trans hs2 (mul_le h0 w3.2)⟩
end Go.Proofs.Ytfgabafbcephaaa.My

namespace Go.Proofs.Ytfgabafbcephaaa.My
open Go.RowKit Pa Go.Proofs.YtfgabafbcephaaaW.PrintWords

def cnt (xs : List S36) : Int := (xs.map (·.f0)).sum
def join0 (bs : List Int) : S36 := ⟨0, 0, 0, 0, z34, z34, List.replicate (bs.length + 1) 0⟩
def stepA (o a : S36) : S36 := if 0 < a.f0 then addA o a else o
def joinA (bs : List Int) (xs : List S36) : S36 := xs.foldl stepA (join0 bs)
def joinRes (bs : List Int) (xs : List S36) : S36 × Int := if allm bs (-1) xs = true then (if 8192 < cnt xs then (z36, 101) else (joinA bs xs, 0)) else (z36, 100)

theorem allm_all {bs : List Int} : ∀ {xs : List S36} {f : Int}, allm bs f xs = true → ∀ x ∈ xs, amay x bs = true
  | [], _, _, x, hx => absurd hx (by simp)
  | a :: r, f, h, x, hx => by
    unfold allm at h
    by_cases ha : amay a bs = true
    · rw [if_pos ha] at h
      rcases List.mem_cons.1 hx with rfl | hr
      · exact ha
      · by_cases h0 : 0 < a.f0
        · rw [if_pos h0] at h
          by_cases h1 : 0 ≤ f ∧ a.f4.f0 ≠ f
          · rw [if_pos h1] at h
            cases h
          · rw [if_neg h1] at h
            exact allm_all h x hr
        · rw [if_neg h0] at h
          exact allm_all h x hr
    · rw [if_neg ha] at h
      cases h

theorem join0_fit {bs : List Int} (h : bmay bs = true) : Fit bs (join0 bs) :=
  ⟨h, ⟨Int.le_refl _, by simp [join0]⟩, ⟨by simp [join0], by simp [join0]⟩, by simp [join0], fun i hi => by
    have hi' : i < bs.length + 1 := by simpa [join0] using hi
    simp [join0, List.getD_eq_getElem?_getD, hi']⟩
theorem addA_f0 (o x : S36) : (addA o x).f0 = o.f0 + x.f0 ∧ (addA o x).f1 = o.f1 + x.f1 ∧ (addA o x).f6 = hadd o.f6 x.f6 := by
  unfold addA add6 add5 add4 add3 fst_
  refine ⟨?_, ?_, rfl⟩ <;> (repeat' split) <;> rfl
theorem hadd_get {h n : List Int} (hl : n.length = h.length) {i : Nat} (hi : i < h.length) : (hadd h n).getD i 0 = h.getD i 0 + n.getD i 0 := by
  unfold hadd
  simp [List.getD_eq_getElem?_getD, List.getElem?_zipWith, List.getElem?_eq_getElem hi, List.getElem?_eq_getElem (show i < n.length by omega)]
theorem hadd_len {h n : List Int} (hl : n.length = h.length) : (hadd h n).length = h.length := by
  unfold hadd
  rw [List.length_zipWith]
  omega
theorem fit_add {bs : List Int} {o x : S36} (ho : Fit bs o) (hx : Fit bs x) (hc : o.f0 + x.f0 ≤ 8192) : Fit bs (addA o x) := by
  obtain ⟨e0, e1, e6⟩ := addA_f0 o x
  have hl : x.f6.length = o.f6.length := by rw [hx.len, ho.len]
  have hol := ho.len
  have hxl := hx.len
  have c1 := ho.c
  have c2 := hx.c
  have s1 := ho.s
  have s2 := hx.s
  refine ⟨ho.bm, by rw [e0]; omega, by rw [e0, e1]; omega, by rw [e6, hadd_len hl]; exact hol, fun i hi => ?_⟩
  rw [e6, hadd_len hl] at hi
  rw [e6, e0, hadd_get hl hi]
  have h1 := ho.h i hi
  have h2 := hx.h i (by omega)
  omega
theorem fit_ok {bs : List Int} {o x : S36} (ho : Fit bs o) (hx : Fit bs x) : AddOk o x := by
  have hol := ho.len
  have hxl := hx.len
  have c1 := ho.c
  have c2 := hx.c
  have s1 := ho.s
  have s2 := hx.s
  refine ⟨c1, c2, by omega, by omega, by omega, fun i hi => ?_, fun i hi => ?_⟩
  · have := ho.h i hi
    omega
  · have := hx.h i (by omega)
    omega

theorem cnt_take {bs : List Int} {xs : List S36} (ha : ∀ x ∈ xs, amay x bs = true) (k : Nat) : 0 ≤ cnt (xs.take k) ∧ cnt (xs.take k) ≤ cnt xs ∧ cnt (xs.take k) ≤ 8192 * k := by
  induction xs generalizing k with
  | nil => simp [cnt]; omega
  | cons x r ih =>
    have hx := (amay_fit (ha x (List.mem_cons_self ..))).c
    have ihr := ih (fun y hy => ha y (List.mem_cons_of_mem _ hy))
    cases k with
    | zero =>
      have h1 := ihr r.length
      rw [List.take_length] at h1
      simp only [List.take_zero, cnt, List.map_nil, List.sum_nil, List.map_cons, List.sum_cons] at *
      omega
    | succ k =>
      have h1 := ihr k
      simp only [List.take_succ_cons, cnt, List.map_cons, List.sum_cons] at *
      omega
theorem take_snoc {xs : List S36} {k : Nat} (hk : k < xs.length) : xs.take (k + 1) = xs.take k ++ [xs.getD k z36] := by
  rw [List.take_succ_eq_append_getElem hk, List.getD_eq_getElem?_getD, List.getElem?_eq_getElem hk, Option.getD_some]
theorem cnt_snoc {xs : List S36} {k : Nat} (hk : k < xs.length) : cnt (xs.take (k + 1)) = cnt (xs.take k) + (xs.getD k z36).f0 := by
  rw [take_snoc hk]
  simp [cnt]
theorem join_snoc {bs : List Int} {xs : List S36} {k : Nat} (hk : k < xs.length) : joinA bs (xs.take (k + 1)) = stepA (joinA bs (xs.take k)) (xs.getD k z36) := by
  rw [take_snoc hk]
  simp [joinA]
theorem getD_mem28 {xs : List S36} {k : Nat} (hk : k < xs.length) : xs.getD k z36 ∈ xs := by
  rw [List.getD_eq_getElem?_getD, List.getElem?_eq_getElem hk, Option.getD_some]
  exact List.getElem_mem hk
theorem stepA_f0 {bs : List Int} {o x : S36} (hx : Fit bs x) : (stepA o x).f0 = o.f0 + x.f0 := by
  unfold stepA
  split
  · exact (addA_f0 o x).1
  · have := hx.c
    omega
theorem join_fit {bs : List Int} {xs : List S36} (hb : bmay bs = true) (ha : ∀ x ∈ xs, amay x bs = true) (hc : cnt xs ≤ 8192) : ∀ k, k ≤ xs.length → Fit bs (joinA bs (xs.take k)) ∧ (joinA bs (xs.take k)).f0 = cnt (xs.take k)
  | 0, _ => ⟨by simpa [joinA] using join0_fit hb, by simp [joinA, join0, cnt]⟩
  | k + 1, hk => by
    obtain ⟨h1, h2⟩ := join_fit hb ha hc k (by omega)
    have hx := amay_fit (ha _ (getD_mem28 (show k < xs.length by omega)))
    have h3 := cnt_take ha (k + 1)
    rw [cnt_snoc (by omega)] at h3 ⊢
    rw [join_snoc (by omega)]
    refine ⟨?_, by rw [stepA_f0 hx, h2]⟩
    unfold stepA
    split
    · exact fit_add h1 hx (by omega)
    · exact h1
end Go.Proofs.Ytfgabafbcephaaa.My

namespace Go.Proofs.Ytfgabafbcephaaa.My
open Go.RowKit Pa Go.Proofs.YtfgabafbcephaaaW.PrintWords
attribute [local go_sem high] eqA34

theorem wp_make_ints {ops : Array Oper} {rest : List Oper} {o : Oper} {a : Act} {Q : Exit → Act → World → Prop} {w : World} (hg : o.guard = none) (l c : Operand) (hop : o.op = Op.makeSlice 22 l c) (n : Nat) (hn : n ≤ 1000) (L : Int) (hl : a.eval l = .int .i64 L) (hc : a.eval c = .int .i64 L) (hL : L = n)
    (hK : wpList Try.prog ops Q rest (a.put o.dst (.slice (some ⟨w.heap.size, 0, none⟩) n n)) (w.alloc (.cells (Array.replicate n (.int .i64 0)) 3))) : wpList Try.prog ops Q (o :: rest) a w := by
  refine wpList_plain hg fun K hK' => ?_
  subst hL
  unfold Oper.wp
  simp [execOp, hop, hl, hc, make_ints n hn w, Result.andThen]
  exact hK' _ _ hK

theorem allm_bm {bs : List Int} : ∀ {xs : List S36} {f : Int}, allm bs f xs = true → bmay bs = true
  | [], _, h => h
  | a :: r, f, h => by
    unfold allm at h
    by_cases ha : amay a bs = true
    · rw [if_pos ha] at h
      by_cases h0 : 0 < a.f0
      · rw [if_pos h0] at h
        by_cases h1 : 0 ≤ f ∧ a.f4.f0 ≠ f
        · rw [if_pos h1] at h
          cases h
        · rw [if_neg h1] at h
          exact allm_bm h
      · rw [if_neg h0] at h
        exact allm_bm h
    · rw [if_neg ha] at h
      cases h

set_option maxHeartbeats 8000000 in
set_option maxRecDepth 100000 in
theorem join_any (bs : List Int) (xs : List S36) (A1 : Option Addr) (c1 : Nat) (A : Option Addr) (c : Nat) (w : World) (hr : RdI w A1 bs) (hc : bs.length ≤ c1) (ha : RdA w A xs) (hl : xs.length ≤ 17592186044415) :
    Calls Try.prog 46 #[.slice A1 bs.length c1, .slice A xs.length c] w fun e w' => ∃ v, e = .returned (.tuple #[acV (joinRes bs xs).1 v, .int .i64 (joinRes bs xs).2]) ∧ Own w' w.heap.size v (joinRes bs xs).1.f6 ∧ Below w.heap.size w w' := by
  have hB : Below w.heap.size w (w.alloc (acO z36 (.slice none 0 0))) := (Below.refl w.heap.size w).alloc (Nat.le_refl _) _
  have hz : (w.alloc (acO z36 (.slice none 0 0))).heap[w.heap.size]? = some (acO z36 (.slice none 0 0)) := heap_alloc_new w _
  have HR := Lib.hid hr
  have HC := Lib.hid hc
  have HA := Lib.hid ha
  have HB := Lib.hid hB
  have HZ := Lib.hid hz
  clear hr hc ha hB hz
  go_enter Try.func46, Try.ntmps46
  go_wp2_with fail
  show Calls _ _ _ (w.alloc (acO z36 (.slice none 0 0))) _
  generalize w.alloc (acO z36 (.slice none 0 0)) = w1 at *
  refine (allmay_any bs xs A1 c1 A c _ (Kd.C_below HR.out HB.out) HC.out (HA.out.below HB.out) hl).mono ?_
  rintro e w2 ⟨rfl, hb⟩
  replace HZ := Lib.hid (blk_below HZ.out hb)
  replace HB := Lib.hid (HB.out.trans (hb.mono HB.out.size))
  clear hb
  by_cases h1 : allm bs (-1) xs = true
  · have hall := allm_all h1
    have hbm := allm_bm h1
    have H1 := Lib.hid h1
    have HALL := Lib.hid hall
    have HBM := Lib.hid hbm
    have hb8 := bmay_len hbm
    rw [h1]
    clear h1 hall hbm
    go_wp2_with fail
    go_loopw [6, 18] (fun s i wr => ∃ k : Nat, i = .int .i64 k ∧ s = .int .i64 (cnt (xs.take k)) ∧ k ≤ xs.length ∧ Below w.heap.size w wr ∧ wr.heap[w.heap.size]? = some (acO z36 (.slice none 0 0))) (fun _ i _ => xs.length - (intOf i).toNat)
    case atStart => exact ⟨0, rfl, by simp [cnt], by omega, HB.out, HZ.out⟩
    case round =>
      obtain ⟨k, rfl, rfl, hk, hb, hz⟩ := hrel
      have HB1 := Lib.hid hb
      have HZ1 := Lib.hid hz
      clear hb hz HB HZ
      obtain ⟨hc1, hc2, hc3⟩ := cnt_take HALL.out k
      by_cases hlt : k < xs.length
      · obtain ⟨b, o, rfl, hbs, hcells⟩ := HA.out (by omega)
        obtain ⟨Ah, ch, e0, e1, e2, e3, e4, e5, e6, e7, e8, e9, e10, e11, e12, hlh, hrh⟩ := (hcells k hlt).below HB1.out
        obtain ⟨f1, f2⟩ := (amay_fit (HALL.out _ (getD_mem28 hlt))).c
        have hsn := cnt_snoc hlt
        have HSN := Lib.hid hsn
        clear hsn
        generalize xs.getD k z36 = x at *
        generalize cnt (xs.take k) = s at *
        have hal : Below wr.heap.size wr (wr.alloc (acO x (.slice Ah x.f6.length ch))) := (Below.refl wr.heap.size wr).alloc (Nat.le_refl _) _
        have hv : (wr.alloc (acO x (.slice Ah x.f6.length ch))).heap[wr.heap.size]? = some (acO x (.slice Ah x.f6.length ch)) := heap_alloc_new wr _
        obtain ⟨a0, a1, a2, a3, a4, a5, a6, a7, a8, a9, a10, a11, a12, al⟩ := acO_facts hv
        have HB2 := Lib.hid (HB1.out.trans (hal.mono HB1.out.size))
        have HZ2 := Lib.hid (blk_below HZ1.out hal)
        clear hal hv hcells HB1 HZ1 hrh
        unfold acO at a0 a1 a2 a3 a4 a5 a6 a7 a8 a9 a10 a11 a12 al
        go_wp2_with fail
        exact ⟨⟨k + 1, by go_num, by rw [HSN.out], by omega, HB2.out, HZ2.out⟩, by simp [intOf]; omega⟩
      · obtain rfl : k = xs.length := by omega
        have hsum : cnt (xs.take xs.length) = cnt xs := by rw [List.take_length]
        rw [hsum] at hc1 hc3 ⊢
        clear hsum hc2
        by_cases h8 : 8192 < cnt xs
        · have hres : joinRes bs xs = (z36, 101) := by unfold joinRes; rw [if_pos H1.out, if_pos h8]
          have HRES := Lib.hid hres
          have hd : decide (8192 < cnt xs) = true := decide_eq_true h8
          clear hres h8
          obtain ⟨z0, z1, z2, z3, z4, z5, z6, z7, z8, z9, z10, z11, z12, zl⟩ := acO_facts HZ1.out
          have hf := fun j => blk_free HZ1.out j
          go_wp2_with fail
          show bodyPost _ _ _ _ _ (putA wr w.heap.size z36 (.slice none 0 0))
          have hz2 := putA_blk (a := z36) (v := .slice none 0 0) HZ1.out
          have hch := putA_chg wr w.heap.size z36 (.slice none 0 0)
          refine bodyPost_ret (results_acc rfl _ _ w.heap.size z36 (.slice none 0 0) rfl hz2) rfl ?_
          refine ⟨.slice none 0 0, ?_, ?_, ?_⟩
          · rw [HRES.out]; rfl
          · rw [HRES.out]; exact Own.nil _ _
          · exact Chg.base HB1.out hch HB1.out.size (fun i hi => by omega)
        · have hres : joinRes bs xs = (joinA bs xs, 0) := by unfold joinRes; rw [if_pos H1.out, if_neg h8]
          have HRES := Lib.hid hres
          have hd : decide (8192 < cnt xs) = false := decide_eq_false h8
          have H8 := Lib.hid (show cnt xs ≤ 8192 by omega)
          clear hres h8
          go_wp2_with (refine wp_make_ints rfl _ _ rfl (bs.length + 1) (by omega) _ rfl rfl (by omega) ?_)
          have hlj : (join0 bs).f6.length = bs.length + 1 := by simp [join0]
          generalize wr = wb at *
          have hal1 : Below wb.heap.size wb ((wb.alloc (.cells (Array.replicate (bs.length + 1) (.int .i64 0)) 3)).alloc (acO (join0 bs) (.slice (some ⟨wb.heap.size, 0, none⟩) (bs.length + 1) (bs.length + 1)))) := ((Below.refl wb.heap.size wb).alloc (Nat.le_refl _) _).alloc (by simp) _
          have hrow := blk_below (heap_alloc_new wb (.cells (Array.replicate (bs.length + 1) (.int .i64 0)) 3)) ((Below.refl (wb.alloc (.cells (Array.replicate (bs.length + 1) (.int .i64 0)) 3)).heap.size (wb.alloc (.cells (Array.replicate (bs.length + 1) (.int .i64 0)) 3))).alloc (Nat.le_refl _) (acO (join0 bs) (.slice (some ⟨wb.heap.size, 0, none⟩) (bs.length + 1) (bs.length + 1))))
          have hblk : ((wb.alloc (.cells (Array.replicate (bs.length + 1) (.int .i64 0)) 3)).alloc (acO (join0 bs) (.slice (some ⟨wb.heap.size, 0, none⟩) (bs.length + 1) (bs.length + 1)))).heap[wb.heap.size + 1]? = some (acO (join0 bs) (.slice (some ⟨wb.heap.size, 0, none⟩) (bs.length + 1) (bs.length + 1))) := by
            have := heap_alloc_new (wb.alloc (.cells (Array.replicate (bs.length + 1) (.int .i64 0)) 3)) (acO (join0 bs) (.slice (some ⟨wb.heap.size, 0, none⟩) (bs.length + 1) (bs.length + 1)))
            simpa using this
          have hout : OutAt wb ((wb.alloc (.cells (Array.replicate (bs.length + 1) (.int .i64 0)) 3)).alloc (acO (join0 bs) (.slice (some ⟨wb.heap.size, 0, none⟩) (bs.length + 1) (bs.length + 1)))) (wb.heap.size + 1) wb.heap.size (bs.length + 1) (join0 bs) := by
            refine ⟨by rw [hlj]; exact hblk, ?_, hal1, by omega⟩
            rw [hlj]
            exact made_own (bs.length + 1) (by omega) _ wb.heap.size hrow wb.heap.size (Nat.le_refl _)
          show Code.wp _ _ _ _ ((wb.alloc (.cells (Array.replicate (bs.length + 1) (.int .i64 0)) 3)).alloc (acO (join0 bs) (.slice (some ⟨wb.heap.size, 0, none⟩) (bs.length + 1) (bs.length + 1))))
          have HOUT := Lib.hid hout
          clear hal1 hrow hblk hout hlj hd
          generalize (wb.alloc (.cells (Array.replicate (bs.length + 1) (.int .i64 0)) 3)).alloc (acO (join0 bs) (.slice (some ⟨wb.heap.size, 0, none⟩) (bs.length + 1) (bs.length + 1))) = w5 at *
          go_loopw [37] (fun i wx => ∃ k : Nat, i = .int .i64 k ∧ k ≤ xs.length ∧ OutAt wb wx (wb.heap.size + 1) wb.heap.size (bs.length + 1) (joinA bs (xs.take k))) (fun i _ => xs.length - (intOf i).toNat)
          case atStart => exact ⟨0, rfl, by omega, HOUT.out⟩
          case round =>
            obtain ⟨k, rfl, hk, hoo⟩ := hrel
            have HOO := Lib.hid hoo
            clear hoo HOUT
            by_cases hlt : k < xs.length
            · obtain ⟨b, o, rfl, hbs, hcells⟩ := HA.out (by omega)
              have hx := (hcells k hlt).below HB1.out
              obtain ⟨Ah, ch, e0, _⟩ := hx.below HOO.out.bel
              have hfx := amay_fit (HALL.out _ (getD_mem28 hlt))
              have hfo := (join_fit HBM.out HALL.out H8.out k hk).1
              have hlen := hfo.len
              have HSN := Lib.hid (join_snoc (bs := bs) hlt)
              have HX := Lib.hid hx
              have HOK := Lib.hid (fit_ok hfo hfx)
              generalize xs.getD k z36 = x at *
              generalize joinA bs (xs.take k) = oj at *
              have h9 : oj.f6.length ≤ 9 := by omega
              clear hcells hx hfx hfo hlen
              by_cases h0 : 0 < x.f0
              · have hd : decide (0 < x.f0) = true := decide_eq_true h0
                have hst : stepA oj x = addA oj x := if_pos h0
                rw [hst] at HSN
                clear h0 hst
                go_wp2_with fail
                refine (add_any oj x wb _ _ _ _ b (o + k * 13) HOO.out HX.out HOK.out h9).mono ?_
                rintro e w6 ⟨rfl, ho6⟩
                have HO6 := Lib.hid ho6
                clear ho6 HOO
                go_wp2_with fail
                exact ⟨⟨k + 1, by go_num, by omega, by rw [HSN.out]; exact HO6.out⟩, by simp [intOf]; omega⟩
              · have hd : decide (0 < x.f0) = false := decide_eq_false h0
                have hst : stepA oj x = oj := if_neg h0
                rw [hst] at HSN
                clear h0 hst
                go_wp2_with fail
                exact ⟨⟨k + 1, by go_num, by omega, by rw [HSN.out]; exact HOO.out⟩, by simp [intOf]; omega⟩
            · obtain rfl : k = xs.length := by omega
              have hoo := HOO.out
              rw [List.take_length] at hoo
              generalize joinA bs xs = oj at *
              have hzr := blk_below HZ1.out hoo.bel
              have hres := blk_lt HZ1.out
              obtain ⟨a0, a1, a2, a3, a4, a5, a6, a7, a8, a9, a10, a11, a12, al⟩ := acO_facts hoo.blk
              obtain ⟨z0, z1, z2, z3, z4, z5, z6, z7, z8, z9, z10, z11, z12, zl⟩ := acO_facts hzr
              have hf := fun j => blk_free hzr j
              have HOF := Lib.hid hoo
              have HZR := Lib.hid hzr
              clear hoo hzr HOO
              go_wp2_with fail
              show bodyPost _ _ _ _ _ (putA wr w.heap.size oj (.slice (some ⟨wb.heap.size, 0, none⟩) oj.f6.length (bs.length + 1)))
              have hz2 := putA_blk (a := oj) (v := .slice (some ⟨wb.heap.size, 0, none⟩) oj.f6.length (bs.length + 1)) HZR.out
              have hch := putA_chg wr w.heap.size oj (.slice (some ⟨wb.heap.size, 0, none⟩) oj.f6.length (bs.length + 1))
              refine bodyPost_ret (results_acc rfl _ _ w.heap.size oj (.slice (some ⟨wb.heap.size, 0, none⟩) oj.f6.length (bs.length + 1)) rfl hz2) rfl ?_
              refine ⟨.slice (some ⟨wb.heap.size, 0, none⟩) oj.f6.length (bs.length + 1), ?_, ?_, ?_⟩
              · rw [HRES.out]; rfl
              · rw [HRES.out]
                refine own_weaken (HOF.out.row.keep hch (fun k hk e => ?_)) (by omega)
                have e1 : wb.heap.size = k := by simpa [Value.ownBlock] using hk
                omega
              · have hb2 := HB1.out.trans (HOF.out.bel.mono HB1.out.size)
                exact Chg.base hb2 hch hb2.size (fun i hi => by omega)
  · have h1' := bne_ h1
    have hres : joinRes bs xs = (z36, 100) := by unfold joinRes; rw [if_neg h1]
    have HRES := Lib.hid hres
    rw [h1']
    clear hres h1 h1'
    obtain ⟨z0, z1, z2, z3, z4, z5, z6, z7, z8, z9, z10, z11, z12, zl⟩ := acO_facts HZ.out
    have hf := fun j => blk_free HZ.out j
    go_wp2_with fail
    show bodyPost _ _ _ _ _ (putA w2 w.heap.size z36 (.slice none 0 0))
    have hz2 := putA_blk (a := z36) (v := .slice none 0 0) HZ.out
    have hch := putA_chg w2 w.heap.size z36 (.slice none 0 0)
    refine bodyPost_ret (results_acc rfl _ _ w.heap.size z36 (.slice none 0 0) rfl hz2) rfl ?_
    refine ⟨.slice none 0 0, ?_, ?_, ?_⟩
    · rw [HRES.out]; rfl
    · rw [HRES.out]; exact Own.nil _ _
    · exact Chg.base HB.out hch HB.out.size (fun i hi => by omega)
theorem joinRes_len {bs : List Int} {xs : List S36} {a : S36} (h : joinRes bs xs = (a, 0)) (hb : bmay bs = true) : a.f6.length ≤ 9 := by
  unfold joinRes at h
  split at h
  · rename_i ha
    split at h
    · injection h with _ h2
      exact absurd h2 (by decide)
    · rename_i h8
      injection h with h1 h2
      have hf := (join_fit hb (allm_all ha) (by omega) xs.length (Nat.le_refl _)).1
      rw [List.take_length, h1] at hf
      have := hf.len
      have := bmay_len hb
      omega
  · injection h with _ h2
    exact absurd h2 (by decide)
end Go.Proofs.Ytfgabafbcephaaa.My

namespace Go.Proofs.Ytfgabafbcephaaa.My
open Go.RowKit Pa Go.Proofs.YtfgabafbcephaaaW.PrintWords
attribute [local go_sem high] eqA34

set_option maxHeartbeats 2000000 in
set_option maxRecDepth 100000 in
theorem one_any (x : S34) (bs : List Int) (A : Option Addr) (c : Nat) (w : World) (hr : RdI w A bs) (hc : bs.length ≤ c) :
    Calls Try.prog 60 #[.agg #[.int .i64 x.f0, .int .i64 x.f1, .int .i64 x.f2, .int .i64 x.f3], .slice A bs.length c] w fun e w' => ∃ v, e = .returned (.tuple #[acV (oneRes x bs).1 v, .int .i64 (oneRes x bs).2]) ∧ Own w' w.heap.size v (oneRes x bs).1.f6 ∧ Below w.heap.size w w' := by
  have HR := Lib.hid hr
  have HC := Lib.hid hc
  clear hr hc
  go_enter Try.func60, Try.ntmps60
  go_wp2_with fail
  have hx : ((w.alloc (itO x)).alloc (acO z36 (.slice none 0 0))).heap[w.heap.size]? = some (itO x) := blk_below (heap_alloc_new w (itO x)) ((Below.refl _ _).alloc (Nat.le_refl _) _)
  have hz : ((w.alloc (itO x)).alloc (acO z36 (.slice none 0 0))).heap[w.heap.size + 1]? = some (acO z36 (.slice none 0 0)) := by
    have := heap_alloc_new (w.alloc (itO x)) (acO z36 (.slice none 0 0))
    simpa using this
  have hB : Below w.heap.size w ((w.alloc (itO x)).alloc (acO z36 (.slice none 0 0))) := ((Below.refl w.heap.size w).alloc (Nat.le_refl _) _).alloc (by simp) _
  refine (im_any x _).mono ?_
  rintro e w1 ⟨rfl, hb⟩
  have HX := Lib.hid (blk_below hx hb)
  have HZ := Lib.hid (blk_below hz hb)
  have HB1 := Lib.hid (hB.trans (hb.mono hB.size))
  clear hx hz hB hb
  by_cases h1 : imay x = true
  · rw [h1]
    go_wp2_with fail
    refine (bm_any bs A c _ (Kd.C_below HR.out HB1.out) HC.out).mono ?_
    rintro e w2 ⟨rfl, hb⟩
    replace HX := Lib.hid (blk_below HX.out hb)
    replace HZ := Lib.hid (blk_below HZ.out hb)
    replace HB1 := Lib.hid (HB1.out.trans (hb.mono HB1.out.size))
    clear hb
    by_cases h2 : bmay bs = true
    · have hl := bmay_len h2
      have hres : oneRes x bs = (one x bs, 0) := by unfold oneRes; rw [h1, h2]; rfl
      have HRES := Lib.hid hres
      rw [h2]
      clear hres h1 h2
      obtain ⟨x0, x1, x2, x3, xl⟩ := itO_facts HX.out
      go_wp2_with fail
      refine Txt.wp_region_mix (by kernel_rfl) (by kernel_rfl) (fun HB => ?_)
      repeat (first
        | (refine Txt.mix_p (by rfl) rfl rfl (fun K hK => ?_); go_big_quiet_op; refine hK _ ?_; clear hK K)
        | (refine Txt.mix_re (by rfl) (by decide +kernel) (by rfl) (by rfl) (by go_simp) HB (fun K hK => ?_); go_big_quiet_op; refine hK _ ?_; clear hK K)
        | (refine Txt.mix_rl (by rfl) (by decide +kernel) (by rfl) (by rfl) (by go_simp) HB (fun K hK => ?_); go_big_quiet_op; refine hK _ ?_; clear hK K)
        | (refine Txt.mix_pass (by rfl) (by rfl) ?_; simp only [List.set_cons_succ, List.set_cons_zero]))
      refine Txt.mix_m (fun g => .slice (some ⟨g, 0, none⟩) (bs.length + 1) (bs.length + 1)) (.cells (Array.replicate (bs.length + 1) (.int .i64 0)) 3) (by rfl) (by decide +kernel) (fun w1 => by
        go_simp
        rw [show ((bs.length : Int) + 1) = ((bs.length + 1 : Nat) : Int) by omega, make_ints _ (by omega)]
        rfl) HB ?_
      intro gb w3 hb2 hg2 ho2
      replace HB := HB.trans hb2
      have HG := Lib.hid ho2
      have HGB := Lib.hid hg2
      clear hb2 ho2 hg2
      simp only [Act.put, List.setIfInBounds_toArray, List.set_cons_succ, List.set_cons_zero]
      repeat (first
        | (refine Txt.mix_p (by rfl) rfl rfl (fun K hK => ?_); go_big_quiet_op; refine hK _ ?_; clear hK K)
        | (refine Txt.mix_re (by rfl) (by decide +kernel) (by rfl) (by rfl) (by go_simp) HB (fun K hK => ?_); go_big_quiet_op; refine hK _ ?_; clear hK K)
        | (refine Txt.mix_rl (by rfl) (by decide +kernel) (by rfl) (by rfl) (by go_simp) HB (fun K hK => ?_); go_big_quiet_op; refine hK _ ?_; clear hK K)
        | (refine Txt.mix_pass (by rfl) (by rfl) ?_; simp only [List.set_cons_succ, List.set_cons_zero]))
      refine Txt.mix_m (fun g => .pointer (some ⟨g, 0, none⟩)) (acO z36 (.slice none 0 0)) (by rfl) (by decide +kernel) (fun w1 => by unfold acO; go_simp; rfl) HB ?_
      intro oa w4 hb4 hg4 ho4
      replace HG := Lib.hid (blk_below HG.out hb4)
      replace HB := HB.trans hb4
      have HOA := Lib.hid hg4
      clear hb4 hg4
      simp only [Act.put, List.setIfInBounds_toArray, List.set_cons_succ, List.set_cons_zero]
      repeat (first
        | (refine Txt.mix_p (by rfl) rfl rfl (fun K hK => ?_); go_big_quiet_op; refine hK _ ?_; clear hK K)
        | (refine Txt.mix_re (by rfl) (by decide +kernel) (by rfl) (by rfl) (by go_simp) HB (fun K hK => ?_); go_big_quiet_op; refine hK _ ?_; clear hK K)
        | (refine Txt.mix_rl (by rfl) (by decide +kernel) (by rfl) (by rfl) (by go_simp) HB (fun K hK => ?_); go_big_quiet_op; refine hK _ ?_; clear hK K)
        | (refine Txt.mix_pass (by rfl) (by rfl) ?_; simp only [List.set_cons_succ, List.set_cons_zero]))
      refine Txt.mix_a (by rfl) (by decide +kernel) (fun K hK => ?_)
      obtain ⟨z0, z1, z2, z3, z4, z5, z6, z7, z8, z9, z10, z11, z12, zl⟩ := acO_facts ho4
      have hf := fun j => blk_free ho4 j
      go_wp2_with fail
      clear z0 z1 z2 z3 z4 z5 z6 z7 z8 z9 z10 z11 z12 zl hf x0 x1 x2 x3 xl
      show Txt.wpMix _ _ _ _ _ _ _ (putA w4 oa ⟨1, x.f3, x.f3, x.f3, x, x, []⟩ (.slice (some ⟨gb, 0, none⟩) (bs.length + 1) (bs.length + 1)))
      have ho5 := putA_blk (a := ⟨1, x.f3, x.f3, x.f3, x, x, []⟩) (v := .slice (some ⟨gb, 0, none⟩) (bs.length + 1) (bs.length + 1)) ho4
      have hc5 := putA_chg w4 oa ⟨1, x.f3, x.f3, x.f3, x, x, []⟩ (.slice (some ⟨gb, 0, none⟩) (bs.length + 1) (bs.length + 1))
      have hne : gb ≠ oa := fun e => by
        have h5 := HG.out
        rw [e, ho4] at h5
        unfold acO at h5
        injection h5 with h5
        injection h5 with _ h5
        exact absurd h5 (by decide)
      have hl2 := blk_lt HX.out
      have hl3 := blk_lt HZ.out
      have hoa : w2.heap.size ≤ oa := HOA.out
      have hgb : w2.heap.size ≤ gb := HGB.out
      have HX5 := Lib.hid (hc5.obj (blk_below HX.out HB.undrew) (by omega))
      have HZ5 := Lib.hid (hc5.obj (blk_below HZ.out HB.undrew) (by omega))
      have HG5 := Lib.hid (hc5.obj HG.out hne)
      have HB5 := Lib.hid (Chg.base (HB1.out.trans (HB.undrew.mono HB1.out.size)) hc5 (Nat.le_trans HB1.out.size HB.undrew.size) (fun i hi => by have := HB1.out.size; omega))
      have HO5 := Lib.hid ho5
      have HNE := Lib.hid (And.intro hne (And.intro (show w.heap.size + 1 ≠ oa by omega) (And.intro (show w.heap.size + 1 ≠ gb by omega) (show w.heap.size ≤ gb by omega))))
      clear ho5 hc5 hne hl2 hl3 hoa hgb HX HZ HG HB HB1 HGB HOA ho4
      generalize putA w4 oa ⟨1, x.f3, x.f3, x.f3, x, x, []⟩ (.slice (some ⟨gb, 0, none⟩) (bs.length + 1) (bs.length + 1)) = w5 at *
      refine Txt.mix_nil ?_
      obtain ⟨x0, x1, x2, x3, xl⟩ := itO_facts HX5.out
      obtain ⟨z0, z1, z2, z3, z4, z5, z6, z7, z8, z9, z10, z11, z12, zl⟩ := acO_facts HO5.out
      go_wp2_with fail
      refine Txt.wp_region_mix (by kernel_rfl) (by kernel_rfl) (fun HB => ?_)
      repeat (first
        | (refine Txt.mix_p (by rfl) rfl rfl (fun K hK => ?_); go_big_quiet_op; refine hK _ ?_; clear hK K)
        | (refine Txt.mix_re (by rfl) (by decide +kernel) (by rfl) (by rfl) (by go_simp) HB (fun K hK => ?_); go_big_quiet_op; refine hK _ ?_; clear hK K)
        | (refine Txt.mix_rl (by rfl) (by decide +kernel) (by rfl) (by rfl) (by go_simp) HB (fun K hK => ?_); go_big_quiet_op; refine hK _ ?_; clear hK K)
        | (refine Txt.mix_pass (by rfl) (by rfl) ?_; simp only [List.set_cons_succ, List.set_cons_zero]))
      refine Txt.mix_c (by rfl) (by decide +kernel) HB ?_
      intro w6 hw6 K hK
      replace HB := HB.trans hw6
      clear hw6
      go_wp2_with fail
      refine (bucket_any bs x.f3 A c _ (Kd.C_below (Kd.C_below HR.out HB5.out) HB.undrew) HC.out hl).mono ?_
      rintro e w7 ⟨rfl, hb⟩
      refine hK _ _ ⟨hb, ?_⟩
      replace HB := HB.trans hb
      clear hK K hb
      have hbk := bucket_le bs x.f3
      generalize hbe : bucket bs x.f3 = bk at *
      repeat (first
        | (refine Txt.mix_p (by rfl) rfl rfl (fun K hK => ?_); go_big_quiet_op; refine hK _ ?_; clear hK K)
        | (refine Txt.mix_re (by rfl) (by decide +kernel) (by rfl) (by rfl) (by go_simp) HB (fun K hK => ?_); go_big_quiet_op; refine hK _ ?_; clear hK K)
        | (refine Txt.mix_rl (by rfl) (by decide +kernel) (by rfl) (by rfl) (by go_simp) HB (fun K hK => ?_); go_big_quiet_op; refine hK _ ?_; clear hK K)
        | (refine Txt.mix_pass (by rfl) (by rfl) ?_; simp only [List.set_cons_succ, List.set_cons_zero]))
      refine Txt.mix_a (by rfl) (by decide +kernel) (fun K hK => ?_)
      have hg7 := blk_below HG5.out HB.undrew
      have hf := fun j => blk_free hg7 j
      have hgl := blk_lt hg7
      have hcl : w7.cell? ⟨gb, bk, none⟩ = some (.int .i64 0) := (blk_cell hg7 bk).trans (by rw [Array.getElem?_replicate, if_pos (by omega)])
      have HGW := Lib.hid hg7
      clear hg7
      go_wp2_with fail
      refine Txt.mix_nil ?_
      have hnn := HNE.out
      have hc8 := (Chg.refl (fun k => k = gb) w7).setCell (p := ⟨gb, bk, none⟩) (.inl rfl) (.int .i64 1)
      have ho8 := hc8.obj (blk_below HO5.out HB.undrew) (fun e => hnn.1 e.symm)
      have hz8 := hc8.obj (blk_below HZ5.out HB.undrew) hnn.2.2.1
      have hown : Own (w7.setCell ⟨gb, bk, none⟩ (.int .i64 1)) w.heap.size (.slice (some ⟨gb, 0, none⟩) (bs.length + 1) (bs.length + 1)) ((List.replicate (bs.length + 1) 0).set bk 1) := by
        have h0 := made_own (bs.length + 1) (by omega) w7 gb HGW.out w.heap.size hnn.2.2.2
        unfold Own at h0 ⊢
        rw [List.length_replicate] at h0
        have h1 := (World.ownsRow.stored h0 bk (.int .i64 1)).1
        rw [List.length_set, List.length_replicate, List.map_set]
        exact h1
      have hb8 := Chg.base (HB5.out.trans (HB.undrew.mono HB5.out.size)) hc8 (Nat.le_trans HB5.out.size HB.undrew.size) (fun i hi => by omega)
      have HOWN := Lib.hid hown
      have HB8 := Lib.hid hb8
      have HZ8 := Lib.hid hz8
      have hlz := blk_lt hz8
      clear hown hb8 hc8 HX5 HZ5 HG5 HB5 HO5 HB HGW hf hgl hcl x0 x1 x2 x3 xl
      clear z0 z1 z2 z3 z4 z5 z6 z7 z8 z9 z10 z11 z12 zl
      generalize w7.setCell ⟨gb, bk, none⟩ (.int .i64 1) = w8 at *
      obtain ⟨o0, o1, o2, o3, o4, o5, o6, o7, o8, o9, o10, o11, o12, ol⟩ := acO_facts ho8
      obtain ⟨z0, z1, z2, z3, z4, z5, z6, z7, z8, z9, z10, z11, z12, zl⟩ := acO_facts hz8
      have hf := fun j => blk_free hz8 j
      clear ho8 hz8
      go_wp2_with fail
      show bodyPost _ _ _ _ _ (putA w8 (w.heap.size + 1) ⟨1, x.f3, x.f3, x.f3, x, x, []⟩ (.slice (some ⟨gb, 0, none⟩) (bs.length + 1) (bs.length + 1)))
      have hz2 := putA_blk (a := ⟨1, x.f3, x.f3, x.f3, x, x, []⟩) (v := .slice (some ⟨gb, 0, none⟩) (bs.length + 1) (bs.length + 1)) HZ8.out
      have hch := putA_chg w8 (w.heap.size + 1) ⟨1, x.f3, x.f3, x.f3, x, x, []⟩ (.slice (some ⟨gb, 0, none⟩) (bs.length + 1) (bs.length + 1))
      refine bodyPost_ret (results_acc rfl _ _ (w.heap.size + 1) ⟨1, x.f3, x.f3, x.f3, x, x, []⟩ (.slice (some ⟨gb, 0, none⟩) (bs.length + 1) (bs.length + 1)) rfl hz2) rfl ?_
      refine ⟨.slice (some ⟨gb, 0, none⟩) (bs.length + 1) (bs.length + 1), ?_, ?_, ?_⟩
      · rw [HRES.out]; rfl
      · rw [HRES.out]
        have := HOWN.out.keep hch (fun k hk e => by
          have e1 : gb = k := by simpa [Value.ownBlock] using hk
          omega)
        rw [← hbe] at this
        exact this
      · have := HB8.out.size
        exact Chg.base HB8.out hch this (fun i hi => by omega)
    · have h2' : bmay bs = false := by
        cases h' : bmay bs
        · rfl
        · exact absurd h' h2
      have hres : oneRes x bs = (z36, 100) := by unfold oneRes; rw [h1, h2']; rfl
      have HRES := Lib.hid hres
      clear hres h1 h2
      rw [h2']
      obtain ⟨z0, z1, z2, z3, z4, z5, z6, z7, z8, z9, z10, z11, z12, zl⟩ := acO_facts HZ.out
      have hf := fun j => blk_free HZ.out j
      go_wp2_with fail
      show bodyPost _ _ _ _ _ (putA w2 (w.heap.size + 1) z36 (.slice none 0 0))
      have hz2 := putA_blk (a := z36) (v := .slice none 0 0) HZ.out
      have hc2 := HB1.out.size
      have hch := putA_chg w2 (w.heap.size + 1) z36 (.slice none 0 0)
      refine bodyPost_ret (results_acc rfl _ _ (w.heap.size + 1) z36 (.slice none 0 0) rfl hz2) rfl ?_
      refine ⟨.slice none 0 0, ?_, ?_, ?_⟩
      · rw [HRES.out]; rfl
      · rw [HRES.out]; exact Own.nil _ _
      · exact Chg.base HB1.out hch (by omega) (fun i hi => by omega)
  · have h1' : imay x = false := by
      cases h' : imay x
      · rfl
      · exact absurd h' h1
    have hres : oneRes x bs = (z36, 100) := by unfold oneRes; rw [h1']; rfl
    have HRES := Lib.hid hres
    clear hres h1
    rw [h1']
    obtain ⟨z0, z1, z2, z3, z4, z5, z6, z7, z8, z9, z10, z11, z12, zl⟩ := acO_facts HZ.out
    have hf := fun j => blk_free HZ.out j
    go_wp2_with fail
    show bodyPost _ _ _ _ _ (putA w1 (w.heap.size + 1) z36 (.slice none 0 0))
    have hz2 := putA_blk (a := z36) (v := .slice none 0 0) HZ.out
    have hc2 := HB1.out.size
    have hch := putA_chg w1 (w.heap.size + 1) z36 (.slice none 0 0)
    refine bodyPost_ret (results_acc rfl _ _ (w.heap.size + 1) z36 (.slice none 0 0) rfl hz2) rfl ?_
    refine ⟨.slice none 0 0, ?_, ?_, ?_⟩
    · rw [HRES.out]; rfl
    · rw [HRES.out]; exact Own.nil _ _
    · exact Chg.base HB1.out hch (by omega) (fun i hi => by omega)
end Go.Proofs.Ytfgabafbcephaaa.My

namespace Go.Proofs.Ytfgabafbcephaaa.My
open Go.RowKit Pa Go.Proofs.YtfgabafbcephaaaW.PrintWords

theorem same_f (a : S36) (hl : a.f6.length ≤ 17592186044415) : bournelaw0_SameAcc.f (a.f6.length + 1) a.f0 a.f1 a.f2 a.f3 a.f4.f0 a.f4.f1 a.f4.f2 a.f4.f3 a.f5.f0 a.f5.f1 a.f5.f2 a.f5.f3 a.f6 a.f0 a.f1 a.f2 a.f3 a.f4.f0 a.f4.f1 a.f4.f2 a.f4.f3 a.f5.f0 a.f5.f1 a.f5.f2 a.f5.f3 a.f6 = some true := by
  unfold bournelaw0_SameAcc.f bournelaw0_SameInts.f
  have h := same_loop a.f6 hl a.f6.length 0 (a.f6.length + 1) (by omega) (by omega)
  simp only [Int.natCast_zero] at h
  simp [h]
theorem same_yes (a : S36) (A B : Option Addr) (c d : Nat) (w : World) (hA : RdI w A a.f6) (hc : a.f6.length ≤ c) (hB : RdI w B a.f6) (hd : a.f6.length ≤ d) (hl : a.f6.length ≤ 17592186044415) :
    Calls Try.prog 17 #[acV a (.slice A a.f6.length c), acV a (.slice B a.f6.length d)] w fun e w' => e = .returned (.bool true) ∧ Below w.heap.size w w' :=
  bournelaw0_SameAcc.calls (a.f6.length + 1) _ _ _ _ _ _ _ _ _ _ _ _ A c a.f6 _ _ _ _ _ _ _ _ _ _ _ _ B d a.f6 true w hA hc hB hd (same_f a hl)

theorem rdA_nil (w : World) (A : Option Addr) : RdA w A [] := fun h => absurd h (by simp)
end Go.Proofs.Ytfgabafbcephaaa.My

namespace Go.Proofs.Ytfgabafbcephaaa.My
open Go.RowKit Pa Go.Proofs.YtfgabafbcephaaaW.PrintWords

def accC (x : S36) (v : Value) : List Value := [.int .i64 x.f0, .int .i64 x.f1, .int .i64 x.f2, .int .i64 x.f3, .int .i64 x.f4.f0, .int .i64 x.f4.f1, .int .i64 x.f4.f2, .int .i64 x.f4.f3, .int .i64 x.f5.f0, .int .i64 x.f5.f1, .int .i64 x.f5.f2, .int .i64 x.f5.f3, v]
structure RowA (w : World) (v : Value) (xs : List S36) (cs : List Value) : Prop where
  own : w.ownsRow 0 36 13 v xs.length cs
  el : ∀ i, i < xs.length → ∃ u, Own w 0 u (xs.getD i z36).f6 ∧ ∀ j, j < 13 → cs[i * 13 + j]? = (accC (xs.getD i z36) u)[j]?
theorem RowA.nil (w : World) : RowA w (.slice none 0 0) [] [] := ⟨World.ownsRow_nil _ _ _ _, fun i hi => absurd hi (by simp)⟩
theorem RowA.below {w w1 : World} {v : Value} {xs : List S36} {cs : List Value} (h : RowA w v xs cs) (hb : Below w.heap.size w w1) : RowA w1 v xs cs :=
  ⟨row_keep (S := fun _ => False) h.own (Chg.of_below hb) (fun _ _ h => h), fun i hi => by
    obtain ⟨u, h1, h2⟩ := h.el i hi
    exact ⟨u, h1.below hb, h2⟩⟩
theorem RowA.reads {w : World} {v : Value} {xs : List S36} {cs : List Value} (h : RowA w v xs cs) : ∃ A c, v = .slice A xs.length c ∧ RdA w A xs := by
  rcases h.own.2 with ⟨e, h0⟩ | ⟨b, cap, cur, e, hb, hcur, _⟩
  · refine ⟨none, 0, by rw [e, h0], fun hp => absurd hp (by omega)⟩
  · refine ⟨_, cap, e, fun _ => ⟨b, 0, rfl, blk_lt hcur, fun i hi => ?_⟩⟩
    obtain ⟨u, h1, h2⟩ := h.el i hi
    obtain ⟨A, c, hu, hl, hr⟩ := h1.reads
    subst hu
    have hc : ∀ j, j < 13 → ∀ x, (accC (xs.getD i z36) (.slice A (xs.getD i z36).f6.length c))[j]? = some x → w.cell? ⟨b, 0 + i * 13 + j, none⟩ = some x := fun j hj x hx => by
      have h3 := h.own.cells (g := b) (by rw [e]; rfl) (i * 13 + j) x ((h2 j hj).trans hx)
      rwa [add_plain, show i * 13 + j = 0 + i * 13 + j by omega] at h3
    exact ⟨A, c, hc 0 (by omega) _ rfl, hc 1 (by omega) _ rfl, hc 2 (by omega) _ rfl, hc 3 (by omega) _ rfl, hc 4 (by omega) _ rfl, hc 5 (by omega) _ rfl, hc 6 (by omega) _ rfl, hc 7 (by omega) _ rfl, hc 8 (by omega) _ rfl, hc 9 (by omega) _ rfl, hc 10 (by omega) _ rfl, hc 11 (by omega) _ rfl, hc 12 (by omega) _ rfl, hl, hr⟩
theorem info_acc : (Try.prog.info? 36).map (fun i => (i.zero, i.size, i.bytes)) = some (some (.agg #[.int .i64 0, .int .i64 0, .int .i64 0, .int .i64 0, .int .i64 0, .int .i64 0, .int .i64 0, .int .i64 0, .int .i64 0, .int .i64 0, .int .i64 0, .int .i64 0, .slice none 0 0]), 13, 120) := by kernel_rfl
def AtAppend (P : Program) (ops : Array Oper) (Q : Exit → Act → World → Prop) (o : Oper) (rest : List Oper) (a : Act) (w : World) : Prop := wpList P ops Q (o :: rest) a w
theorem at_append {P : Program} {ops : Array Oper} {Q : Exit → Act → World → Prop} {o : Oper} {rest : List Oper} {a : Act} {w : World} (s x : Operand) (t : TypeId)
    (_ : o.op = .call { callee := .builtin .append, args := #[s, x], argTypes := #[t, t] }) (h : AtAppend P ops Q o rest a w) : wpList P ops Q (o :: rest) a w := h
theorem accC_len (x : S36) (u : Value) : (accC x u).length = 13 := rfl
theorem Own.grown {w w1 : World} {u v : Value} {h : List Int} {n : Nat} {cs : List Value} (ho : Own w 0 u h) (hr : w.ownsRow 0 36 13 v n cs) (hg : w.grownBy w1 v.ownBlock) : Own w1 0 u h := by
  rcases own_type_ne ho hr (by decide) with hn | hn
  · exact ho.keep (S := fun k => some k = v.ownBlock) ((Chg.refl _ w).grown hg (fun k hk => .inl hk.symm)) (fun k hk => by rw [hn] at hk; cases hk)
  · exact ho.keep (S := fun k => some k = v.ownBlock) ((Chg.refl _ w).grown hg (fun k hk => .inl hk.symm)) (fun k hk e => hn (hk.trans e))
theorem RowA.snoc {w w1 : World} {v v1 : Value} {xs : List S36} {cs : List Value} (L : RowA w v xs cs) (y : S36) (u : Value) (hu : Own w 0 u y.f6) (hr : w1.ownsRow 0 36 13 v1 (xs.length + 1) (cs ++ accC y u)) (hg : w.grownBy w1 v.ownBlock) : RowA w1 v1 (xs ++ [y]) (cs ++ accC y u) := by
  have hcl : cs.length = xs.length * 13 := L.own.1
  refine ⟨by rw [List.length_append]; exact hr, fun i hi => ?_⟩
  rw [List.length_append, List.length_singleton] at hi
  by_cases hlt : i < xs.length
  · obtain ⟨u1, h1, h2⟩ := L.el i hlt
    have e : (xs ++ [y]).getD i z36 = xs.getD i z36 := by
      rw [List.getD_eq_getElem?_getD, List.getD_eq_getElem?_getD, List.getElem?_append_left hlt]
    rw [e]
    exact ⟨u1, h1.grown L.own hg, fun j hj => by rw [List.getElem?_append_left (by omega)]; exact h2 j hj⟩
  · obtain rfl : i = xs.length := by omega
    have e : (xs ++ [y]).getD xs.length z36 = y := by
      rw [List.getD_eq_getElem?_getD, List.getElem?_append_right (Nat.le_refl _), Nat.sub_self]
      rfl
    rw [e]
    exact ⟨u, hu.grown L.own hg, fun j hj => by rw [List.getElem?_append_right (by omega), show xs.length * 13 + j - cs.length = j by omega]⟩
theorem RowA.append {ops : Array Oper} {Q : Exit → Act → World → Prop} {o : Oper} {rest : List Oper} {a : Act} {w : World} {v : Value} {xs : List S36} {cs : List Value} (s x : Operand)
    (hgd : o.guard = none) (ho : o.op = .call { callee := .builtin .append, args := #[s, x], argTypes := #[23, 23] })
    (L : RowA w v xs cs) (hs : a.eval s = v) (b : Nat) (y : S36) (u : Value) (c : Nat) (hx : a.eval x = .slice (some ⟨b, 0, none⟩) 1 c)
    (hb : w.heap[b]? = some (acO y u)) (hu : Own w 0 u y.f6) (hu1 : u.oneCell' = true) (hl : (xs.length + 1) * 120 ≤ 140737488355328)
    (h : ∀ v1 w1, RowA w1 v1 (xs ++ [y]) (cs ++ accC y u) → w.grownBy w1 v.ownBlock → (v1.ownBlock = v.ownBlock ∨ v1.ownBlock = some w.heap.size) → wpList Try.prog ops Q rest (a.put o.dst v1) w1) : AtAppend Try.prog ops Q o rest a w := by
  unfold AtAppend
  refine wpList_plain hgd fun K hK => ?_
  obtain ⟨i0, hi, hzz⟩ := Option.map_eq_some_iff.1 info_acc
  simp only [Prod.mk.injEq] at hzz
  obtain ⟨hz0, hz1, hz2⟩ := hzz
  have ha : ∀ j, (⟨b, 0, none⟩ : Addr).add j = ⟨b, j, none⟩ := fun j => add_plain b j
  obtain ⟨v1, w1, hr, h2, h3, _, h5⟩ := run_append_own_at (P := Try.prog) w 0 23 o.type 36 i0 _ 13 120 Try.underlying23 hi hz0 hz1 hz2 rfl (by decide) v xs.length cs L.own ⟨b, 0, none⟩ 1 c (accC y u) (accC_len y u) (fun j x hx => by
    rw [ha, blk_cell hb]
    exact (List.getElem?_toArray ..).trans hx) (fun x hx => by
    simp only [accC, List.mem_cons, List.not_mem_nil, or_false] at hx
    rcases hx with rfl | rfl | rfl | rfl | rfl | rfl | rfl | rfl | rfl | rfl | rfl | rfl | rfl <;> first | rfl | exact hu1) (by simp only [maxLen]; omega) hl (Nat.zero_le _)
  unfold Oper.wp execOp
  simp only [ho, resolve, invoke, builtin, Sem.run_bind, Sem.run_pure, Result.andThen_ok, List.map_toArray, List.map_cons, List.map_nil, hs, hx, hr]
  exact hK _ _ (h v1 w1 (L.snoc y u hu h2 h3) h3 h5)
end Go.Proofs.Ytfgabafbcephaaa.My

namespace Go.Proofs.Ytfgabafbcephaaa.My
open Go.RowKit Pa Go.Proofs.YtfgabafbcephaaaW.PrintWords
set_option linter.unusedSimpArgs false

theorem spot_none {w : World} {a : Addr} {v : Value} (h : w.cell? a = some v) : a.spot = none := by
  unfold World.cell? at h
  split at h
  · split at h
    · cases h
    · rename_i hs
      cases e : a.spot with
      | none => rfl
      | some s => rw [e] at hs; exact absurd rfl hs
  · cases h
end Go.Proofs.Ytfgabafbcephaaa.My

namespace Go.Proofs.Ytfgabafbcephaaa.My
open Go.RowKit Go.ChangeShapes Go.WideShapes Go.Deep Go.Joins Pa Go.Proofs.YtfgabafbcephaaaW.PrintWords

theorem add_none (b o k : Nat) : (⟨b, o, none⟩ : Addr).add k = ⟨b, o + k, none⟩ := by unfold Addr.add; split <;> simp_all
theorem weightsAll_mem {H : Type} {P : Program} {e : TypeId} : ∀ {ds : List (DataW H)} {d : DataW H}, d ∈ ds → ∀ n ∈ d.weights P e, n ∈ DataW.weightsAll P e ds
  | a :: r, d, hd, n, hn => by
    simp only [DataW.weightsAll, List.mem_append]
    rcases List.mem_cons.1 hd with rfl | h
    · exact .inl hn
    · exact .inr (weightsAll_mem h n hn)
section
variable {H : Type} {enc : TypeId × Value → H} {W : World} {fuel base : Nat} {spare : Nat → Bool} {held : Bool} {x : DataW H × List MemPlace}

end
end Go.Proofs.Ytfgabafbcephaaa.My

namespace Go.Proofs.Ytfgabafbcephaaa.My
open Go.RowKit Pa Go.Proofs.YtfgabafbcephaaaW.PrintWords

structure AtOp (ops : Array Oper) (Q : Exit → Act → World → Prop) (o : Oper) (rest : List Oper) (a : Act) (w : World) : Prop where
  mk :: (out : wpList Try.prog ops Q (o :: rest) a w)
theorem at_load {ops : Array Oper} {Q : Exit → Act → World → Prop} {o : Oper} {rest : List Oper} {a : Act} {w : World} (s : Tmp) (_ : o.op = Op.load 36 (.tmp s)) (h : AtOp ops Q o rest a w) : wpList Try.prog ops Q (o :: rest) a w := h.out
end Go.Proofs.Ytfgabafbcephaaa.My

namespace Go.Proofs.Ytfgabafbcephaaa.My
open Go.RowKit Pa Go.Proofs.YtfgabafbcephaaaW.PrintWords Go.Proofs.YtfgabafbcephaaaW.PrintMore
attribute [local go_sem high] eqA34
attribute [local go_sem] max2_int min2_int max_two min_two

def bef (a b : S34) : Bool := decide (a.f1 < b.f1) || (decide (a.f1 = b.f1) && decide (a.f2 < b.f2))
theorem bef_f (a b : S34) : bourneref1_Before.f a.f0 a.f1 a.f2 a.f3 b.f0 b.f1 b.f2 b.f3 = some (bef a b) := by
  unfold bourneref1_Before.f bef
  by_cases h1 : a.f1 < b.f1
  · simp [h1]
  · by_cases h2 : a.f1 = b.f1 <;> simp [h1, h2]
theorem bef_any (a b : S34) (w : World) :
    Calls Try.prog 91 #[.agg #[.int .i64 a.f0, .int .i64 a.f1, .int .i64 a.f2, .int .i64 a.f3], .agg #[.int .i64 b.f0, .int .i64 b.f1, .int .i64 b.f2, .int .i64 b.f3]] w fun e w' => e = .returned (.bool (bef a b)) ∧ Below w.heap.size w w' :=
  bourneref1_Before.calls _ _ _ _ _ _ _ _ _ w (bef_f a b)
def tw0 (a b : S36) : S36 := ⟨a.f0 + b.f0, a.f1 + b.f1, if b.f2 < a.f2 then b.f2 else a.f2, if a.f3 < b.f3 then b.f3 else a.f3, a.f4, b.f5, []⟩
def tw1 (a b : S36) : S36 := if bef b.f4 a.f4 = true then ⟨(tw0 a b).f0, (tw0 a b).f1, (tw0 a b).f2, (tw0 a b).f3, b.f4, b.f5, []⟩ else tw0 a b
def tw2 (a b : S36) : S36 := if bef b.f5 a.f5 = true then ⟨(tw1 a b).f0, (tw1 a b).f1, (tw1 a b).f2, (tw1 a b).f3, (tw1 a b).f4, a.f5, []⟩ else tw1 a b
def tw3 (o : S36) (h : List Int) : S36 := ⟨o.f0, o.f1, o.f2, o.f3, o.f4, o.f5, h⟩
def twoA (a b : S36) : S36 := tw3 (tw2 a b) (hadd a.f6 b.f6)
structure TwoOk (a b : S36) : Prop where
  c1 : -1000000 ≤ a.f0 ∧ a.f0 ≤ 1000000
  c2 : -1000000 ≤ b.f0 ∧ b.f0 ≤ 1000000
  s1 : -1152921504606846976 ≤ a.f1 ∧ a.f1 ≤ 1152921504606846976
  s2 : -1152921504606846976 ≤ b.f1 ∧ b.f1 ≤ 1152921504606846976
  len : b.f6.length = a.f6.length
  l9 : a.f6.length ≤ 9
  h1 : ∀ i, i < a.f6.length → -1000000 ≤ a.f6.getD i 0 ∧ a.f6.getD i 0 ≤ 1000000
  h2 : ∀ i, i < a.f6.length → -1000000 ≤ b.f6.getD i 0 ∧ b.f6.getD i 0 ≤ 1000000
instance (a b : S36) : Decidable (TwoOk a b) :=
  decidable_of_iff ((-1000000 ≤ a.f0 ∧ a.f0 ≤ 1000000) ∧ (-1000000 ≤ b.f0 ∧ b.f0 ≤ 1000000) ∧ (-1152921504606846976 ≤ a.f1 ∧ a.f1 ≤ 1152921504606846976) ∧ (-1152921504606846976 ≤ b.f1 ∧ b.f1 ≤ 1152921504606846976) ∧ b.f6.length = a.f6.length ∧ a.f6.length ≤ 9 ∧ (∀ i, i < a.f6.length → -1000000 ≤ a.f6.getD i 0 ∧ a.f6.getD i 0 ≤ 1000000) ∧ (∀ i, i < a.f6.length → -1000000 ≤ b.f6.getD i 0 ∧ b.f6.getD i 0 ≤ 1000000))
    ⟨fun ⟨h1, h2, h3, h4, h5, h6, h7, h8⟩ => ⟨h1, h2, h3, h4, h5, h6, h7, h8⟩, fun ⟨h1, h2, h3, h4, h5, h6, h7, h8⟩ => ⟨h1, h2, h3, h4, h5, h6, h7, h8⟩⟩
theorem tw_f6 (a b : S36) : (tw2 a b).f6 = [] := by unfold tw2; split <;> (try unfold tw1) <;> (try split) <;> rfl
theorem hadd_take {h n : List Int} (hl : n.length = h.length) {k : Nat} (hk : k < h.length) : (hadd h n).take (k + 1) = (hadd h n).take k ++ [h.getD k 0 + n.getD k 0] := by
  have hlen : (hadd h n).length = h.length := by unfold hadd; rw [List.length_zipWith]; omega
  rw [List.take_succ_eq_append_getElem (by omega)]
  congr 2
  unfold hadd
  simp [List.getD_eq_getElem?_getD, List.getElem?_eq_getElem hk, List.getElem?_eq_getElem (show k < n.length by omega)]

theorem wp_append {P : Program} {o : Oper} {a : Act} {w : World} {K : Act → World → Prop} {Q : Exit → Act → World → Prop} (s x : Operand) (t e : TypeId) (z : Value) (size bytes base : Nat)
    (ho : o.op = .call { callee := .builtin .append, args := #[s, x], argTypes := #[t, t] })
    (ht : P.underlying t = some (.slice e)) (hinfo : (P.info? e).map (fun i => (i.zero, i.size, i.bytes)) = some (some z, size, bytes)) (hz : z.cells.size = size) (hsz : 0 < size)
    (v : Value) (n m : Nat) (xs news : List Value) (g c : Nat) (hs : a.eval s = v) (hx : a.eval x = .slice (some ⟨g, 0, none⟩) m c)
    (hown : w.ownsRow base e size v n xs) (hbase : base ≤ w.heap.size) (hl : news.length = m * size) (hnews : ∀ j u, news[j]? = some u → w.cell? ⟨g, j, none⟩ = some u) (h1 : ∀ u ∈ news, u.oneCell' = true) (hb : (n + m) * bytes ≤ 140737488355328) (h63 : n + m ≤ 9223372036854775807)
    (h : ∀ v1 w1, w1.ownsRow base e size v1 (n + m) (xs ++ news) → w.grownBy w1 v.ownBlock → (v1.ownBlock = v.ownBlock ∨ v1.ownBlock = some w.heap.size) → K (a.put o.dst v1) w1) : o.wp P a w K Q := by
  obtain ⟨i0, hi, hzz⟩ := Option.map_eq_some_iff.1 hinfo
  simp only [Prod.mk.injEq] at hzz
  obtain ⟨hz0, hz1, hz2⟩ := hzz
  have ha : ∀ j, (⟨g, 0, none⟩ : Addr).add j = ⟨g, j, none⟩ := fun j => by unfold Addr.add; split <;> simp_all
  obtain ⟨v1, w1, hr, h2, h3, _, h5⟩ := run_append_own_at (P := P) w base t o.type e i0 z size bytes ht hi hz0 hz1 hz2 hz hsz v n xs hown ⟨g, 0, none⟩ m c news hl (fun j u hu => by rw [ha]; exact hnews j u hu) h1 (by simp only [maxLen]; omega) hb hbase
  unfold Oper.wp execOp
  simp only [ho, resolve, invoke, builtin, Sem.run_bind, Sem.run_pure, Result.andThen_ok, List.map_toArray, List.map_cons, List.map_nil, hs, hx, hr]
  exact h v1 w1 h2 h3 h5

structure TwAt (w0 w : World) (g : Nat) (o : S36) (h : List Int) (v : Value) : Prop where
  blk : w.heap[g]? = some (acO (tw3 o h) v)
  row : Own w w0.heap.size v h
  bel : Below w0.heap.size w0 w
structure TwIn (w : World) (g : Nat) (a b : S36) (Aa : Option Addr) (ca : Nat) (Ab : Option Addr) (cb : Nat) : Prop where
  ga : w.heap[g]? = some (acO a (.slice Aa a.f6.length ca))
  gb : w.heap[g + 1]? = some (acO b (.slice Ab b.f6.length cb))
  go : w.heap[g + 2]? = some (acO z36 (.slice none 0 0))
theorem own_no {w : World} {base g : Nat} {v u : Value} {h : List Int} {a : S36} (ho : Own w base v h) (hg : w.heap[g]? = some (acO a u)) : ¬ some g = v.ownBlock := by
  rcases ho.2 with ⟨e, _⟩ | ⟨b, cap, cur, e, _, hh, _⟩
  · rw [e]
    intro h
    cases h
  · rw [e]
    intro h
    have e2 : some g = some b := h
    injection e2 with e2
    rw [e2, hh] at hg
    unfold acO at hg
    injection hg with hg
    injection hg with _ ht
    exact absurd ht (by decide)
theorem TwAt.below {w0 w w1 : World} {g : Nat} {o : S36} {h : List Int} {v : Value} (t : TwAt w0 w g o h v) (hb : Below w.heap.size w w1) : TwAt w0 w1 g o h v := ⟨blk_below t.blk hb, t.row.below hb, t.bel.trans (hb.mono t.bel.size)⟩
theorem TwIn.below {w w1 : World} {g : Nat} {a b : S36} {Aa : Option Addr} {ca : Nat} {Ab : Option Addr} {cb : Nat} (t : TwIn w g a b Aa ca Ab cb) (hb : Below w.heap.size w w1) : TwIn w1 g a b Aa ca Ab cb := ⟨blk_below t.ga hb, blk_below t.gb hb, blk_below t.go hb⟩
theorem TwIn.chg {S : Nat → Prop} {w w1 : World} {g : Nat} {a b : S36} {Aa : Option Addr} {ca : Nat} {Ab : Option Addr} {cb : Nat} (t : TwIn w g a b Aa ca Ab cb) (hc : Chg S w w1) (h0 : ¬ S g) (h1 : ¬ S (g + 1)) (h2 : ¬ S (g + 2)) : TwIn w1 g a b Aa ca Ab cb := ⟨hc.obj t.ga h0, hc.obj t.gb h1, hc.obj t.go h2⟩
set_option maxHeartbeats 8000000 in
set_option maxRecDepth 100000 in
theorem two_any (a b : S36) (Aa : Option Addr) (ca : Nat) (Ab : Option Addr) (cb : Nat) (w : World) (ha : RdI w Aa a.f6) (hb : RdI w Ab b.f6) (hk : TwoOk a b) :
    Calls Try.prog 76 #[acV a (.slice Aa a.f6.length ca), acV b (.slice Ab b.f6.length cb)] w fun e w' => ∃ v, e = .returned (acV (twoA a b) v) ∧ Own w' w.heap.size v (twoA a b).f6 ∧ Below w.heap.size w w' := by
  have HA := Lib.hid ha
  have HBB := Lib.hid hb
  have HK := Lib.hid hk
  clear ha hb hk
  obtain ⟨w3, hw3⟩ : ∃ w3, w3 = ((w.alloc (acO a (.slice Aa a.f6.length ca))).alloc (acO b (.slice Ab b.f6.length cb))).alloc (acO z36 (.slice none 0 0)) := ⟨_, rfl⟩
  have hB : Below w.heap.size w w3 := by rw [hw3]; exact (((Below.refl w.heap.size w).alloc (Nat.le_refl _) _).alloc (by simp) _).alloc (by simp; omega) _
  have hga : w3.heap[w.heap.size]? = some (acO a (.slice Aa a.f6.length ca)) := by rw [hw3]; exact blk_below (heap_alloc_new w _) (((Below.refl _ _).alloc (Nat.le_refl _) _).alloc (by simp) _)
  have hgb : w3.heap[w.heap.size + 1]? = some (acO b (.slice Ab b.f6.length cb)) := by
    rw [hw3]
    have := blk_below (heap_alloc_new (w.alloc (acO a (.slice Aa a.f6.length ca))) (acO b (.slice Ab b.f6.length cb))) ((Below.refl _ _).alloc (Nat.le_refl _) (acO z36 (.slice none 0 0)))
    simpa using this
  have hgo : w3.heap[w.heap.size + 2]? = some (acO z36 (.slice none 0 0)) := by
    rw [hw3]
    have := heap_alloc_new ((w.alloc (acO a (.slice Aa a.f6.length ca))).alloc (acO b (.slice Ab b.f6.length cb))) (acO z36 (.slice none 0 0))
    simpa using this
  have hs3 : w3.heap.size = w.heap.size + 3 := by rw [hw3]; simp
  have HB := Lib.hid hB
  have HGA := Lib.hid hga
  have HGB := Lib.hid hgb
  have HGO := Lib.hid hgo
  have HS := Lib.hid hs3
  have HW3 := Lib.hid hw3
  clear hB hga hgb hgo hs3 hw3
  obtain ⟨hc1, hc2⟩ := HK.out.c1
  obtain ⟨hc3, hc4⟩ := HK.out.c2
  obtain ⟨hs1, hs2⟩ := HK.out.s1
  obtain ⟨hs5, hs6⟩ := HK.out.s2
  obtain ⟨m2, hm2⟩ : ∃ m, (if b.f2 < a.f2 then b.f2 else a.f2) = m := ⟨_, rfl⟩
  obtain ⟨m3, hm3⟩ : ∃ m, (if a.f3 < b.f3 then b.f3 else a.f3) = m := ⟨_, rfl⟩
  have H0 := Lib.hid (show tw0 a b = ⟨a.f0 + b.f0, a.f1 + b.f1, m2, m3, a.f4, b.f5, []⟩ by unfold tw0; rw [hm2, hm3])
  unfold acV
  go_enter Try.func76, Try.ntmps76
  go_wp2_with fail
  show Calls _ _ _ (((((w.alloc (acO a (.slice Aa a.f6.length ca))).alloc (acO b (.slice Ab b.f6.length cb))).alloc (acO z36 (.slice none 0 0)))).alloc (acO ⟨a.f0 + b.f0, a.f1 + b.f1, m2, m3, a.f4, b.f5, []⟩ (.slice none 0 0))) _
  rw [← H0.out, ← HW3.out]
  clear hc1 hc2 hc3 hc4 hs1 hs2 hs5 hs6 hm2 hm3 HW3
  have hb4 : Below w3.heap.size w3 (w3.alloc (acO (tw0 a b) (.slice none 0 0))) := (Below.refl _ _).alloc (Nat.le_refl _) _
  have HC4 := Lib.hid (show (w3.alloc (acO (tw0 a b) (.slice none 0 0))).heap[w.heap.size + 3]? = some (acO (tw0 a b) (.slice none 0 0)) by rw [← HS.out]; exact heap_alloc_new w3 _)
  have HGA4 := Lib.hid (blk_below HGA.out hb4)
  have HGB4 := Lib.hid (blk_below HGB.out hb4)
  have HGO4 := Lib.hid (blk_below HGO.out hb4)
  have HB4 := Lib.hid (HB.out.trans (hb4.mono HB.out.size))
  clear hb4 HGA HGB HGO HB HS
  generalize w3.alloc (acO (tw0 a b) (.slice none 0 0)) = w4 at *
  refine (bef_any b.f4 a.f4 _).mono ?_
  rintro e w5 ⟨rfl, hb⟩
  have HC5 := Lib.hid (blk_below HC4.out hb)
  have HGA5 := Lib.hid (blk_below HGA4.out hb)
  have HGB5 := Lib.hid (blk_below HGB4.out hb)
  have HGO5 := Lib.hid (blk_below HGO4.out hb)
  have HB5 := Lib.hid (HB4.out.trans (hb.mono HB4.out.size))
  clear hb HC4 HGA4 HGB4 HGO4 HB4
  obtain ⟨c0, c1, c2, c3, c4, c5, c6, c7, c8, c9, c10, c11, c12, cl⟩ := acO_facts HC5.out
  obtain ⟨a0, a1, a2, a3, a4, a5, a6, a7, a8, a9, a10, a11, a12, al⟩ := acO_facts HGA5.out
  obtain ⟨b0, b1, b2, b3, b4, b5, b6, b7, b8, b9, b10, b11, b12, bl⟩ := acO_facts HGB5.out
  have hf := fun j => blk_free HC5.out j
  have htw1 : tw1 a b = if bef b.f4 a.f4 = true then ⟨(tw0 a b).f0, (tw0 a b).f1, (tw0 a b).f2, (tw0 a b).f3, b.f4, b.f5, []⟩ else tw0 a b := rfl
  have H1 := Lib.hid htw1
  clear htw1
  generalize bef b.f4 a.f4 = q1 at *
  cases q1
  focus
    have h9 := H1.out
    rw [if_neg (by decide)] at h9
    rw [← h9] at HC5
    clear H1 h9
    go_wp2_with fail
    clear a0 a1 a2 a3 a4 a5 a6 a7 a8 a9 a10 a11 a12 al b0 b1 b2 b3 b4 b5 b6 b7 b8 b9 b10 b11 b12 bl c0 c1 c2 c3 c4 c5 c6 c7 c8 c9 c10 c11 c12 cl hf
    have HC6 := Lib.hid HC5.out
    have HGA6 := Lib.hid HGA5.out
    have HGB6 := Lib.hid HGB5.out
    have HGO6 := Lib.hid HGO5.out
    have HB6 := Lib.hid HB5.out
    clear HC5 HGA5 HGB5 HGO5 HB5
    generalize w5 = w6 at *
  rotate_left 1
  focus
    have h9 := H1.out
    rw [if_pos rfl] at h9
    have H9 := Lib.hid h9
    clear H1 h9
    go_wp2_with fail
    show Calls _ _ _ (put4c w5 (w.heap.size + 3) 4 b.f4) _
    have hbk := blk_put4 HC5.out 4 b.f4
    simp only [List.setIfInBounds_toArray, List.set_cons_zero, List.set_cons_succ] at hbk
    have hch := put4c_chg (Chg.refl (fun k => k = w.heap.size + 3) w5) 4 b.f4
    have HC6 := Lib.hid (show (put4c w5 (w.heap.size + 3) 4 b.f4).heap[w.heap.size + 3]? = some (acO (tw1 a b) (.slice none 0 0)) by rw [H9.out]; exact hbk)
    have HGA6 := Lib.hid (hch.obj HGA5.out (by omega))
    have HGB6 := Lib.hid (hch.obj HGB5.out (by omega))
    have HGO6 := Lib.hid (hch.obj HGO5.out (by omega))
    have HB6 := Lib.hid (Chg.base HB5.out hch HB5.out.size (fun i hi => by omega))
    clear hbk hch a0 a1 a2 a3 a4 a5 a6 a7 a8 a9 a10 a11 a12 al b0 b1 b2 b3 b4 b5 b6 b7 b8 b9 b10 b11 b12 bl c0 c1 c2 c3 c4 c5 c6 c7 c8 c9 c10 c11 c12 cl hf H9 HC5 HGA5 HGB5 HGO5 HB5
    generalize put4c w5 (w.heap.size + 3) 4 b.f4 = w6 at *
  all_goals
    refine (bef_any b.f5 a.f5 _).mono ?_
    rintro e w7 ⟨rfl, hb⟩
    have HC7 := Lib.hid (blk_below HC6.out hb)
    have HGA7 := Lib.hid (blk_below HGA6.out hb)
    have HGB7 := Lib.hid (blk_below HGB6.out hb)
    have HGO7 := Lib.hid (blk_below HGO6.out hb)
    have HB7 := Lib.hid (HB6.out.trans (hb.mono HB6.out.size))
    clear hb HC6 HGA6 HGB6 HGO6 HB6
    obtain ⟨c0, c1, c2, c3, c4, c5, c6, c7, c8, c9, c10, c11, c12, cl⟩ := acO_facts HC7.out
    obtain ⟨a0, a1, a2, a3, a4, a5, a6, a7, a8, a9, a10, a11, a12, al⟩ := acO_facts HGA7.out
    have hf := fun j => blk_free HC7.out j
    have htw2 : tw2 a b = if bef b.f5 a.f5 = true then ⟨(tw1 a b).f0, (tw1 a b).f1, (tw1 a b).f2, (tw1 a b).f3, (tw1 a b).f4, a.f5, []⟩ else tw1 a b := rfl
    have H2 := Lib.hid htw2
    clear htw2
    generalize bef b.f5 a.f5 = q2 at *
    cases q2
    focus
      have h9 := H2.out
      rw [if_neg (by decide)] at h9
      rw [← h9] at HC7
      clear H2 h9
      go_wp2_with fail
      clear a0 a1 a2 a3 a4 a5 a6 a7 a8 a9 a10 a11 a12 al c0 c1 c2 c3 c4 c5 c6 c7 c8 c9 c10 c11 c12 cl hf
      have HC8 := Lib.hid HC7.out
      have HGA8 := Lib.hid HGA7.out
      have HGB8 := Lib.hid HGB7.out
      have HGO8 := Lib.hid HGO7.out
      have HB8 := Lib.hid HB7.out
      clear HC7 HGA7 HGB7 HGO7 HB7
      generalize w7 = w8 at *
    rotate_left 1
    focus
      have h9 := H2.out
      rw [if_pos rfl] at h9
      have H9 := Lib.hid h9
      clear H2 h9
      go_wp2_with fail
      show Code.wp _ _ _ _ (put4c w7 (w.heap.size + 3) 8 a.f5)
      have hbk := blk_put4 HC7.out 8 a.f5
      simp only [List.setIfInBounds_toArray, List.set_cons_zero, List.set_cons_succ] at hbk
      have hch := put4c_chg (Chg.refl (fun k => k = w.heap.size + 3) w7) 8 a.f5
      have HC8 := Lib.hid (show (put4c w7 (w.heap.size + 3) 8 a.f5).heap[w.heap.size + 3]? = some (acO (tw2 a b) (.slice none 0 0)) by rw [H9.out]; exact hbk)
      have HGA8 := Lib.hid (hch.obj HGA7.out (by omega))
      have HGB8 := Lib.hid (hch.obj HGB7.out (by omega))
      have HGO8 := Lib.hid (hch.obj HGO7.out (by omega))
      have HB8 := Lib.hid (Chg.base HB7.out hch HB7.out.size (fun i hi => by omega))
      clear hbk hch a0 a1 a2 a3 a4 a5 a6 a7 a8 a9 a10 a11 a12 al c0 c1 c2 c3 c4 c5 c6 c7 c8 c9 c10 c11 c12 cl hf H9 HC7 HGA7 HGB7 HGO7 HB7
      generalize put4c w7 (w.heap.size + 3) 8 a.f5 = w8 at *
    all_goals
      go_loopw [6] (fun s wr => ∃ (k : Nat) (v : Value), s = .int .i64 k ∧ k ≤ a.f6.length ∧ TwAt w wr (w.heap.size + 3) (tw2 a b) ((hadd a.f6 b.f6).take k) v ∧ TwIn wr w.heap.size a b Aa ca Ab cb) (fun s _ => a.f6.length - (intOf s).toNat)
      case atStart =>
        refine ⟨0, .slice none 0 0, rfl, by omega, ⟨?_, Own.nil _ _, HB8.out⟩, HGA8.out, HGB8.out, HGO8.out⟩
        rw [HC8.out]
        congr 2
        unfold tw3
        have := tw_f6 a b
        cases htw : tw2 a b
        rw [htw] at this
        simp only at this
        subst this
        rfl
      case round =>
        obtain ⟨k, v, rfl, hk, ht, hin⟩ := hrel
        have HT := Lib.hid ht
        have HIN := Lib.hid hin
        have hl := HK.out.len
        have hl9 := HK.out.l9
        have HL := Lib.hid hl
        clear ht hin hl
        have hgl := blk_lt HT.out.blk
        obtain ⟨c0, c1, c2, c3, c4, c5, c6, c7, c8, c9, c10, c11, c12, cl⟩ := acO_facts HT.out.blk
        obtain ⟨a0, a1, a2, a3, a4, a5, a6, a7, a8, a9, a10, a11, a12, al⟩ := acO_facts HIN.out.ga
        obtain ⟨b0, b1, b2, b3, b4, b5, b6, b7, b8, b9, b10, b11, b12, bl⟩ := acO_facts HIN.out.gb
        obtain ⟨z0, z1, z2, z3, z4, z5, z6, z7, z8, z9, z10, z11, z12, zl⟩ := acO_facts HIN.out.go
        clear c0 c1 c2 c3 c4 c5 c6 c7 c8 c9 c10 c11 a0 a1 a2 a3 a4 a5 a6 a7 a8 a9 a10 a11 b0 b1 b2 b3 b4 b5 b6 b7 b8 b9 b10 b11
        by_cases hlt : k < a.f6.length
        · clear z0 z1 z2 z3 z4 z5 z6 z7 z8 z9 z10 z11 z12 zl
          obtain ⟨ada, rfl, ea⟩ := ((HA.out).below HT.out.bel).at_ hlt
          have hltb : k < b.f6.length := by have := HL.out; omega
          obtain ⟨adb, rfl, eb⟩ := ((HBB.out).below HT.out.bel).at_ hltb
          obtain ⟨n1, n2⟩ := HK.out.h1 k hlt
          obtain ⟨n3, n4⟩ := HK.out.h2 k hlt
          have hsn := hadd_take HL.out hlt
          obtain ⟨na, hna⟩ : ∃ n, a.f6.getD k 0 = n := ⟨_, rfl⟩
          obtain ⟨nb, hnb⟩ : ∃ n, b.f6.getD k 0 = n := ⟨_, rfl⟩
          rw [hna] at ea n1 n2 hsn
          rw [hnb] at eb n3 n4 hsn
          have HSN := Lib.hid hsn
          clear hsn hna hnb
          have hda : decide (k < a.f6.length) = true := decide_eq_true hlt
          have hdb : decide (k < b.f6.length) = true := decide_eq_true hltb
          go_wp2_with fail
          refine Txt.wp_region_mix (by kernel_rfl) (by kernel_rfl) (fun HB => ?_)
          repeat (first
            | (refine Txt.mix_p (by rfl) rfl rfl (fun K hK => ?_); go_big_quiet_op; refine hK _ ?_; clear hK K)
            | (refine Txt.mix_re (by rfl) (by decide +kernel) (by rfl) (by rfl) (by go_simp) HB (fun K hK => ?_); go_big_quiet_op; refine hK _ ?_; clear hK K)
            | (refine Txt.mix_rl (by rfl) (by decide +kernel) (by rfl) (by rfl) (by go_simp) HB (fun K hK => ?_); go_big_quiet_op; refine hK _ ?_; clear hK K)
            | (refine Txt.mix_pass (by rfl) (by rfl) ?_; simp only [List.set_cons_succ, List.set_cons_zero]))
          refine Txt.mix_m (fun g => .slice (some ⟨g, 0, none⟩) 1 1) (.cells #[.int .i64 (na + nb)] 3) (by rfl) (by decide +kernel) (fun w1 => by go_simp) HB ?_
          intro gn wn hbn hgn hon
          replace HB := HB.trans hbn
          simp only [Act.put, List.setIfInBounds_toArray, List.set_cons_succ, List.set_cons_zero]
          have HT2 := Lib.hid (HT.out.below HB.undrew)
          have HIN2 := Lib.hid (HIN.out.below HB.undrew)
          have HON := Lib.hid hon
          clear hon hgn hbn HT HIN c12 cl a12 al b12 bl ea eb hda hdb hgl
          have hlk : ((hadd a.f6 b.f6).take k).length = k := by
            rw [List.length_take]
            have : (hadd a.f6 b.f6).length = a.f6.length := by unfold hadd; rw [List.length_zipWith]; have := HL.out; omega
            omega
          have HLK := Lib.hid hlk
          clear hlk
          refine Txt.mix_a (by rfl) (by decide +kernel) (fun K hK => ?_)
          refine wp_append (.tmp 56) (.tmp 68) 22 3 (.int .i64 0) 1 8 w.heap.size rfl Try.underlying22 info_int rfl (by decide) v k 1 (((hadd a.f6 b.f6).take k).map (Value.int .i64)) [.int .i64 (na + nb)] gn 1 rfl rfl (by have := HT2.out.row; unfold Own at this; rw [HLK.out] at this; exact this) HT2.out.bel.size rfl ?_ ?_ (by omega) (by omega) ?_
          · intro j u hu
            rw [blk_cell HON.out]
            exact (List.getElem?_toArray).trans hu
          · intro u hu
            simp only [List.mem_cons, List.not_mem_nil, or_false] at hu
            subst hu
            rfl
          intro v1 w1 hown hgr hat
          refine hK _ _ ?_
          clear hK K
          simp only [Act.put, List.setIfInBounds_toArray, List.set_cons_succ, List.set_cons_zero]
          have hch : Chg (fun i => some i = v.ownBlock) wn w1 := (Chg.refl _ wn).grown hgr (fun j hj => .inl hj.symm)
          have hblk := hch.obj HT2.out.blk (own_no HT2.out.row HT2.out.blk)
          have HIN3 := Lib.hid (HIN2.out.chg hch (own_no HT2.out.row HIN2.out.ga) (own_no HT2.out.row HIN2.out.gb) (own_no HT2.out.row HIN2.out.go))
          have hrow : Own w1 w.heap.size v1 ((hadd a.f6 b.f6).take (k + 1)) := by
            rw [HSN.out]
            unfold Own
            rw [List.length_append, HLK.out, List.map_append]
            exact hown
          obtain ⟨Ar, cr, rfl, _, _⟩ := hrow.reads
          obtain ⟨lr, hlr⟩ : ∃ n, ((hadd a.f6 b.f6).take (k + 1)).length = n := ⟨_, rfl⟩
          rw [hlr] at hrow hown ⊢
          clear hlr
          have hb1 := Chg.base HT2.out.bel hch HT2.out.bel.size (fun i hi => own_base HT2.out.row i hi.symm)
          have HROW := Lib.hid hrow
          have HB1 := Lib.hid hb1
          have HBLK := Lib.hid hblk
          have hc12 := (acO_facts hblk).2.2.2.2.2.2.2.2.2.2.2.2.1
          have hf := fun j => blk_free hblk j
          clear hown hgr hat hch hrow hb1 HT2 HIN2 HON hblk HB
          repeat (first
            | (refine Txt.mix_p (by rfl) rfl rfl (fun K hK => ?_); go_big_quiet_op; refine hK _ ?_; clear hK K)
            | (refine Txt.mix_re (by rfl) (by decide +kernel) (by rfl) (by rfl) (by go_simp) HB (fun K hK => ?_); go_big_quiet_op; refine hK _ ?_; clear hK K)
            | (refine Txt.mix_rl (by rfl) (by decide +kernel) (by rfl) (by rfl) (by go_simp) HB (fun K hK => ?_); go_big_quiet_op; refine hK _ ?_; clear hK K)
            | (refine Txt.mix_pass (by rfl) (by rfl) ?_; simp only [List.set_cons_succ, List.set_cons_zero]))
          refine Txt.mix_a (by rfl) (by decide +kernel) (fun K hK => ?_)
          go_wp2_with fail
          refine Txt.mix_nil ?_
          have hc2 := (Chg.refl (fun i => i = w.heap.size + 3) w1).setCell (p := ⟨w.heap.size + 3, 12, none⟩) (.inl rfl) (.slice Ar lr cr)
          have hbl2 : (w1.setCell ⟨w.heap.size + 3, 12, none⟩ (.slice Ar lr cr)).heap[w.heap.size + 3]? = some (acO (tw3 (tw2 a b) ((hadd a.f6 b.f6).take (k + 1))) (.slice Ar lr cr)) := by
            have := blk_set HBLK.out 12 (.slice Ar lr cr)
            simp only [List.setIfInBounds_toArray, List.set_cons_zero, List.set_cons_succ] at this
            exact this
          have HT4 := Lib.hid (show TwAt w (w1.setCell ⟨w.heap.size + 3, 12, none⟩ (.slice Ar lr cr)) (w.heap.size + 3) (tw2 a b) ((hadd a.f6 b.f6).take (k + 1)) (.slice Ar lr cr) from ⟨hbl2, HROW.out.keep hc2 (fun j hj e => own_no HROW.out HBLK.out (by rw [hj, e])), Chg.base HB1.out hc2 HB1.out.size (fun i hi => by omega)⟩)
          have HIN4 := Lib.hid (HIN3.out.chg hc2 (by omega) (by omega) (by omega))
          clear hc2 hbl2 HROW HB1 HBLK HIN3 hc12 hf
          first | show Exit.inBlock _ _ _ _ (w1.setCell ⟨w.heap.size + 3, 12, none⟩ (.slice Ar lr cr)) | show Exit.then _ _ _ _ (w1.setCell ⟨w.heap.size + 3, 12, none⟩ (.slice Ar lr cr)) | show Code.wp _ _ _ _ (w1.setCell ⟨w.heap.size + 3, 12, none⟩ (.slice Ar lr cr))
          generalize w1.setCell ⟨w.heap.size + 3, 12, none⟩ (.slice Ar lr cr) = w9 at *
          go_wp2_with fail
          exact ⟨⟨k + 1, (.slice Ar lr cr), by go_num, by omega, HT4.out, HIN4.out⟩, by simp [intOf]; omega⟩
        · obtain rfl : k = a.f6.length := by omega
          have hlen : (hadd a.f6 b.f6).length = a.f6.length := by unfold hadd; rw [List.length_zipWith]; have := HL.out; omega
          have hta : tw3 (tw2 a b) ((hadd a.f6 b.f6).take a.f6.length) = twoA a b := by rw [← hlen, List.take_length]; rfl
          obtain ⟨c0, c1, c2, c3, c4, c5, c6, c7, c8, c9, c10, c11, _, _⟩ := acO_facts HT.out.blk
          have hfo := fun j => blk_free HIN.out.go j
          rw [hta] at c0 c1 c2 c3 c4 c5 c6 c7 c8 c9 c10 c11
          obtain ⟨Ar, cr, rfl, _, _⟩ := HT.out.row.reads
          rw [show ((hadd a.f6 b.f6).take a.f6.length).length = a.f6.length by rw [List.length_take]; omega] at c12 HT
          have HTA := Lib.hid hta
          clear hta
          go_wp2_with fail
          show bodyPost _ _ _ _ _ (putA wr (w.heap.size + 2) (twoA a b) (.slice Ar a.f6.length cr))
          have hch := putA_chg wr (w.heap.size + 2) (twoA a b) (.slice Ar a.f6.length cr)
          refine bodyPost_ret (results_cell_row rfl _ _ (w.heap.size + 2) 36 _ (0, 0) _ rfl (putA_blk (a := twoA a b) (v := .slice Ar a.f6.length cr) HIN.out.go) Try.underlying36 rfl (by kernel_rfl)) rfl ?_
          refine ⟨.slice Ar a.f6.length cr, rfl, ?_, Chg.base HT.out.bel hch HT.out.bel.size (fun i hi => by omega)⟩
          have hr := HT.out.row.keep hch (fun j hj e => own_no HT.out.row HIN.out.go (by rw [hj, e]))
          rw [show (twoA a b).f6 = (hadd a.f6 b.f6).take a.f6.length by rw [← hlen, List.take_length]; rfl]
          exact hr
end Go.Proofs.Ytfgabafbcephaaa.My

namespace Go.Proofs.Ytfgabafbcephaaa.My
open Go.RowKit Pa Go.Proofs.YtfgabafbcephaaaW.PrintWords

structure May1 (bs : List Int) (a : S36) : Prop where
  bm : bmay bs = true
  len : a.f6.length = bs.length + 1
  hn : ∀ x ∈ a.f6, 0 ≤ x
  hs : a.f6.sum = a.f0
  c : 1 ≤ a.f0 ∧ a.f0 ≤ 8192
  m2 : wm a.f2 = true
  m3 : wm a.f3 = true
  m : a.f2 ≤ a.f3
  i4 : imay a.f4 = true
  i5 : imay a.f5 = true
  v4 : a.f2 ≤ a.f4.f3 ∧ a.f4.f3 ≤ a.f3
  v5 : a.f2 ≤ a.f5.f3 ∧ a.f5.f3 ≤ a.f3
  ser : a.f4.f0 = a.f5.f0
  o : ord a.f4 a.f5 ≤ 0
  s1 : a.f0 * a.f2 ≤ a.f1
  s2 : a.f1 ≤ a.f0 * a.f3
theorem sum_le_mem {h : List Int} (ha : ∀ x ∈ h, 0 ≤ x) : ∀ x ∈ h, x ≤ h.sum := by
  induction h with
  | nil => simp
  | cons y r ih =>
    intro x hx
    have h0 : 0 ≤ r.sum := by
      clear ih hx
      induction r with
      | nil => simp
      | cons z r ih2 =>
        have := ih2 (fun q hq => ha q (by simp at hq ⊢; rcases hq with h | h <;> simp [h]))
        have := ha z (by simp)
        simp only [List.sum_cons]
        omega
    have h1 := ha y (by simp)
    rw [List.sum_cons]
    rcases List.mem_cons.1 hx with rfl | h
    · omega
    · have := ih (fun z hz => ha z (by simp [hz])) x h
      omega
theorem May1.amay {bs : List Int} {a : S36} (h : May1 bs a) : amay a bs = true := by
  have hc := h.c
  have hh : hmay a.f6 bs.length a.f0 = true := by
    unfold hmay
    rw [decide_eq_true h.len, decide_eq_true h.hs]
    have : a.f6.all nok = true := by
      rw [List.all_eq_true]
      intro x hx
      unfold nok
      rw [decide_eq_true_eq]
      have h1 := h.hn x hx
      have h2 := sum_le_mem h.hn x hx
      have h3 := h.hs
      omega
    rw [this]
    rfl
  have he : emay a = true := by
    unfold emay iok
    rw [h.i4, h.i5, decide_eq_true h.v4.1, decide_eq_true h.v4.2, decide_eq_true h.v5.1, decide_eq_true h.v5.2, decide_eq_true h.ser, decide_eq_true h.o]
    rfl
  unfold My.amay
  rw [h.bm, hh, he, h.m2, h.m3, decide_eq_true h.m, decide_eq_true h.s1, decide_eq_true h.s2, if_neg (by omega), decide_eq_true (show a.f6.length ≤ bs.length + 1 by have := h.len; omega), decide_eq_true (show 0 ≤ a.f0 by omega), decide_eq_true hc.2]
  rfl
theorem May1.of {bs : List Int} {a : S36} (h : My.amay a bs = true) (h0 : a.f0 ≠ 0) : May1 bs a := by
  unfold My.amay at h
  simp only [Bool.and_eq_true, decide_eq_true_eq] at h
  obtain ⟨hb, _, hh, c0, c8, h⟩ := h
  rw [if_neg h0] at h
  simp only [Bool.and_eq_true, decide_eq_true_eq] at h
  obtain ⟨w2, w3, hm, he, s1, s2⟩ := h
  unfold hmay at hh
  simp only [Bool.and_eq_true, decide_eq_true_eq, List.all_eq_true] at hh
  obtain ⟨⟨hn, hl⟩, hs⟩ := hh
  unfold emay iok at he
  simp only [Bool.and_eq_true, decide_eq_true_eq] at he
  obtain ⟨⟨i4, v4, v4'⟩, ⟨i5, v5, v5'⟩, ser, o⟩ := he
  refine ⟨hb, hl, fun x hx => ?_, hs, ⟨by omega, c8⟩, w2, w3, hm, i4, i5, ⟨v4, v4'⟩, ⟨v5, v5'⟩, ser, o, s1, s2⟩
  have := hn x hx
  unfold nok at this
  rw [decide_eq_true_eq] at this
  exact this.1
theorem imay_v {x : S34} (h : imay x = true) : -1099511627776 ≤ x.f3 ∧ x.f3 ≤ 1099511627776 := by
  unfold imay at h
  rw [decide_eq_true_eq] at h
  exact ⟨h.2.2.2.2.2.2.1, h.2.2.2.2.2.2.2⟩
theorem ord_self (a : S34) : ord a a = 0 := by
  unfold ord
  simp
theorem set_sum : ∀ (n i : Nat), i < n → ((List.replicate n (0 : Int)).set i 1).sum = 1
  | 0, i, h => absurd h (by omega)
  | n + 1, 0, _ => by
    rw [List.replicate_succ, List.set_cons_zero, List.sum_cons]
    have : (List.replicate n (0 : Int)).sum = 0 := by simp
    omega
  | n + 1, i + 1, h => by
    rw [List.replicate_succ, List.set_cons_succ, List.sum_cons, set_sum n i (by omega)]
    omega
theorem may1_one {x : S34} {bs : List Int} (hx : imay x = true) (hb : bmay bs = true) : May1 bs (one x bs) := by
  have hv := imay_v hx
  have hw : wm x.f3 = true := by
    unfold wm
    rw [decide_eq_true_eq]
    exact hv
  refine ⟨hb, by simp [one], fun y hy => ?_, ?_, by simp [one], hw, hw, Int.le_refl _, hx, hx, ⟨Int.le_refl _, Int.le_refl _⟩, ⟨Int.le_refl _, Int.le_refl _⟩, rfl, ?_, ?_, ?_⟩
  · rcases List.mem_or_eq_of_mem_set hy with h | h
    · have := List.eq_of_mem_replicate h
      omega
    · omega
  · exact set_sum _ _ (by have := bucket_le bs x.f3; omega)
  · show ord x x ≤ 0
    rw [ord_self]
    exact Int.le_refl _
  · show 1 * x.f3 ≤ x.f3
    omega
  · show x.f3 ≤ 1 * x.f3
    omega
theorem bef_ord (a b : S34) : bef a b = decide (ord a b < 0) := by
  unfold bef ord
  by_cases h1 : a.f1 < b.f1
  · simp [h1]
  · by_cases h2 : b.f1 < a.f1
    · have : ¬ a.f1 = b.f1 := by omega
      simp [h1, h2, this]
    · have h3 : a.f1 = b.f1 := by omega
      by_cases h4 : a.f2 < b.f2
      · simp [h3, h4]
      · by_cases h5 : b.f2 < a.f2 <;> simp [h3, h4, h5]
theorem ord_le_trans {a b c : S34} (h1 : ord a b ≤ 0) (h2 : ord b c ≤ 0) : ord a c ≤ 0 := by
  unfold ord at *
  (repeat' split at h1) <;> (repeat' split at h2) <;> (repeat' split) <;> omega
theorem ord_lt {a b : S34} (h : ¬ ord a b < 0) : ord b a ≤ 0 := by
  unfold ord at *
  (repeat' split at h) <;> (repeat' split) <;> omega
theorem tw_parts (a b : S36) : (twoA a b).f0 = a.f0 + b.f0 ∧ (twoA a b).f1 = a.f1 + b.f1 ∧ (twoA a b).f2 = (if b.f2 < a.f2 then b.f2 else a.f2) ∧ (twoA a b).f3 = (if a.f3 < b.f3 then b.f3 else a.f3) ∧ (twoA a b).f4 = (if ord b.f4 a.f4 < 0 then b.f4 else a.f4) ∧ (twoA a b).f5 = (if ord b.f5 a.f5 < 0 then a.f5 else b.f5) ∧ (twoA a b).f6 = hadd a.f6 b.f6 := by
  unfold twoA tw3 tw2 tw1 tw0
  rw [bef_ord, bef_ord]
  by_cases h1 : ord b.f4 a.f4 < 0 <;> by_cases h2 : ord b.f5 a.f5 < 0 <;> simp [h1, h2]
theorem hadd_sum : ∀ {h n : List Int}, n.length = h.length → (hadd h n).sum = h.sum + n.sum
  | [], n, hl => by
    have := List.eq_nil_of_length_eq_zero hl
    subst this
    rfl
  | a :: h, n, hl => by
    cases n with
    | nil => simp at hl
    | cons b n =>
      have ih := hadd_sum (h := h) (n := n) (by simpa using hl)
      unfold hadd at *
      simp only [List.zipWith_cons_cons, List.sum_cons, ih]
      omega
theorem hadd_mem : ∀ {h n : List Int}, (∀ x ∈ h, 0 ≤ x) → (∀ x ∈ n, 0 ≤ x) → ∀ x ∈ hadd h n, 0 ≤ x
  | [], n, _, _, x, hx => by simp [hadd] at hx
  | a :: h, [], _, _, x, hx => by simp [hadd] at hx
  | a :: h, b :: n, h1, h2, x, hx => by
    unfold hadd at hx
    rw [List.zipWith_cons_cons] at hx
    rcases List.mem_cons.1 hx with rfl | h
    · have := h1 a (by simp)
      have := h2 b (by simp)
      omega
    · exact hadd_mem (fun y hy => h1 y (by simp [hy])) (fun y hy => h2 y (by simp [hy])) x h
theorem hadd_length {h n : List Int} (hl : n.length = h.length) : (hadd h n).length = h.length := by
  unfold hadd
  rw [List.length_zipWith]
  omega
theorem may1_two {bs : List Int} {a b : S36} (ha : May1 bs a) (hb : May1 bs b) (hs : a.f4.f0 = b.f4.f0) (hc : a.f0 + b.f0 ≤ 8192) : May1 bs (twoA a b) := by
  obtain ⟨e0, e1, e2, e3, e4, e5, e6⟩ := tw_parts a b
  have hl : b.f6.length = a.f6.length := by rw [ha.len, hb.len]
  have ca := ha.c
  have cb := hb.c
  refine ⟨ha.bm, by rw [e6, hadd_length hl]; exact ha.len, by rw [e6]; exact hadd_mem ha.hn hb.hn, by rw [e6, hadd_sum hl, ha.hs, hb.hs, e0], by rw [e0]; omega, by rw [e2]; split; exact hb.m2; exact ha.m2, by rw [e3]; split; exact hb.m3; exact ha.m3, ?_, by rw [e4]; split; exact hb.i4; exact ha.i4, by rw [e5]; split; exact ha.i5; exact hb.i5, ?_, ?_, ?_, ?_, ?_, ?_⟩
  · rw [e2, e3]
    have := ha.m
    have := hb.m
    split <;> split <;> omega
  · rw [e2, e3, e4]
    have := ha.v4
    have := hb.v4
    split <;> split <;> split <;> omega
  · rw [e2, e3, e5]
    have := ha.v5
    have := hb.v5
    split <;> split <;> split <;> omega
  · rw [e4, e5]
    have := ha.ser
    have := hb.ser
    split <;> split <;> omega
  · rw [e4, e5]
    split
    · rename_i h
      split
      · exact ord_le_trans (Int.le_of_lt h) ha.o
      · exact hb.o
    · split
      · exact ha.o
      · rename_i h1 h2
        exact ord_le_trans ha.o (ord_lt h2)
  · rw [e0, e1, e2, Int.add_mul]
    have h1 := ha.s1
    have h2 := hb.s1
    split
    · have := Int.mul_le_mul_of_nonneg_left (show b.f2 ≤ a.f2 by omega) (show 0 ≤ a.f0 by omega)
      omega
    · have := Int.mul_le_mul_of_nonneg_left (show a.f2 ≤ b.f2 by omega) (show 0 ≤ b.f0 by omega)
      omega
  · rw [e0, e1, e3, Int.add_mul]
    have h1 := ha.s2
    have h2 := hb.s2
    split
    · have := Int.mul_le_mul_of_nonneg_left (show a.f3 ≤ b.f3 by omega) (show 0 ≤ a.f0 by omega)
      omega
    · have := Int.mul_le_mul_of_nonneg_left (show b.f3 ≤ a.f3 by omega) (show 0 ≤ b.f0 by omega)
      omega
theorem May1.ok {bs : List Int} {a b : S36} (ha : May1 bs a) (hb : May1 bs b) : TwoOk a b := by
  have ca := ha.c
  have cb := hb.c
  have fa := amay_fit ha.amay
  have fb := amay_fit hb.amay
  have la := fa.s
  have lb := fb.s
  have h8 := bmay_len ha.bm
  have l1 := ha.len
  have l2 := hb.len
  refine ⟨by omega, by omega, by omega, by omega, by omega, by omega, fun i hi => ?_, fun i hi => ?_⟩
  · have := fa.h i hi
    omega
  · have := fb.h i (by omega)
    omega
end Go.Proofs.Ytfgabafbcephaaa.My

namespace Go.Proofs.Ytfgabafbcephaaa.My
open Go.RowKit Pa Go.Proofs.YtfgabafbcephaaaW.PrintWords
set_option linter.unusedSimpArgs false

theorem nok_zero : nok 0 = true := by decide
theorem sum_zeros (n : Nat) : (List.replicate n (0 : Int)).sum = 0 := by
  induction n with
  | zero => rfl
  | succ n ih => rw [List.replicate_succ, List.sum_cons, ih]; rfl
theorem amay_zero {bs : List Int} (hb : bmay bs = true) : amay (join0 bs) bs = true := by
  have hh : hmay (List.replicate (bs.length + 1) 0) bs.length 0 = true := by
    unfold hmay
    rw [sum_zeros]
    simp [nok_zero]
  unfold amay
  show (bmay bs && (decide ((List.replicate (bs.length + 1) (0 : Int)).length ≤ bs.length + 1) && (hmay (List.replicate (bs.length + 1) 0) bs.length 0 && (decide ((0 : Int) ≤ 0) && (decide ((0 : Int) ≤ 8192) && (if (0 : Int) = 0 then bareB (join0 bs) else _)))))) = true
  rw [hb, hh, if_pos rfl]
  simp [bareB, join0, isz, z34]
theorem step_zero (o : S36) (bs : List Int) : stepA o (join0 bs) = o := by
  unfold stepA
  exact if_neg (show ¬ (0 : Int) < 0 by decide)
theorem hadd_zeros : ∀ (l : List Int), hadd (List.replicate l.length 0) l = l
  | [] => rfl
  | x :: r => by
    have ih := hadd_zeros r
    unfold hadd at ih ⊢
    rw [List.length_cons, List.replicate_succ, List.zipWith_cons_cons, ih, Int.zero_add]
theorem zero_step {a : S36} {bs : List Int} (ha : May1 bs a) : stepA (join0 bs) a = a := by
  have h0 := ha.c
  have hl := ha.len
  have hh : hadd (List.replicate (bs.length + 1) 0) a.f6 = a.f6 := by rw [← hl]; exact hadd_zeros _
  unfold stepA
  rw [if_pos (by omega)]
  obtain ⟨a0, a1, a2, a3, a4, a5, a6⟩ := a
  unfold addA fst_ add3 add4 add5 add6 join0
  simp only [ord_self] at *
  simp [hh]
theorem allm_zero {bs : List Int} (hb : bmay bs = true) (f : Int) (r : List S36) : allm bs f (join0 bs :: r) = allm bs f r := by
  rw [allm, if_pos (amay_zero hb)]
  exact if_neg (show ¬ (0 : Int) < 0 by decide)
theorem allm_one {bs : List Int} {a : S36} (ha : May1 bs a) (r : List S36) : allm bs (-1) (a :: r) = allm bs a.f4.f0 r := by
  rw [allm, if_pos ha.amay, if_pos (by have := ha.c; omega), if_neg (by omega)]
end Go.Proofs.Ytfgabafbcephaaa.My

namespace Go.Proofs.Ytfgabafbcephaaa.My
open Go.RowKit Pa Go.Proofs.YtfgabafbcephaaaW.PrintWords
set_option linter.unusedSimpArgs false

theorem add_parts (a b : S36) (h0 : a.f0 ≠ 0) : (addA a b).f0 = a.f0 + b.f0 ∧ (addA a b).f1 = a.f1 + b.f1 ∧ (addA a b).f2 = (if b.f2 < a.f2 then b.f2 else a.f2) ∧ (addA a b).f3 = (if a.f3 < b.f3 then b.f3 else a.f3) ∧ (addA a b).f4 = (if ord b.f4 a.f4 < 0 then b.f4 else a.f4) ∧ (addA a b).f5 = (if 0 ≤ ord b.f5 a.f5 then b.f5 else a.f5) ∧ (addA a b).f6 = hadd a.f6 b.f6 := by
  obtain ⟨a0, a1, a2, a3, a4, a5, a6⟩ := a
  obtain ⟨b0, b1, b2, b3, b4, b5, b6⟩ := b
  simp only at h0
  unfold addA add6 add5 add4 add3
  rw [fst_no (show ¬ (⟨a0, a1, a2, a3, a4, a5, a6⟩ : S36).f0 = 0 from h0)]
  by_cases h4 : ord b4 a4 < 0 <;> by_cases h5 : 0 ≤ ord b5 a5 <;> simp [h4, h5]
end Go.Proofs.Ytfgabafbcephaaa.My

namespace Go.Proofs.Ytfgabafbcephaaa.My
open Go.RowKit Pa Go.Proofs.YtfgabafbcephaaaW.PrintWords
set_option linter.unusedSimpArgs false

theorem s28_ext {x y : S36} (h0 : x.f0 = y.f0) (h1 : x.f1 = y.f1) (h2 : x.f2 = y.f2) (h3 : x.f3 = y.f3) (h4 : x.f4 = y.f4) (h5 : x.f5 = y.f5) (h6 : x.f6 = y.f6) : x = y := by
  obtain ⟨a0, a1, a2, a3, a4, a5, a6⟩ := x
  obtain ⟨b0, b1, b2, b3, b4, b5, b6⟩ := y
  simp only at h0 h1 h2 h3 h4 h5 h6
  subst h0 h1 h2 h3 h4 h5 h6
  rfl
theorem two_add {a b : S36} (h0 : a.f0 ≠ 0) : twoA a b = addA a b := by
  obtain ⟨a0, a1, a2, a3, a4, a5, a6⟩ := add_parts a b h0
  obtain ⟨b0, b1, b2, b3, b4, b5, b6⟩ := tw_parts a b
  refine s28_ext (by rw [a0, b0]) (by rw [a1, b1]) (by rw [a2, b2]) (by rw [a3, b3]) (by rw [a4, b4]) ?_ (by rw [a6, b6])
  rw [a5, b5]
  by_cases h : ord b.f5 a.f5 < 0
  · rw [if_pos h, if_neg (by omega)]
  · rw [if_neg h, if_pos (by omega)]
def rstep (c x : S36) : S36 := if x.f0 = 0 then c else if c.f0 = 0 then x else twoA c x
def Zs (bs : List Int) (s : Int) (c : S36) : Prop := c = join0 bs ∨ (May1 bs c ∧ c.f4.f0 = s)
theorem amay_c {x : S36} {bs : List Int} (hx : amay x bs = true) : 0 ≤ x.f0 ∧ x.f0 ≤ 8192 := (amay_fit hx).c
theorem rstep_eq {bs : List Int} {s : Int} {c x : S36} (hx : amay x bs = true) (hc : Zs bs s c) (hs : x.f0 ≠ 0 → x.f4.f0 = s) : rstep c x = stepA c x ∧ (c.f0 + x.f0 ≤ 8192 → Zs bs s (stepA c x)) := by
  obtain ⟨h0, h9⟩ := amay_c hx
  unfold rstep
  by_cases hz : x.f0 = 0
  · have e : stepA c x = c := if_neg (by omega)
    rw [if_pos hz, e]
    exact ⟨rfl, fun _ => hc⟩
  · have m := May1.of hx hz
    have e : stepA c x = addA c x := if_pos (by omega)
    rw [if_neg hz]
    rcases hc with rfl | ⟨mc, es⟩
    · rw [if_pos (show (join0 bs).f0 = 0 from rfl), zero_step m]
      exact ⟨rfl, fun _ => .inr ⟨m, hs hz⟩⟩
    · have hc0 : c.f0 ≠ 0 := by have := mc.c; omega
      rw [if_neg hc0, e, two_add hc0]
      refine ⟨rfl, fun h8 => .inr ⟨?_, ?_⟩⟩
      · rw [← two_add hc0]
        exact may1_two mc m (by rw [es, hs hz]) h8
      · rw [(add_parts c x hc0).2.2.2.2.1]
        split
        · exact hs hz
        · exact es
theorem ser_pos {x : S36} {bs : List Int} (hx : amay x bs = true) (hz : x.f0 ≠ 0) : 0 ≤ x.f4.f0 := by
  have := (May1.of hx hz).i4
  unfold imay at this
  rw [decide_eq_true_eq] at this
  exact this.1
theorem allm_same {bs : List Int} : ∀ {xs : List S36} {f : Int}, allm bs f xs = true → 0 ≤ f → ∀ x ∈ xs, x.f0 ≠ 0 → x.f4.f0 = f
  | [], _, _, _, _, hx, _ => by cases hx
  | a :: r, f, h, hf, x, hx, hz => by
    unfold allm at h
    by_cases ha : amay a bs = true
    · rw [if_pos ha] at h
      have := amay_c ha
      by_cases h0 : 0 < a.f0
      · rw [if_pos h0] at h
        by_cases h1 : 0 ≤ f ∧ a.f4.f0 ≠ f
        · rw [if_pos h1] at h
          cases h
        · rw [if_neg h1] at h
          have e : a.f4.f0 = f := Classical.byContradiction fun e => h1 ⟨hf, e⟩
          rcases List.mem_cons.1 hx with rfl | hx
          · exact e
          · have := allm_same h (by rw [e]; exact hf) x hx hz
            rw [this, e]
      · rw [if_neg h0] at h
        rcases List.mem_cons.1 hx with rfl | hx
        · exact absurd (by omega) hz
        · exact allm_same h hf x hx hz
    · rw [if_neg ha] at h
      cases h
theorem allm_ser {bs : List Int} : ∀ {xs : List S36}, allm bs (-1) xs = true → ∃ s, ∀ x ∈ xs, x.f0 ≠ 0 → x.f4.f0 = s
  | [], _ => ⟨0, fun x hx => by cases hx⟩
  | a :: r, h => by
    unfold allm at h
    by_cases ha : amay a bs = true
    · rw [if_pos ha] at h
      have := amay_c ha
      by_cases h0 : 0 < a.f0
      · rw [if_pos h0, if_neg (by omega)] at h
        refine ⟨a.f4.f0, fun x hx hz => ?_⟩
        rcases List.mem_cons.1 hx with rfl | hx
        · rfl
        · exact allm_same h (ser_pos ha (by omega)) x hx hz
      · rw [if_neg h0] at h
        obtain ⟨s, hs⟩ := allm_ser h
        refine ⟨s, fun x hx hz => ?_⟩
        rcases List.mem_cons.1 hx with rfl | hx
        · exact absurd (by omega) hz
        · exact hs x hx hz
    · rw [if_neg ha] at h
      cases h
end Go.Proofs.Ytfgabafbcephaaa.My

namespace Go.Proofs.Ytfgabafbcephaaa.My
open Go.RowKit Pa Go.Proofs.YtfgabafbcephaaaW.PrintWords
set_option linter.unusedSimpArgs false

end Go.Proofs.Ytfgabafbcephaaa.My
