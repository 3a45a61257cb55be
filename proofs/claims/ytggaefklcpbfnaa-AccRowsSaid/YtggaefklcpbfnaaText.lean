/- A region of open order, walked once in the order of its text: where no two operations that touch memory are left unordered (two readers excepted), every order comes to what the text's own order comes to. Plain theorems over any program; no statement of the seed is proved here. -/
import Derived.Deep.Quiet
namespace Go.Txt

/-- p: touches no memory. r: reads memory. a: all else. -/
inductive Cl where
  | p
  | r
  | a
  deriving DecidableEq

def cl : Op → Cl
  | .move _ => .p
  | .assign _ => .p
  | .pick .. => .p
  | .nilCheck _ => .p
  | .binOp .. => .p
  | .unOp .. => .p
  | .convert .. => .p
  | .fieldAddr .. => .p
  | .field .. => .p
  | .indexAddr .. => .p
  | .index .. => .p
  | .extract .. => .p
  | .slice .. => .p
  | .build .. => .p
  | .load .. => .r
  | .call c => match c.callee with
    | .builtin .len => .p
    | .builtin .cap => .p
    | .builtin .max => .p
    | .builtin .min => .p
    | _ => .a
  | _ => .a

/-- Nothing is let out. -/
def NoQ : Exit → Act → World → Prop := fun _ _ _ => False

theorem NoQ_out : ¬ LetsOut NoQ := fun ⟨_, _, h⟩ => h

/-- What an operation does to the frame: it fills its temporary, or a deferred call is laid by first. -/
inductive Tr where
  | put (v : Value)
  | dfr (d : Deferred)

def Tr.on (t : Tr) (dst : Option Tmp) (a : Act) : Act :=
  match t with
  | .put v => a.put dst v
  | .dfr d => ({ a with defers := d :: a.defers } : Act).put dst undef

def outc (P : Program) (r : Result Next) (F : Tr → World → Prop) : Prop :=
  match r with
  | .ok (.value v) w' => F (.put v) w'
  | .ok .skip w' => F (.put undef) w'
  | .ok (.defer d) w' => F (.dfr d) w'
  | .ok (.enter f args) w' => Calls P f args w' fun
      | .returned v, w'' => F (.put v) w''
      | _, _ => False
  | .ok (.row row args) w' => Rows P row args w' fun v w'' => F (.put v) w''
  | _ => False

section
variable {P : Program} {ops : Array Oper}

theorem outc_mono {r : Result Next} {F G : Tr → World → Prop} (h : ∀ t w, F t w → G t w) (hr : outc P r F) : outc P r G := by
  cases r with
  | ok n w' =>
    cases n <;> simp only [outc] at hr ⊢
    case value v => exact h _ _ hr
    case skip => exact h _ _ hr
    case defer d => exact h _ _ hr
    case enter f args => exact Calls.mono hr fun e w'' he => by cases e <;> first | exact h _ _ he | exact he
    case row row args => exact Rows.mono hr fun _ _ he => h _ _ he
  | halt x w' => cases x <;> simp only [outc] at hr

theorem outc_false {r : Result Next} (hr : outc P r fun _ _ => False) : False := by
  cases r with
  | ok n w' =>
    cases n <;> simp only [outc] at hr
    case enter f args =>
      obtain ⟨e, w'', fr, he, _⟩ := hr []
      cases e <;> exact he
    case row row args =>
      obtain ⟨v, w'', he, _⟩ := hr default []
      exact he
  | halt x w' => cases x <;> simp only [outc] at hr

theorem outc_of_wp {o : Oper} {a : Act} {w : World} {K : Act → World → Prop} (h : o.wp P a w K NoQ) : outc P ((execOp a.eval o).run P w) fun t w' => K (t.on o.dst a) w' := by
  unfold Oper.wp at h
  generalize (execOp a.eval o).run P w = r at *
  cases r with
  | ok n w' =>
    cases n <;> simp only [Oper.upon] at h <;> simp only [outc]
    case value v => exact h
    case skip => exact h
    case defer d => exact h
    case enter f args =>
      refine Calls.mono h fun e w'' he => ?_
      cases e with
      | returned v => exact he
      | panicked c => exact he
      | outgrown => exact (NoQ_out he).elim
    case row row args => exact h
  | halt x w' =>
    cases x <;> simp only [Oper.upon] at h
    case panic v => exact h.elim

theorem wp_of_outc {o : Oper} {a : Act} {w : World} {K : Act → World → Prop} {Q : Exit → Act → World → Prop} (h : outc P ((execOp a.eval o).run P w) fun t w' => K (t.on o.dst a) w') : o.wp P a w K Q := by
  unfold Oper.wp
  generalize (execOp a.eval o).run P w = r at *
  cases r with
  | ok n w' =>
    cases n <;> simp only [outc] at h <;> simp only [Oper.upon]
    case value v => exact h
    case skip => exact h
    case defer d => exact h
    case enter f args =>
      refine Calls.mono h fun e w'' he => ?_
      cases e with
      | returned v => exact he
      | panicked c => exact he.elim
      | outgrown => exact he.elim
    case row row args => exact h
  | halt x w' => cases x <;> simp only [outc] at h

/-- One value, whatever the world. -/
def Sure (P : Program) (o : Oper) (a : Act) (v : Value) : Prop := ∀ w, (execOp a.eval o).run P w = .ok (.value v) w

/-- An operation of the walk. -/
def stepT (P : Program) (ops : Array Oper) (o : Oper) (K : Act → World → Prop) (a : Act) (w : World) : Prop :=
  if Region.wanted o (yielded ops a.tmps) then
    match cl o.op with
    | .p => ∃ v, Sure P o a v ∧ K (a.put o.dst v) w
    | .r => ∃ v, (execOp a.eval o).run P w = .ok (.value v) w ∧ K (a.put o.dst v) w
    | .a => outc P ((execOp a.eval o).run P w) fun t w' => K (t.on o.dst a) w'
  else K (a.put o.dst undef) w

theorem stepT_mono {o : Oper} {K K' : Act → World → Prop} {a : Act} {w : World} (h : ∀ a w, K a w → K' a w) (hs : stepT P ops o K a w) : stepT P ops o K' a w := by
  unfold stepT at *
  split
  · rename_i hw
    rw [if_pos hw] at hs
    split
    · rename_i hc; rw [hc] at hs; obtain ⟨v, h1, h2⟩ := hs; exact ⟨v, h1, h _ _ h2⟩
    · rename_i hc; rw [hc] at hs; obtain ⟨v, h1, h2⟩ := hs; exact ⟨v, h1, h _ _ h2⟩
    · rename_i hc; rw [hc] at hs; exact outc_mono (fun _ _ he => h _ _ he) hs
  · rename_i hw
    rw [if_neg hw] at hs
    exact h _ _ hs

theorem wpOp_of_stepT {i : Nat} {o : Oper} (hi : ops[i]? = some o) {K : Act → World → Prop} {Q : Exit → Act → World → Prop} {a : Act} {w : World} (hs : stepT P ops o K a w) : wpOp P ops Q i K a w := by
  unfold stepT at hs
  unfold wpOp
  simp only [hi]
  split
  · rename_i hw
    rw [if_pos hw] at hs
    refine .inl ?_
    split at hs
    · obtain ⟨v, h1, h2⟩ := hs
      simp only [Oper.wp, h1 w, Oper.upon]
      exact h2
    · obtain ⟨v, h1, h2⟩ := hs
      simp only [Oper.wp, h1, Oper.upon]
      exact h2
    · exact wp_of_outc hs
  · rename_i hw
    rw [if_neg hw] at hs
    exact hs

theorem put_on_comm (t : Tr) (x y : Option Tmp) (a : Act) (v : Value) (h : ∀ d, y = some d → x ≠ some d) : t.on x (a.put y v) = (t.on x a).put y v := by
  cases t with
  | put u => exact Act.put_comm a v u (fun d hd he => h d hd he)
  | dfr d =>
    simp only [Tr.on]
    rw [Act.put_defers]
    exact Act.put_comm _ v undef (fun d hd he => h d hd he)

theorem exec_on (t : Tr) (x : Option Tmp) (a : Act) (o : Oper) (hs : ∀ cs b, o.op ≠ .select cs b) (h : ∀ d, x = some d → d ∉ o.looksAt ops) : execOp (t.on x a).eval o = execOp a.eval o := by
  cases t with
  | put u => exact execOp_put o hs a x u h
  | dfr d =>
    simp only [Tr.on]
    rw [execOp_put o hs _ x undef h]
    rfl

theorem wanted_on (t : Tr) (x : Option Tmp) (a : Act) (o : Oper) (h : ∀ d, x = some d → d ∉ o.looksAt ops) : Region.wanted o (yielded ops (t.on x a).tmps) = Region.wanted o (yielded ops a.tmps) := by
  cases t with
  | put u => exact wanted_put o a x u h
  | dfr d =>
    simp only [Tr.on]
    rw [wanted_put o _ x undef h]

/-- Two neighbours in the other row. -/
theorem stepT_swap {oi oj : Oper} (hap : oj.apart ops oi = true) (hsi : ∀ cs b, oi.op ≠ .select cs b) (hsj : ∀ cs b, oj.op ≠ .select cs b)
    (hc : cl oj.op = .p ∨ cl oi.op = .p ∨ (cl oj.op = .r ∧ cl oi.op = .r)) {K : Act → World → Prop} {a : Act} {w : World}
    (h : stepT P ops oj (stepT P ops oi K) a w) : stepT P ops oi (stepT P ops oj K) a w := by
  obtain ⟨h1, h2, h3⟩ := Oper.apart_spec hap
  have h2' : ∀ d, oi.dst = some d → oj.dst ≠ some d := fun d hd he => h2 d he hd
  have ej : ∀ (t : Tr) (b : Act), execOp (t.on oi.dst b).eval oj = execOp b.eval oj := fun t b => exec_on t _ _ oj hsj h3
  have wj : ∀ (t : Tr) (b : Act), Region.wanted oj (yielded ops (t.on oi.dst b).tmps) = Region.wanted oj (yielded ops b.tmps) := fun t b => wanted_on t _ _ oj h3
  have ei : ∀ (t : Tr) (b : Act), execOp (t.on oj.dst b).eval oi = execOp b.eval oi := fun t b => exec_on t _ _ oi hsi h1
  have wi : ∀ (t : Tr) (b : Act), Region.wanted oi (yielded ops (t.on oj.dst b).tmps) = Region.wanted oi (yielded ops b.tmps) := fun t b => wanted_on t _ _ oi h1
  have ejp : ∀ (v : Value) (b : Act), execOp (b.put oi.dst v).eval oj = execOp b.eval oj := fun v b => ej (.put v) b
  have wjp : ∀ (v : Value) (b : Act), Region.wanted oj (yielded ops (b.put oi.dst v).tmps) = Region.wanted oj (yielded ops b.tmps) := fun v b => wj (.put v) b
  have eip : ∀ (v : Value) (b : Act), execOp (b.put oj.dst v).eval oi = execOp b.eval oi := fun v b => ei (.put v) b
  have wip : ∀ (v : Value) (b : Act), Region.wanted oi (yielded ops (b.put oj.dst v).tmps) = Region.wanted oi (yielded ops b.tmps) := fun v b => wi (.put v) b
  have cij : ∀ (t : Tr) (b : Act) (v : Value), t.on oi.dst (b.put oj.dst v) = (t.on oi.dst b).put oj.dst v := fun t b v => put_on_comm t _ _ b v (fun d hd => fun he => h2 d hd he)
  have cji : ∀ (t : Tr) (b : Act) (v : Value), t.on oj.dst (b.put oi.dst v) = (t.on oj.dst b).put oi.dst v := fun t b v => put_on_comm t _ _ b v (fun d hd => h2' d hd)
  have cpp : ∀ (b : Act) (u v : Value), (b.put oj.dst v).put oi.dst u = (b.put oi.dst u).put oj.dst v := fun b u v => cij (.put u) b v
  by_cases wa : Region.wanted oj (yielded ops a.tmps) = true
  · by_cases wb : Region.wanted oi (yielded ops a.tmps) = true
    · -- both are carried out
      rcases hc with hc | hc | ⟨hcj, hci⟩
      · -- the first touches no memory
        have hj : ∃ v, Sure P oj a v ∧ stepT P ops oi K (a.put oj.dst v) w := by
          unfold stepT at h
          rw [if_pos wa, hc] at h
          exact h
        obtain ⟨v, hv, hi⟩ := hj
        have again : ∀ (b : Act) (w' : World), Region.wanted oj (yielded ops b.tmps) = true → execOp b.eval oj = execOp a.eval oj → K (b.put oj.dst v) w' → stepT P ops oj K b w' := fun b w' e1 e2 e3 => by
          unfold stepT
          rw [if_pos e1, hc]
          exact ⟨v, fun x => by rw [e2]; exact hv x, e3⟩
        unfold stepT at hi
        rw [wip, if_pos wb] at hi
        unfold stepT
        rw [if_pos wb]
        cases hci : cl oi.op with
        | p =>
          rw [hci] at hi
          obtain ⟨u, hu, hk⟩ := hi
          refine ⟨u, fun x => ?_, again _ _ ((wjp u a).trans wa) (ejp u a) (by rw [← cpp]; exact hk)⟩
          have := hu x
          rwa [eip] at this
        | r =>
          rw [hci] at hi
          obtain ⟨u, hu, hk⟩ := hi
          refine ⟨u, ?_, again _ _ ((wjp u a).trans wa) (ejp u a) (by rw [← cpp]; exact hk)⟩
          rwa [eip] at hu
        | a =>
          rw [hci] at hi
          simp only [eip] at hi
          refine outc_mono (fun t w' hk => again _ _ ((wj t a).trans wa) (ej t a) ?_) hi
          rw [cij] at hk
          exact hk
      · -- the second touches no memory
        have first : ∀ (b : Act) (w' : World), Region.wanted oi (yielded ops b.tmps) = true → stepT P ops oi K b w' → ∃ u, Sure P oi b u ∧ K (b.put oi.dst u) w' := fun b w' e1 hb => by
          unfold stepT at hb
          rw [if_pos e1, hc] at hb
          exact hb
        have mk : ∀ u, Sure P oi a u → stepT P ops oj K (a.put oi.dst u) w → stepT P ops oi (stepT P ops oj K) a w := fun u hu hk => by
          unfold stepT
          rw [if_pos wb, hc]
          exact ⟨u, hu, hk⟩
        have one : ∀ (b : Act) (u v : Value), execOp b.eval oi = execOp a.eval oi → Sure P oi b u → Sure P oi a v → u = v := fun b u v e1 hu hv => by
          have e2 := hu w
          rw [e1, hv w] at e2
          injection e2 with e2
          injection e2 with e2
          exact e2.symm
        unfold stepT at h
        rw [if_pos wa] at h
        cases hcj : cl oj.op with
        | p =>
          rw [hcj] at h
          obtain ⟨v, hv, hk⟩ := h
          obtain ⟨u, hu, hk⟩ := first _ _ ((wip v a).trans wb) hk
          refine mk u (fun x => by have := hu x; rwa [eip] at this) ?_
          unfold stepT
          rw [if_pos ((wjp u a).trans wa), hcj]
          exact ⟨v, fun x => by rw [ejp]; exact hv x, by rw [← cpp]; exact hk⟩
        | r =>
          rw [hcj] at h
          obtain ⟨v, hv, hk⟩ := h
          obtain ⟨u, hu, hk⟩ := first _ _ ((wip v a).trans wb) hk
          refine mk u (fun x => by have := hu x; rwa [eip] at this) ?_
          unfold stepT
          rw [if_pos ((wjp u a).trans wa), hcj]
          exact ⟨v, by rw [ejp]; exact hv, by rw [← cpp]; exact hk⟩
        | a =>
          rw [hcj] at h
          have h' : outc P ((execOp a.eval oj).run P w) fun t w' => ∃ u, Sure P oi a u ∧ K ((t.on oj.dst a).put oi.dst u) w' :=
            outc_mono (fun t w' hk => by
              obtain ⟨u, hu, hk⟩ := first _ _ ((wi t a).trans wb) hk
              exact ⟨u, fun x => by have := hu x; rwa [ei] at this, hk⟩) h
          by_cases he : ∃ u, Sure P oi a u
          · obtain ⟨u, hu⟩ := he
            refine mk u hu ?_
            unfold stepT
            rw [if_pos ((wjp u a).trans wa), hcj]
            simp only [ejp]
            refine outc_mono (fun t w' hk => ?_) h'
            obtain ⟨u', hu', hk⟩ := hk
            have := one a u' u rfl hu' hu
            subst this
            rw [cji]
            exact hk
          · exact (outc_false (outc_mono (fun _ _ hk => by obtain ⟨u, hu, _⟩ := hk; exact he ⟨u, hu⟩) h')).elim
      · -- both read
        unfold stepT at h
        rw [if_pos wa, hcj] at h
        obtain ⟨v, hv, h⟩ := h
        rw [wip, if_pos wb, hci] at h
        obtain ⟨u, hu, hk⟩ := h
        rw [eip] at hu
        unfold stepT
        rw [if_pos wb, hci]
        refine ⟨u, hu, ?_⟩
        rw [if_pos ((wjp u a).trans wa), hcj]
        exact ⟨v, by rw [ejp]; exact hv, by rw [← cpp]; exact hk⟩
    · -- the second is passed over
      have pass : ∀ (b : Act) (w' : World), ¬ Region.wanted oi (yielded ops b.tmps) = true → stepT P ops oi K b w' → K (b.put oi.dst undef) w' := fun b w' e1 hb => by
        unfold stepT at hb
        rw [if_neg e1] at hb
        exact hb
      have h' : stepT P ops oj (fun b w' => (¬ Region.wanted oi (yielded ops b.tmps) = true → K (b.put oi.dst undef) w')) a w := stepT_mono (fun b w' hb e1 => pass b w' e1 hb) h
      have goal : stepT P ops oi (stepT P ops oj K) a w = stepT P ops oj K (a.put oi.dst undef) w := by
        unfold stepT
        rw [if_neg wb]
      rw [goal]
      unfold stepT at h' ⊢
      rw [if_pos wa] at h'
      rw [if_pos ((wjp undef a).trans wa)]
      cases hcj : cl oj.op with
      | p =>
        rw [hcj] at h'
        obtain ⟨v, hv, hk⟩ := h'
        exact ⟨v, fun x => by rw [ejp]; exact hv x, by rw [← cpp]; exact hk (by rw [wip]; exact wb)⟩
      | r =>
        rw [hcj] at h'
        obtain ⟨v, hv, hk⟩ := h'
        exact ⟨v, by rw [ejp]; exact hv, by rw [← cpp]; exact hk (by rw [wip]; exact wb)⟩
      | a =>
        rw [hcj] at h'
        simp only [ejp]
        refine outc_mono (fun t w' hk => ?_) h'
        rw [cji]
        exact hk (by rw [wi]; exact wb)
  · -- the first is passed over
    unfold stepT at h
    rw [if_neg wa] at h
    have last : ∀ (b : Act) (w' : World), Region.wanted oj (yielded ops b.tmps) = Region.wanted oj (yielded ops a.tmps) → K (b.put oj.dst undef) w' → stepT P ops oj K b w' := fun b w' e1 hb => by
      unfold stepT
      rw [if_neg (by rw [e1]; exact wa)]
      exact hb
    rw [wip] at h
    unfold stepT
    split
    · rename_i wb
      rw [if_pos wb] at h
      cases hci : cl oi.op with
      | p =>
        rw [hci] at h
        obtain ⟨u, hu, hk⟩ := h
        exact ⟨u, fun x => by have := hu x; rwa [eip] at this, last _ _ (wjp u a) (by rw [← cpp]; exact hk)⟩
      | r =>
        rw [hci] at h
        obtain ⟨u, hu, hk⟩ := h
        rw [eip] at hu
        exact ⟨u, hu, last _ _ (wjp u a) (by rw [← cpp]; exact hk)⟩
      | a =>
        rw [hci] at h
        simp only [eip] at h
        refine outc_mono (fun t w' hk => last _ _ (wj t a) ?_) h
        rw [cij] at hk
        exact hk
    · rename_i wb
      rw [if_neg wb] at h
      exact last _ _ (wjp undef a) (by rw [← cpp]; exact h)

/-- The operations with these numbers, one behind the other. -/
def runT (P : Program) (ops : Array Oper) (Q : Act → World → Prop) : List Nat → Act → World → Prop
  | [], a, w => Q a w
  | i :: r, a, w => match ops[i]? with
    | some o => stepT P ops o (runT P ops Q r) a w
    | none => runT P ops Q r a w

def orderedOrSwaps (ops : Array Oper) (B : Array Nat) (j i : Nat) : Bool :=
  (B.getD i 0).testBit j || match ops[j]?, ops[i]? with
    | some oj, some oi => oj.apart ops oi && (decide (cl oj.op = .p) || decide (cl oi.op = .p) || (decide (cl oj.op = .r) && decide (cl oi.op = .r)))
    | _, _ => false

/-- What an operation waits for, and what that waits for. -/
def upOf (B : Array Nat) (o : Oper) : Nat := o.after.toList.foldr (fun e s => if Region.binds .any e then s ||| (2 ^ e.on ||| B.getD e.on 0) else s) 0

def textB (ops : Array Oper) (B : Array Nat) : Bool :=
  Region.noSelect ops && (List.range ops.size).all fun i =>
    (match ops[i]? with
      | some o => o.after.toList.all (fun e => !Region.binds .any e || decide (e.on < i)) && ((B.getD i 0 ||| upOf B o) == upOf B o)
      | none => true) && (List.range i).all fun j => orderedOrSwaps ops B j i

theorem upOf_bit {B : Array Nat} {o : Oper} {j : Nat} (h : (upOf B o).testBit j = true) : ∃ e ∈ o.after, Region.binds .any e = true ∧ (e.on = j ∨ (B.getD e.on 0).testBit j = true) := by
  unfold upOf at h
  have key : ∀ l : List Edge, (l.foldr (fun e s => if Region.binds .any e then s ||| (2 ^ e.on ||| B.getD e.on 0) else s) 0).testBit j = true → ∃ e ∈ l, Region.binds .any e = true ∧ (e.on = j ∨ (B.getD e.on 0).testBit j = true) := by
    intro l
    induction l with
    | nil => intro h; simp at h
    | cons e r ih =>
      intro h
      simp only [List.foldr_cons] at h
      split at h
      · rename_i hb
        rw [Nat.testBit_or, Nat.testBit_or, Bool.or_eq_true, Bool.or_eq_true] at h
        rcases h with h | h | h
        · obtain ⟨e', h1, h2⟩ := ih h
          exact ⟨e', List.mem_cons_of_mem _ h1, h2⟩
        · rw [Nat.testBit_two_pow] at h
          exact ⟨e, List.mem_cons_self, hb, .inl (by simpa using h)⟩
        · exact ⟨e, List.mem_cons_self, hb, .inr h⟩
      · obtain ⟨e', h1, h2⟩ := ih h
        exact ⟨e', List.mem_cons_of_mem _ h1, h2⟩
  obtain ⟨e, h1, h2⟩ := key _ h
  exact ⟨e, by simpa using h1, h2⟩

theorem textB_row {B : Array Nat} (h : textB ops B = true) {i : Nat} {o : Oper} (hi : ops[i]? = some o) :
    (∀ e ∈ o.after, Region.binds .any e = true → e.on < i) ∧ (∀ j, (B.getD i 0).testBit j = true → ∃ e ∈ o.after, Region.binds .any e = true ∧ (e.on = j ∨ (B.getD e.on 0).testBit j = true)) ∧ ∀ j, j < i → orderedOrSwaps ops B j i = true := by
  have hlt : i < ops.size := (Array.getElem?_eq_some_iff.1 hi).1
  simp only [textB, Bool.and_eq_true, List.all_eq_true, List.mem_range] at h
  have h1 := h.2 i hlt
  rw [hi] at h1
  simp only [Bool.and_eq_true, List.all_eq_true, Bool.or_eq_true, Bool.not_eq_true', decide_eq_true_eq, beq_iff_eq] at h1
  obtain ⟨⟨h2, h3⟩, h4⟩ := h1
  refine ⟨fun e he hb => ?_, fun j hj => ?_, h4⟩
  · rcases h2 e (by simpa using he) with h | h
    · rw [hb] at h; cases h
    · exact h
  · refine upOf_bit ?_
    rw [← h3, Nat.testBit_or, hj, Bool.true_or]

/-- What is listed waits for nothing that is not. -/
def Shut (ops : Array Oper) (listed : Array Bool) : Prop := ∀ k o, ops[k]? = some o → listed.getD k false = true → ∀ e ∈ o.after, Region.binds .any e = true → listed.getD e.on false = true

theorem bits_listed {B : Array Nat} (hB : textB ops B = true) {listed : Array Bool} (hs : Shut ops listed) : ∀ (m i : Nat), i ≤ m → ∀ o, ops[i]? = some o → (∀ e ∈ o.after, Region.binds .any e = true → listed.getD e.on false = true) →
    ∀ j, (B.getD i 0).testBit j = true → listed.getD j false = true := by
  intro m
  induction m with
  | zero =>
    intro i hi o ho hd j hj
    obtain ⟨h1, h2, _⟩ := textB_row hB ho
    obtain ⟨e, he, hb, _⟩ := h2 j hj
    have := h1 e he hb
    omega
  | succ m ih =>
    intro i hi o ho hd j hj
    obtain ⟨h1, h2, _⟩ := textB_row hB ho
    obtain ⟨e, he, hb, hj⟩ := h2 j hj
    have hlt := h1 e he hb
    have hl := hd e he hb
    rcases hj with rfl | hj
    · exact hl
    · have hsz : i < ops.size := (Array.getElem?_eq_some_iff.1 ho).1
      have hoe : ops[e.on]? = some ops[e.on] := Array.getElem?_eq_getElem (by omega)
      exact ih e.on (by omega) _ hoe (fun e' he' hb' => hs _ _ hoe hl e' he' hb') j hj

def rest (n : Nat) (listed : Array Bool) : List Nat := (List.range n).filter fun i => !listed.getD i true

/-- One of the rest goes ahead of all that stand before it. -/
theorem runT_front {Q : Act → World → Prop} {i : Nat} {oi : Oper} (hi : ops[i]? = some oi) (hsel : ∀ (j : Nat) (o : Oper) cs b, ops[j]? = some o → o.op ≠ .select cs b) :
    ∀ (l1 l2 : List Nat) (a : Act) (w : World),
      (∀ j ∈ l1, ∃ oj, ops[j]? = some oj ∧ oj.apart ops oi = true ∧ (cl oj.op = .p ∨ cl oi.op = .p ∨ (cl oj.op = .r ∧ cl oi.op = .r))) →
      runT P ops Q (l1 ++ i :: l2) a w → stepT P ops oi (runT P ops Q (l1 ++ l2)) a w := by
  intro l1
  induction l1 with
  | nil =>
    intro l2 a w _ h
    simp only [List.nil_append, runT, hi] at h
    exact h
  | cons j r ih =>
    intro l2 a w hl h
    obtain ⟨oj, hj, hap, hc⟩ := hl j List.mem_cons_self
    simp only [List.cons_append, runT, hj] at h
    have h' : stepT P ops oj (stepT P ops oi (runT P ops Q (r ++ l2))) a w := stepT_mono (fun b w' hb => ih l2 b w' (fun k hk => hl k (List.mem_cons_of_mem _ hk)) hb) h
    have h'' := stepT_swap hap (fun cs b => hsel i oi cs b hi) (fun cs b => hsel j oj cs b hj) hc h'
    refine stepT_mono (fun b w' hb => ?_) h''
    simp only [List.cons_append, runT, hj]
    exact hb

theorem getD_set (listed : Array Bool) (i j : Nat) (d : Bool) (hi : i < listed.size) : (listed.setIfInBounds i true).getD j d = if i = j then true else listed.getD j d := by
  by_cases h : i = j
  · subst h; simp [hi]
  · rw [if_neg h, getD_set_ne d h]

theorem rest_split {n : Nat} {listed : Array Bool} (hn : listed.size = n) {i : Nat} (hi : i < n) (hu : listed.getD i true = false) :
    ∃ l1 l2, rest n listed = l1 ++ i :: l2 ∧ rest n (listed.setIfInBounds i true) = l1 ++ l2 ∧ ∀ j ∈ l1, j < i ∧ listed.getD j true = false := by
  have hsplit : List.range n = List.range i ++ i :: (List.range (n - i - 1)).map (· + (i + 1)) := by
    apply List.ext_getElem
    · simp; omega
    · intro k h1 h2
      simp only [List.getElem_range]
      by_cases hk : k < i
      · rw [List.getElem_append_left (by simpa using hk)]
        simp
      · rw [List.getElem_append_right (by simpa using hk)]
        simp only [List.length_range]
        by_cases hki : k = i
        · subst hki; simp
        · obtain ⟨m, hm⟩ : ∃ m, k - i = m + 1 := ⟨k - i - 1, by omega⟩
          simp only [hm, List.getElem_cons_succ, List.getElem_map, List.getElem_range]
          omega
  refine ⟨(List.range i).filter fun j => !listed.getD j true, ((List.range (n - i - 1)).map (· + (i + 1))).filter fun j => !listed.getD j true, ?_, ?_, ?_⟩
  · unfold rest
    rw [hsplit, List.filter_append, List.filter_cons, if_pos (by rw [hu]; rfl)]
  · unfold rest
    rw [hsplit, List.filter_append, List.filter_cons]
    have e1 : (listed.setIfInBounds i true).getD i true = true := by rw [getD_set _ _ _ _ (by omega), if_pos rfl]
    rw [e1]
    simp only [Bool.not_true, Bool.false_eq_true, if_false]
    congr 1
    · refine List.filter_congr fun j hj => ?_
      have : j < i := by simpa using hj
      rw [getD_set_ne true (by omega)]
    · refine List.filter_congr fun j hj => ?_
      obtain ⟨k, _, rfl⟩ := List.mem_map.1 hj
      rw [getD_set_ne true (by omega)]
  · intro j hj
    rw [List.mem_filter] at hj
    exact ⟨by simpa using hj.1, by simpa using hj.2⟩

theorem wpAny_of_run {B : Array Nat} (hB : textB ops B = true) {Q : Exit → Act → World → Prop} : ∀ (fuel : Nat) (listed : Array Bool) (a : Act) (w : World), listed.size = ops.size → Shut ops listed → (rest ops.size listed).length = fuel →
    runT P ops (fun a w => Q .normal a w) (rest ops.size listed) a w → wpAny P .any ops Q fuel listed a w := by
  have hsel := Region.noSelect_spec (by simp only [textB, Bool.and_eq_true] at hB; exact hB.1)
  intro fuel
  induction fuel with
  | zero =>
    intro listed a w hn hs hl h
    have hnil := List.eq_nil_of_length_eq_zero hl
    rw [hnil] at h
    refine ⟨?_, h⟩
    refine List.eq_nil_iff_forall_not_mem.2 fun i hi => ?_
    obtain ⟨h0, o, ho, _⟩ := mem_ready.1 hi
    have hlt : i < ops.size := (Array.getElem?_eq_some_iff.1 ho).1
    have : i ∈ rest ops.size listed := by
      unfold rest
      rw [List.mem_filter, List.mem_range]
      exact ⟨hlt, by rw [h0]; rfl⟩
    rw [hnil] at this
    cases this
  | succ fuel ih =>
    intro listed a w hn hs hl h
    refine ⟨fun hr => ?_, fun i hi => ?_⟩
    · -- the first of the rest is ready
      exfalso
      cases hrest : rest ops.size listed with
      | nil => rw [hrest] at hl; simp at hl
      | cons x r =>
        -- the least one that is not listed
        have hx : x ∈ rest ops.size listed := by rw [hrest]; exact List.mem_cons_self
        have hex : ∀ k, (∃ i, i ≤ k ∧ i ∈ rest ops.size listed) → ∃ i, i ∈ rest ops.size listed ∧ ∀ j, j < i → j ∉ rest ops.size listed := by
          intro k
          induction k with
          | zero =>
            rintro ⟨i, h1, h2⟩
            exact ⟨i, h2, fun j hj => by omega⟩
          | succ k ihk =>
            rintro ⟨i, h1, h2⟩
            by_cases hlow : ∃ j, j ≤ k ∧ j ∈ rest ops.size listed
            · exact ihk hlow
            · exact ⟨i, h2, fun j hj hm => hlow ⟨j, by omega, hm⟩⟩
        obtain ⟨i, him, hmin⟩ := hex x ⟨x, Nat.le_refl _, hx⟩
        have him' := him
        unfold rest at him'
        rw [List.mem_filter, List.mem_range] at him'
        have ho : ops[i]? = some ops[i] := Array.getElem?_eq_getElem him'.1
        have : i ∈ Region.ready .any ops listed := by
          refine mem_ready.2 ⟨by simpa using him'.2, _, ho, fun e he hb => ?_⟩
          have hlt := (textB_row hB ho).1 e he hb
          have hno := hmin e.on hlt
          unfold rest at hno
          rw [List.mem_filter, List.mem_range] at hno
          have hsz : e.on < listed.size := by omega
          have e1 : listed.getD e.on true = listed.getD e.on false := by simp [hsz]
          cases hb2 : listed.getD e.on false with
          | true => rfl
          | false =>
            rw [hb2] at e1
            exact absurd ⟨by omega, by rw [e1]; rfl⟩ hno
        rw [hr] at this
        cases this
    · obtain ⟨h0, oi, ho, hd⟩ := mem_ready.1 hi
      have hlt : i < ops.size := (Array.getElem?_eq_some_iff.1 ho).1
      obtain ⟨l1, l2, e1, e2, hl1⟩ := rest_split hn hlt h0
      rw [e1] at h
      have hfront := runT_front ho hsel l1 l2 a w (fun j hj => by
        obtain ⟨hji, hju⟩ := hl1 j hj
        have hsw := (textB_row hB ho).2.2 j hji
        have hoj : ops[j]? = some ops[j] := Array.getElem?_eq_getElem (by omega)
        unfold orderedOrSwaps at hsw
        rw [Bool.or_eq_true] at hsw
        rcases hsw with hsw | hsw
        · have := bits_listed hB hs i i (Nat.le_refl _) oi ho hd j hsw
          have hsz : j < listed.size := by omega
          have e3 : listed.getD j true = listed.getD j false := by simp [hsz]
          rw [hju, this] at e3
          cases e3
        · rw [hoj, ho] at hsw
          simp only [Bool.and_eq_true, Bool.or_eq_true, decide_eq_true_eq] at hsw
          exact ⟨_, hoj, hsw.1, by
            rcases hsw.2 with (h | h) | h
            · exact .inl h
            · exact .inr (.inl h)
            · exact .inr (.inr h)⟩) h
      refine wpOp_of_stepT ho (stepT_mono (fun b w' hb => ih _ b w' (by simpa using hn) ?_ ?_ (by rw [e2]; exact hb)) hfront)
      · intro k o hk hkl e he hb
        rw [getD_set _ _ _ _ (by omega)] at hkl
        by_cases hik : i = k
        · subst hik
          rw [ho] at hk
          injection hk with hk
          subst hk
          exact getD_set_true (hd e he hb)
        · rw [if_neg hik] at hkl
          exact getD_set_true (hs k o hk hkl e he hb)
      · rw [e2]
        rw [e1] at hl
        simp only [List.length_append, List.length_cons] at hl ⊢
        omega

/-- The walk over the operations themselves. -/
def textD (P : Program) (ops : Array Oper) (Q : Act → World → Prop) : List Oper → Act → World → Prop
  | [], a, w => Q a w
  | o :: r, a, w => stepT P ops o (textD P ops Q r) a w

theorem runT_of_text {Q : Act → World → Prop} (l : List Oper) : ∀ k, (∀ j, l[j]? = ops[k + j]?) → ∀ a w, textD P ops Q l a w → runT P ops Q (List.range' k l.length) a w := by
  induction l with
  | nil => intro k _ a w h; exact h
  | cons o l ih =>
    intro k h a w hw
    have h0 : ops[k]? = some o := by simpa using (h 0).symm
    simp only [List.length_cons, List.range'_succ, runT, h0]
    exact stepT_mono (fun b w' hb => ih (k + 1) (fun j => by have := h (j + 1); simpa [Nat.add_assoc, Nat.add_comm 1 j] using this) b w' hb) hw

theorem rest_none (n : Nat) : rest n (Array.replicate n false) = List.range n := by
  unfold rest
  refine List.filter_eq_self.2 fun i hi => ?_
  have : i < n := by simpa using hi
  simp [this]

/-- The walk, closed: nothing looks into it by itself. -/
structure wpText (P : Program) (ops : Array Oper) (Q : Act → World → Prop) (l : List Oper) (a : Act) (w : World) : Prop where
  mk :: (out : textD P ops Q l a w)

/-- A REGION OF OPEN ORDER IN THE ORDER OF ITS TEXT. -/
theorem wp_region_text {id : Nat} {Q : Exit → Act → World → Prop} {a : Act} {w : World} {l : List Oper} (hm : P.follows .mixedOrders = true) (hB : textB l.toArray (Region.before l.toArray) = true)
    (h : wpText P l.toArray (fun a w => Q .normal a w) l a w.drew) : (Code.region id l.toArray true).wp P Q a w := by
  refine wp_region_any hm ?_
  have h1 := runT_of_text (ops := l.toArray) l 0 (by simp) a _ h.out
  refine wpAny_of_run hB _ _ _ _ (by simp) ?_ ?_ ?_
  · intro k o hk hl
    by_cases hlt : k < l.length
    · simp [hlt] at hl
    · simp [hlt] at hl
  · rw [rest_none]; simp
  · rw [rest_none]
    rw [List.range_eq_range']
    simpa using h1

/-! The steps, for the walk. -/
variable {Q : Act → World → Prop} {r : List Oper} {o : Oper} {a : Act} {w : World}

theorem text_nil (h : Q a w) : wpText P ops Q [] a w := ⟨h⟩

theorem text_skip (hw : Region.wanted o (yielded ops a.tmps) = false) (h : wpText P ops Q r (a.put o.dst undef) w) : wpText P ops Q (o :: r) a w := by
  refine ⟨?_⟩
  show stepT P ops o (textD P ops Q r) a w
  unfold stepT
  rw [hw]
  exact h.out

/-- .. the frame written out. -/
theorem text_pass {ts : List Value} {ds : List Deferred} {d : Nat} (hd : o.dst = some d) (hw : Region.wanted o (yielded ops ts.toArray) = false) (h : wpText P ops Q r ⟨(ts.set d undef).toArray, ds⟩ w) : wpText P ops Q (o :: r) ⟨ts.toArray, ds⟩ w := by
  refine text_skip hw ?_
  rw [hd]
  simpa [Act.put] using h

/-- If it ends well, it ends in a value. -/
def Vals (s : Sem Next) : Prop := ∀ (P : Program) (w : World) (x : Next) (w' : World), s.run P w = .ok x w' → ∃ v, x = .value v

theorem vals_pure (v : Value) : Vals (pure (.value v)) := fun P w x w' h => by
  rw [Sem.run_pure] at h
  injection h with h _
  exact ⟨_, h.symm⟩

theorem vals_halt (h : Halt) : Vals (.halt h) := fun P w x w' hr => by simp [Sem.run] at hr

theorem vals_bind {α : Type} {s : Sem α} {f : α → Sem Next} (h : ∀ y, Vals (f y)) : Vals (s >>= f) := fun P w x w' hr => by
  rw [Sem.run_bind] at hr
  cases hs : s.run P w with
  | ok y w1 =>
    rw [hs] at hr
    simp only [Result.andThen_ok] at hr
    exact h y P w1 x w' hr
  | halt e w1 =>
    rw [hs] at hr
    simp [Result.andThen] at hr

theorem vals_v (s : Sem Value) : Vals (do pure (.value (← s))) := vals_bind fun y => vals_pure y

theorem vals_ite {c : Prop} [Decidable c] {s t : Sem Next} (h1 : Vals s) (h2 : Vals t) : Vals (if c then s else t) := by split <;> assumption

theorem vals_panic (e : RuntimeError) : Vals (runtimePanic e) := by
  unfold runtimePanic
  refine vals_bind fun p => ?_
  cases e <;> first | exact vals_halt _ | (refine vals_bind fun _ => ?_; first | exact vals_halt _ | (refine vals_bind fun _ => ?_; exact vals_halt _))

theorem value_of_cl {ρ : Operand → Value} {x : Next} {w w' : World} (hc : cl o.op ≠ .a) (h : (execOp ρ o).run P w = .ok x w') : ∃ v, x = .value v := by
  revert h
  suffices Vals (execOp ρ o) from this P w x w'
  obtain ⟨dst, op, type, pos, after, guard⟩ := o
  cases op <;> simp only [cl, ne_eq, not_true_eq_false, not_false_eq_true, reduceCtorEq] at hc
  case move y => exact vals_pure _
  case assign y => exact vals_pure _
  case nilCheck y =>
    simp only [execOp]
    split
    · exact vals_panic _
    · exact vals_panic _
    · exact vals_panic _
    · split
      · exact vals_panic _
      · refine vals_bind fun _ => vals_bind fun _ => vals_ite ?_ ?_
        · exact vals_bind fun _ => vals_pure _
        · exact vals_pure _
      · exact vals_pure _
    · exact vals_pure _
  case pick c s t =>
    simp only [execOp]
    exact vals_bind fun _ => vals_pure _
  case call c =>
    obtain ⟨callee, args, argTypes⟩ := c
    cases callee with
    | value f => exact absurd rfl hc
    | invoke f m => exact absurd rfl hc
    | builtin b =>
      cases b
      case len => exact fun P w x w' h => vals_v (Builtin.len_ argTypes type (args.map ρ)) P w x w' (by simp only [execOp, resolve, Sem.run_bind, Sem.run_pure, Result.andThen_ok, invoke, builtin] at h ⊢; exact h)
      case cap => exact fun P w x w' h => vals_v (Builtin.cap_ argTypes type (args.map ρ)) P w x w' (by simp only [execOp, resolve, Sem.run_bind, Sem.run_pure, Result.andThen_ok, invoke, builtin] at h ⊢; exact h)
      case max => exact fun P w x w' h => vals_v (Builtin.max_ argTypes type (args.map ρ)) P w x w' (by simp only [execOp, resolve, Sem.run_bind, Sem.run_pure, Result.andThen_ok, invoke, builtin] at h ⊢; exact h)
      case min => exact fun P w x w' h => vals_v (Builtin.min_ argTypes type (args.map ρ)) P w x w' (by simp only [execOp, resolve, Sem.run_bind, Sem.run_pure, Result.andThen_ok, invoke, builtin] at h ⊢; exact h)
      all_goals exact absurd rfl hc
  all_goals (simp only [execOp]; exact vals_v _)

/-- It touches no memory: it is run in whatever world. -/
theorem text_p (hw : Region.wanted o (yielded ops a.tmps) = true) (hc : cl o.op = .p) (h : ∀ K : Act → Prop, (∀ a', wpText P ops Q r a' w → K a') → o.quiet P a (fun _ => True) K) : wpText P ops Q (o :: r) a w := by
  obtain ⟨v, h1, h2⟩ := h (fun a' => wpText P ops Q r a' w) (fun _ h => h)
  refine ⟨?_⟩
  show stepT P ops o (textD P ops Q r) a w
  unfold stepT
  rw [if_pos hw, hc]
  refine ⟨v, fun w' => ?_, h2.out⟩
  have h3 := h1 w' trivial
  unfold Oper.quietAt at h3
  cases hr : (execOp a.eval o).run P w' with
  | halt x w1 => rw [hr] at h3; exact h3.elim
  | ok n w1 =>
    obtain ⟨u, rfl⟩ := value_of_cl (by rw [hc]; decide) hr
    rw [hr] at h3
    obtain ⟨e1, e2⟩ := h3
    rw [e1, e2]

/-- It reads memory. -/
theorem text_r (hw : Region.wanted o (yielded ops a.tmps) = true) (hc : cl o.op = .r) (h : ∀ K : Act → Prop, (∀ a', wpText P ops Q r a' w → K a') → o.quiet P a (fun w' => w' = w) K) : wpText P ops Q (o :: r) a w := by
  obtain ⟨v, h1, h2⟩ := h (fun a' => wpText P ops Q r a' w) (fun _ h => h)
  refine ⟨?_⟩
  show stepT P ops o (textD P ops Q r) a w
  unfold stepT
  rw [if_pos hw, hc]
  refine ⟨v, ?_, h2.out⟩
  have h3 := h1 w rfl
  unfold Oper.quietAt at h3
  cases hr : (execOp a.eval o).run P w with
  | halt x w1 => rw [hr] at h3; exact h3.elim
  | ok n w1 =>
    obtain ⟨u, rfl⟩ := value_of_cl (by rw [hc]; decide) hr
    rw [hr] at h3
    obtain ⟨e1, e2⟩ := h3
    rw [e1, e2]

/-- All else. -/
theorem text_a (hw : Region.wanted o (yielded ops a.tmps) = true) (hc : cl o.op = .a) (h : ∀ K : Act → World → Prop, (∀ a' w', wpText P ops Q r a' w' → K a' w') → o.wp P a w K NoQ) : wpText P ops Q (o :: r) a w := by
  refine ⟨?_⟩
  show stepT P ops o (textD P ops Q r) a w
  unfold stepT
  rw [if_pos hw, hc]
  exact outc_of_wp (h _ fun _ _ h => h.out)
end
end Go.Txt
