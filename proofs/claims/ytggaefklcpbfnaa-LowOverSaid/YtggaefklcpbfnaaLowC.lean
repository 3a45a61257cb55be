/- 'awake' of the law's package for low: a run without inputs; it returns true. No statement of the seed is proved here. -/
import Derived.Test.YtggaefklcpbfnaaLowB
import Derived.Test.YtggaefklcpbfnaaAccV
import Derived.Test.YtggaefklcpbfnaaPaFold
import Derived.Test.YtggaefklcpbfnaaPaItem2
namespace Go.Proofs.Ytggaefklcpbfnaa.My
open Go.RowKit Pa Go.Proofs.YtggaefklcpbfnaaW.PrintWords

set_option linter.unusedSimpArgs false
theorem item2_any (a b c d : Int) (w : World) :
    Calls Try.prog 24 #[.int .i64 a, .int .i64 b, .int .i64 c, .int .i64 d] w fun e w' => e = .returned (.agg #[.int .i64 a, .int .i64 b, .int .i64 c, .int .i64 d]) ∧ Below w.heap.size w w' :=
  bournelaw2_item.calls a b c d a b c d w rfl
def itC (x : S26) : List Value := [.int .i64 x.f0, .int .i64 x.f1, .int .i64 x.f2, .int .i64 x.f3]
theorem itC_get : ∀ {xs : List S26} {j : Nat} {p : S26} {i : Nat} {u : Value}, xs[j]? = some p → (itC p)[i]? = some u → (xs.flatMap itC)[j * 4 + i]? = some u
  | [], _, _, _, _, h, _ => by simp at h
  | x :: r, 0, p, i, u, h, hu => by
    simp only [List.getElem?_cons_zero, Option.some.injEq] at h
    subst h
    have hi : i < 4 := by have := (List.getElem?_eq_some_iff.1 hu).1; exact this
    rw [List.flatMap_cons, List.getElem?_append_left (show 0 * 4 + i < (itC x).length by show 0 * 4 + i < 4; omega), Nat.zero_mul, Nat.zero_add]
    exact hu
  | x :: r, j + 1, p, i, u, h, hu => by
    rw [List.flatMap_cons, List.getElem?_append_right (show (itC x).length ≤ (j + 1) * 4 + i by show 4 ≤ _; omega), show (j + 1) * 4 + i - (itC x).length = j * 4 + i by show (j + 1) * 4 + i - 4 = _; omega]
    exact itC_get (by simpa using h) hu
theorem rdT_blk {w : World} {b : Nat} {xs : List S26} {T : TypeId} {fr : Nat × Nat} (h : w.heap[b]? = some (.cells (xs.flatMap itC).toArray T fr)) (hl : xs.length ≤ 1000) : Kd.C k26 w (some ⟨b, 0, none⟩) xs.length xs := by
  refine ⟨rfl, by omega, fun _ => ⟨_, rfl, fun j p hp => ⟨itC p, rfl, k26_mk w p, fun i u hu => ?_⟩⟩⟩
  rw [show j * k26.sz + i = j * 4 + i from rfl, add_plain, blk_cell h, List.getElem?_toArray]
  exact itC_get hp hu
/-- A fold, told. -/
theorem fold_any (k : Nat) (xs : List S26) (bs : List Int) (X : S28) (A0 : Option Addr) (c0 : Nat) (A1 : Option Addr) (c1 : Nat) (w : World) (h0 : Kd.C k26 w A0 xs.length xs) (hc0 : xs.length ≤ c0) (h1 : RdI w A1 bs) (hc1 : bs.length ≤ c1) (h : bournelaw2_fold.f k xs bs = some (X.f0, X.f1, X.f2, X.f3, X.f4.f0, X.f4.f1, X.f4.f2, X.f4.f3, X.f5.f0, X.f5.f1, X.f5.f2, X.f5.f3, X.f6)) :
    Calls Try.prog 25 #[.slice A0 xs.length c0, .slice A1 bs.length c1] w fun e w' => ∃ v, e = .returned (acV X v) ∧ Own w' w.heap.size v X.f6 ∧ Below w.heap.size w w' :=
  (bournelaw2_fold.calls k A0 c0 xs A1 c1 bs _ _ _ _ _ _ _ _ _ _ _ _ _ w h0 hc0 h1 hc1 h).mono fun _ _ ⟨v, he, ho, hb⟩ => ⟨v, he, Kd.own_of_R ho, hb⟩
/-- A variable that holds what is told. -/
def OVar (w : World) (b : Nat) (n : Int) (t : Bool) (h : List Int) (A : Option Addr) (c : Nat) : Prop := w.heap[b]? = some (ouO n t (.slice A h.length c)) ∧ h.length ≤ c ∧ RdI w A h
theorem OVar.below {w w1 : World} {b : Nat} {n : Int} {t : Bool} {h : List Int} {A : Option Addr} {c : Nat} (v : OVar w b n t h A c) (hb : Below w.heap.size w w1) : OVar w1 b n t h A c := ⟨blk_below v.1 hb, v.2.1, Kd.C_below v.2.2 hb⟩
theorem OVar.new {w : World} {n : Int} {t : Bool} {h : List Int} {A : Option Addr} {c : Nat} (hl : h.length ≤ c) (hr : RdI w A h) : OVar (w.alloc (ouO n t (.slice A h.length c))) w.heap.size n t h A c :=
  ⟨heap_alloc_new w _, hl, Kd.C_below hr ((Below.refl _ _).alloc (Nat.le_refl _) _)⟩
theorem sameI_yes (l : List Int) (A B : Option Addr) (c d : Nat) (w : World) (hA : RdI w A l) (hc : l.length ≤ c) (hB : RdI w B l) (hd : l.length ≤ d) (hl : l.length ≤ 4398046511104) :
    Calls Try.prog 39 #[.slice A l.length c, .slice B l.length d] w fun e w' => e = .returned (.bool true) ∧ Below w.heap.size w w' :=
  (bournelaw0_SameInts.calls (l.length + 1) A c l B d l true w hA hc hB hd (by
    unfold bournelaw0_SameInts.f
    have h := same_loop l hl l.length 0 (l.length + 1) (by omega) (by omega)
    simp only [Int.natCast_zero] at h
    simp [h])).mono fun _ _ h => ⟨h.1, h.2.below⟩

set_option maxHeartbeats 8000000 in
set_option maxRecDepth 100000 in
theorem awake2_any (w : World) : Calls Try.prog 23 #[] w fun e w' => e = .returned (.bool true) ∧ Below w.heap.size w w' := by
  have HW := Lib.hid (Below.refl w.heap.size w)
  obtain ⟨w0, hw0⟩ : ∃ w0, w0 = w := ⟨_, rfl⟩
  rw [show Calls Try.prog 23 #[] w = Calls Try.prog 23 #[] w0 by rw [hw0]]
  rw [show Below w.heap.size w w = Below w.heap.size w w0 by rw [hw0]] at HW
  clear hw0
  go_enter Try.func23, Try.ntmps23
  go_wp2_with fail
  refine (item2_any 1 1 1 (4) _).mono ?_
  rintro e w1 ⟨rfl, hb⟩
  replace HW := Lib.hid (HW.out.trans (hb.mono HW.out.size))
  clear hb
  go_wp2_with fail
  refine (item2_any 1 2 2 (9) _).mono ?_
  rintro e w2 ⟨rfl, hb⟩
  replace HW := Lib.hid (HW.out.trans (hb.mono HW.out.size))
  clear hb
  go_wp2_with fail
  refine (item2_any 1 3 3 (-2) _).mono ?_
  rintro e w3 ⟨rfl, hb⟩
  replace HW := Lib.hid (HW.out.trans (hb.mono HW.out.size))
  clear hb
  go_wp2_with fail
  have hnew := heap_alloc_new w3 (.cells #[.int .i64 (1), .int .i64 (1), .int .i64 (1), .int .i64 (4), .int .i64 (1), .int .i64 (2), .int .i64 (2), .int .i64 (9), .int .i64 (1), .int .i64 (3), .int .i64 (3), .int .i64 (-2)] 26)
  have hb : Below w3.heap.size w3 (w3.alloc (.cells #[.int .i64 (1), .int .i64 (1), .int .i64 (1), .int .i64 (4), .int .i64 (1), .int .i64 (2), .int .i64 (2), .int .i64 (9), .int .i64 (1), .int .i64 (3), .int .i64 (3), .int .i64 (-2)] 26)) := (Below.refl _ _).alloc (Nat.le_refl _) _
  show Calls _ _ _ (w3.alloc (.cells #[.int .i64 (1), .int .i64 (1), .int .i64 (1), .int .i64 (4), .int .i64 (1), .int .i64 (2), .int .i64 (2), .int .i64 (9), .int .i64 (1), .int .i64 (3), .int .i64 (3), .int .i64 (-2)] 26)) _
  replace HW := Lib.hid (HW.out.trans (hb.mono HW.out.size))
  clear hb
  generalize w3.alloc (.cells #[.int .i64 (1), .int .i64 (1), .int .i64 (1), .int .i64 (4), .int .i64 (1), .int .i64 (2), .int .i64 (2), .int .i64 (9), .int .i64 (1), .int .i64 (3), .int .i64 (3), .int .i64 (-2)] 26) = w4 at *
  generalize w3.heap.size = ba at *
  have Hba := Lib.hid (show Kd.C k26 w4 (some ⟨ba, 0, none⟩) 3 ([⟨1, 1, 1, 4⟩, ⟨1, 2, 2, 9⟩, ⟨1, 3, 3, -2⟩] : List S26) from rdT_blk (xs := [⟨1, 1, 1, 4⟩, ⟨1, 2, 2, 9⟩, ⟨1, 3, 3, -2⟩]) hnew (by decide))
  clear hnew
  refine (fold_any 9 [⟨1, 1, 1, 4⟩, ⟨1, 2, 2, 9⟩, ⟨1, 3, 3, -2⟩] [] ⟨3, 11, -2, 9, ⟨1, 1, 1, 4⟩, ⟨1, 3, 3, -2⟩, [3]⟩ (some ⟨ba, 0, none⟩) 3 none 0 _ Hba.out (by decide) (rdI_nil _) (by decide) (by kernel_rfl)).mono ?_
  rintro e w5 ⟨v, rfl, how, hb⟩
  obtain ⟨Aa, ca, rfl, hla, hr⟩ := how.reads
  simp only [acV, List.length_cons, List.length_nil, Nat.zero_add, Nat.reduceAdd]
  clear how
  replace HW := Lib.hid (HW.out.trans (hb.mono HW.out.size))
  clear hb
  have HRa := Lib.hid hr
  have HLa := Lib.hid hla
  clear hr hla
  clear Hba
  have Va := Lib.hid (AVar.new (w := w5) (a := ⟨3, 11, -2, 9, ⟨1, 1, 1, 4⟩, ⟨1, 3, 3, -2⟩, [3]⟩) HLa.out HRa.out)
  have hb : Below w5.heap.size w5 (w5.alloc (acO ⟨3, 11, -2, 9, ⟨1, 1, 1, 4⟩, ⟨1, 3, 3, -2⟩, [3]⟩ (.slice Aa 1 ca))) := (Below.refl _ _).alloc (Nat.le_refl _) _
  clear HLa HRa
  replace HW := Lib.hid (HW.out.trans (hb.mono HW.out.size))
  clear hb
  go_wp2_with fail
  show Calls _ _ _ (w5.alloc (acO ⟨3, 11, -2, 9, ⟨1, 1, 1, 4⟩, ⟨1, 3, 3, -2⟩, [3]⟩ (.slice Aa 1 ca))) _
  change Hid (AVar (w5.alloc (acO ⟨3, 11, -2, 9, ⟨1, 1, 1, 4⟩, ⟨1, 3, 3, -2⟩, [3]⟩ (.slice Aa 1 ca))) _ _ _ _) at Va
  generalize w5.alloc (acO ⟨3, 11, -2, 9, ⟨1, 1, 1, 4⟩, ⟨1, 3, 3, -2⟩, [3]⟩ (.slice Aa 1 ca)) = w6 at *
  generalize w5.heap.size = bka at *
  refine (item2_any 1 1 1 (4) _).mono ?_
  rintro e w7 ⟨rfl, hb⟩
  replace HW := Lib.hid (HW.out.trans (hb.mono HW.out.size))
  replace Va := Lib.hid (Va.out.below hb)
  clear hb
  go_wp2_with fail
  refine (item2_any 1 2 2 (9) _).mono ?_
  rintro e w8 ⟨rfl, hb⟩
  replace HW := Lib.hid (HW.out.trans (hb.mono HW.out.size))
  replace Va := Lib.hid (Va.out.below hb)
  clear hb
  go_wp2_with fail
  refine (item2_any 1 3 3 (-2) _).mono ?_
  rintro e w9 ⟨rfl, hb⟩
  replace HW := Lib.hid (HW.out.trans (hb.mono HW.out.size))
  replace Va := Lib.hid (Va.out.below hb)
  clear hb
  go_wp2_with fail
  show Calls _ _ _ ((w9.alloc (.cells #[.int .i64 (1), .int .i64 (1), .int .i64 (1), .int .i64 (4), .int .i64 (1), .int .i64 (2), .int .i64 (2), .int .i64 (9), .int .i64 (1), .int .i64 (3), .int .i64 (3), .int .i64 (-2)] 26)).alloc (.cells #[.int .i64 (0), .int .i64 (5)] 3)) _
  have hp1 := heap_alloc_new w9 (.cells #[.int .i64 (1), .int .i64 (1), .int .i64 (1), .int .i64 (4), .int .i64 (1), .int .i64 (2), .int .i64 (2), .int .i64 (9), .int .i64 (1), .int .i64 (3), .int .i64 (3), .int .i64 (-2)] 26)
  have hsz : (w9.alloc (.cells #[.int .i64 (1), .int .i64 (1), .int .i64 (1), .int .i64 (4), .int .i64 (1), .int .i64 (2), .int .i64 (2), .int .i64 (9), .int .i64 (1), .int .i64 (3), .int .i64 (3), .int .i64 (-2)] 26)).heap.size = w9.heap.size + 1 := by simp
  have hp2 := heap_alloc_new (w9.alloc (.cells #[.int .i64 (1), .int .i64 (1), .int .i64 (1), .int .i64 (4), .int .i64 (1), .int .i64 (2), .int .i64 (2), .int .i64 (9), .int .i64 (1), .int .i64 (3), .int .i64 (3), .int .i64 (-2)] 26)) (.cells #[.int .i64 (0), .int .i64 (5)] 3)
  have hb : Below w9.heap.size w9 (w9.alloc (.cells #[.int .i64 (1), .int .i64 (1), .int .i64 (1), .int .i64 (4), .int .i64 (1), .int .i64 (2), .int .i64 (2), .int .i64 (9), .int .i64 (1), .int .i64 (3), .int .i64 (3), .int .i64 (-2)] 26)) := (Below.refl _ _).alloc (Nat.le_refl _) _
  replace HW := Lib.hid (HW.out.trans (hb.mono HW.out.size))
  replace Va := Lib.hid (Va.out.below hb)
  clear hb
  have hb : Below (w9.alloc (.cells #[.int .i64 (1), .int .i64 (1), .int .i64 (1), .int .i64 (4), .int .i64 (1), .int .i64 (2), .int .i64 (2), .int .i64 (9), .int .i64 (1), .int .i64 (3), .int .i64 (3), .int .i64 (-2)] 26)).heap.size (w9.alloc (.cells #[.int .i64 (1), .int .i64 (1), .int .i64 (1), .int .i64 (4), .int .i64 (1), .int .i64 (2), .int .i64 (2), .int .i64 (9), .int .i64 (1), .int .i64 (3), .int .i64 (3), .int .i64 (-2)] 26)) ((w9.alloc (.cells #[.int .i64 (1), .int .i64 (1), .int .i64 (1), .int .i64 (4), .int .i64 (1), .int .i64 (2), .int .i64 (2), .int .i64 (9), .int .i64 (1), .int .i64 (3), .int .i64 (3), .int .i64 (-2)] 26)).alloc (.cells #[.int .i64 (0), .int .i64 (5)] 3)) := (Below.refl _ _).alloc (Nat.le_refl _) _
  replace hp1 := blk_below hp1 hb
  replace HW := Lib.hid (HW.out.trans (hb.mono HW.out.size))
  replace Va := Lib.hid (Va.out.below hb)
  clear hb
  rw [hsz] at hp2
  clear hsz
  generalize (w9.alloc (.cells #[.int .i64 (1), .int .i64 (1), .int .i64 (1), .int .i64 (4), .int .i64 (1), .int .i64 (2), .int .i64 (2), .int .i64 (9), .int .i64 (1), .int .i64 (3), .int .i64 (3), .int .i64 (-2)] 26)).alloc (.cells #[.int .i64 (0), .int .i64 (5)] 3) = w10 at *
  obtain ⟨bc, he2⟩ : ∃ pb, w9.heap.size + 1 = pb := ⟨_, rfl⟩
  rw [he2] at hp2 ⊢
  clear he2
  generalize w9.heap.size = bb at *
  have Hbb := Lib.hid (show Kd.C k26 w10 (some ⟨bb, 0, none⟩) 3 ([⟨1, 1, 1, 4⟩, ⟨1, 2, 2, 9⟩, ⟨1, 3, 3, -2⟩] : List S26) from rdT_blk (xs := [⟨1, 1, 1, 4⟩, ⟨1, 2, 2, 9⟩, ⟨1, 3, 3, -2⟩]) hp1 (by decide))
  have Hbc := Lib.hid (show RdI w10 (some ⟨bc, 0, none⟩) [0, 5] from rdI_blk (l := [0, 5]) hp2 (by decide))
  clear hp1 hp2
  refine (fold_any 9 [⟨1, 1, 1, 4⟩, ⟨1, 2, 2, 9⟩, ⟨1, 3, 3, -2⟩] [0, 5] ⟨3, 11, -2, 9, ⟨1, 1, 1, 4⟩, ⟨1, 3, 3, -2⟩, [1, 1, 1]⟩ (some ⟨bb, 0, none⟩) 3 (some ⟨bc, 0, none⟩) 2 _ Hbb.out (by decide) Hbc.out (by decide) (by kernel_rfl)).mono ?_
  rintro e w11 ⟨v, rfl, how, hb⟩
  obtain ⟨Ab, cb, rfl, hlb, hr⟩ := how.reads
  simp only [acV, List.length_cons, List.length_nil, Nat.zero_add, Nat.reduceAdd]
  clear how
  replace HW := Lib.hid (HW.out.trans (hb.mono HW.out.size))
  replace Va := Lib.hid (Va.out.below hb)
  clear hb
  have HRb := Lib.hid hr
  have HLb := Lib.hid hlb
  clear hr hlb
  clear Hbb Hbc
  have Vb := Lib.hid (AVar.new (w := w11) (a := ⟨3, 11, -2, 9, ⟨1, 1, 1, 4⟩, ⟨1, 3, 3, -2⟩, [1, 1, 1]⟩) HLb.out HRb.out)
  have hb : Below w11.heap.size w11 (w11.alloc (acO ⟨3, 11, -2, 9, ⟨1, 1, 1, 4⟩, ⟨1, 3, 3, -2⟩, [1, 1, 1]⟩ (.slice Ab 3 cb))) := (Below.refl _ _).alloc (Nat.le_refl _) _
  clear HLb HRb
  replace HW := Lib.hid (HW.out.trans (hb.mono HW.out.size))
  replace Va := Lib.hid (Va.out.below hb)
  clear hb
  change Hid (AVar (w11.alloc (acO ⟨3, 11, -2, 9, ⟨1, 1, 1, 4⟩, ⟨1, 3, 3, -2⟩, [1, 1, 1]⟩ (.slice Ab 3 cb))) _ _ _ _) at Vb
  obtain ⟨a0, a1, a2, a3, a4, a5, a6, a7, a8, a9, a10, a11, a12, al⟩ := acO_facts Va.out.1
  simp only [acO, ouO, List.length_cons, List.length_nil, Nat.zero_add, Nat.reduceAdd] at a0 a1 a2 a3 a4 a5 a6 a7 a8 a9 a10 a11 a12 al
  go_wp2_with fail
  show Calls _ _ _ (w11.alloc (acO ⟨3, 11, -2, 9, ⟨1, 1, 1, 4⟩, ⟨1, 3, 3, -2⟩, [1, 1, 1]⟩ (.slice Ab 3 cb))) _
  clear a0 a1 a2 a3 a4 a5 a6 a7 a8 a9 a10 a11 a12 al
  generalize w11.alloc (acO ⟨3, 11, -2, 9, ⟨1, 1, 1, 4⟩, ⟨1, 3, 3, -2⟩, [1, 1, 1]⟩ (.slice Ab 3 cb)) = w12 at *
  generalize w11.heap.size = bkb at *
  refine (value_any ⟨0, 1, 0, 0, 0⟩ [] ⟨3, 11, -2, 9, ⟨1, 1, 1, 4⟩, ⟨1, 3, 3, -2⟩, [3]⟩ none 0 Aa ca _ (rdI_nil _) (by decide) Va.out.2.2 Va.out.2.1).mono ?_
  rintro e w13 ⟨v, rfl, how, hb⟩
  rw [show valRes ⟨0, 1, 0, 0, 0⟩ [] ⟨3, 11, -2, 9, ⟨1, 1, 1, 4⟩, ⟨1, 3, 3, -2⟩, [3]⟩ = ((((11 : Int), false, ([] : List Int))), (0 : Int)) from by kernel_rfl] at how ⊢
  obtain ⟨Ax, cx, rfl, hl, hr⟩ := how.reads
  simp only [ouV, List.length_cons, List.length_nil, Nat.zero_add, Nat.reduceAdd]
  clear how
  replace HW := Lib.hid (HW.out.trans (hb.mono HW.out.size))
  replace Va := Lib.hid (Va.out.below hb)
  replace Vb := Lib.hid (Vb.out.below hb)
  clear hb
  obtain ⟨b0, b1, b2, b3, b4, b5, b6, b7, b8, b9, b10, b11, b12, bl⟩ := acO_facts Vb.out.1
  simp only [acO, ouO, List.length_cons, List.length_nil, Nat.zero_add, Nat.reduceAdd] at b0 b1 b2 b3 b4 b5 b6 b7 b8 b9 b10 b11 b12 bl
  have Vx := Lib.hid (OVar.new (w := w13) (n := 11) (t := false) (h := []) hl hr)
  have hb : Below w13.heap.size w13 (w13.alloc (ouO 11 false (.slice Ax 0 cx))) := (Below.refl _ _).alloc (Nat.le_refl _) _
  clear hl hr
  replace HW := Lib.hid (HW.out.trans (hb.mono HW.out.size))
  replace Va := Lib.hid (Va.out.below hb)
  replace Vb := Lib.hid (Vb.out.below hb)
  clear hb
  change Hid (OVar (w13.alloc (ouO 11 false (.slice Ax 0 cx))) _ _ _ _ _ _) at Vx
  go_wp2_with fail
  show Calls _ _ _ ((w13.alloc (ouO 11 false (.slice Ax 0 cx))).alloc (.cells #[.int .i64 (0), .int .i64 (5)] 3)) _
  clear b0 b1 b2 b3 b4 b5 b6 b7 b8 b9 b10 b11 b12 bl
  have hsz : (w13.alloc (ouO 11 false (.slice Ax 0 cx))).heap.size = w13.heap.size + 1 := by simp
  have hp2 := heap_alloc_new (w13.alloc (ouO 11 false (.slice Ax 0 cx))) (.cells #[.int .i64 (0), .int .i64 (5)] 3)
  have hb : Below (w13.alloc (ouO 11 false (.slice Ax 0 cx))).heap.size (w13.alloc (ouO 11 false (.slice Ax 0 cx))) ((w13.alloc (ouO 11 false (.slice Ax 0 cx))).alloc (.cells #[.int .i64 (0), .int .i64 (5)] 3)) := (Below.refl _ _).alloc (Nat.le_refl _) _
  replace HW := Lib.hid (HW.out.trans (hb.mono HW.out.size))
  replace Va := Lib.hid (Va.out.below hb)
  replace Vb := Lib.hid (Vb.out.below hb)
  replace Vx := Lib.hid (Vx.out.below hb)
  clear hb
  rw [hsz] at hp2
  clear hsz
  generalize (w13.alloc (ouO 11 false (.slice Ax 0 cx))).alloc (.cells #[.int .i64 (0), .int .i64 (5)] 3) = w14 at *
  obtain ⟨bd, he2⟩ : ∃ pb, w13.heap.size + 1 = pb := ⟨_, rfl⟩
  rw [he2] at hp2 ⊢
  clear he2
  generalize w13.heap.size = bkx at *
  have Hbd := Lib.hid (show RdI w14 (some ⟨bd, 0, none⟩) [0, 5] from rdI_blk (l := [0, 5]) hp2 (by decide))
  clear hp2
  refine (value_any ⟨0, 7, 0, 0, 500⟩ [0, 5] ⟨3, 11, -2, 9, ⟨1, 1, 1, 4⟩, ⟨1, 3, 3, -2⟩, [1, 1, 1]⟩ (some ⟨bd, 0, none⟩) 2 Ab cb _ Hbd.out (by decide) Vb.out.2.2 Vb.out.2.1).mono ?_
  rintro e w15 ⟨v, rfl, how, hb⟩
  rw [show valRes ⟨0, 7, 0, 0, 500⟩ [0, 5] ⟨3, 11, -2, 9, ⟨1, 1, 1, 4⟩, ⟨1, 3, 3, -2⟩, [1, 1, 1]⟩ = ((((5 : Int), false, ([] : List Int))), (0 : Int)) from by kernel_rfl] at how ⊢
  obtain ⟨Ay, cy, rfl, hl, hr⟩ := how.reads
  simp only [ouV, List.length_cons, List.length_nil, Nat.zero_add, Nat.reduceAdd]
  clear how
  replace HW := Lib.hid (HW.out.trans (hb.mono HW.out.size))
  replace Va := Lib.hid (Va.out.below hb)
  replace Vb := Lib.hid (Vb.out.below hb)
  replace Vx := Lib.hid (Vx.out.below hb)
  clear hb
  obtain ⟨b0, b1, b2, b3, b4, b5, b6, b7, b8, b9, b10, b11, b12, bl⟩ := acO_facts Vb.out.1
  simp only [acO, ouO, List.length_cons, List.length_nil, Nat.zero_add, Nat.reduceAdd] at b0 b1 b2 b3 b4 b5 b6 b7 b8 b9 b10 b11 b12 bl
  have Vy := Lib.hid (OVar.new (w := w15) (n := 5) (t := false) (h := []) hl hr)
  have hb : Below w15.heap.size w15 (w15.alloc (ouO 5 false (.slice Ay 0 cy))) := (Below.refl _ _).alloc (Nat.le_refl _) _
  clear hl hr
  replace HW := Lib.hid (HW.out.trans (hb.mono HW.out.size))
  replace Va := Lib.hid (Va.out.below hb)
  replace Vb := Lib.hid (Vb.out.below hb)
  replace Vx := Lib.hid (Vx.out.below hb)
  clear hb
  clear Hbd
  change Hid (OVar (w15.alloc (ouO 5 false (.slice Ay 0 cy))) _ _ _ _ _ _) at Vy
  go_wp2_with fail
  show Calls _ _ _ ((w15.alloc (ouO 5 false (.slice Ay 0 cy))).alloc (.cells #[.int .i64 (0), .int .i64 (5)] 3)) _
  clear b0 b1 b2 b3 b4 b5 b6 b7 b8 b9 b10 b11 b12 bl
  have hsz : (w15.alloc (ouO 5 false (.slice Ay 0 cy))).heap.size = w15.heap.size + 1 := by simp
  have hp2 := heap_alloc_new (w15.alloc (ouO 5 false (.slice Ay 0 cy))) (.cells #[.int .i64 (0), .int .i64 (5)] 3)
  have hb : Below (w15.alloc (ouO 5 false (.slice Ay 0 cy))).heap.size (w15.alloc (ouO 5 false (.slice Ay 0 cy))) ((w15.alloc (ouO 5 false (.slice Ay 0 cy))).alloc (.cells #[.int .i64 (0), .int .i64 (5)] 3)) := (Below.refl _ _).alloc (Nat.le_refl _) _
  replace HW := Lib.hid (HW.out.trans (hb.mono HW.out.size))
  replace Va := Lib.hid (Va.out.below hb)
  replace Vb := Lib.hid (Vb.out.below hb)
  replace Vx := Lib.hid (Vx.out.below hb)
  replace Vy := Lib.hid (Vy.out.below hb)
  clear hb
  rw [hsz] at hp2
  clear hsz
  generalize (w15.alloc (ouO 5 false (.slice Ay 0 cy))).alloc (.cells #[.int .i64 (0), .int .i64 (5)] 3) = w16 at *
  obtain ⟨be, he2⟩ : ∃ pb, w15.heap.size + 1 = pb := ⟨_, rfl⟩
  rw [he2] at hp2 ⊢
  clear he2
  generalize w15.heap.size = bky at *
  have Hbe := Lib.hid (show RdI w16 (some ⟨be, 0, none⟩) [0, 5] from rdI_blk (l := [0, 5]) hp2 (by decide))
  clear hp2
  refine (value_any ⟨0, 7, 0, 0, 1000⟩ [0, 5] ⟨3, 11, -2, 9, ⟨1, 1, 1, 4⟩, ⟨1, 3, 3, -2⟩, [1, 1, 1]⟩ (some ⟨be, 0, none⟩) 2 Ab cb _ Hbe.out (by decide) Vb.out.2.2 Vb.out.2.1).mono ?_
  rintro e w17 ⟨v, rfl, how, hb⟩
  rw [show valRes ⟨0, 7, 0, 0, 1000⟩ [0, 5] ⟨3, 11, -2, 9, ⟨1, 1, 1, 4⟩, ⟨1, 3, 3, -2⟩, [1, 1, 1]⟩ = ((((9 : Int), false, ([] : List Int))), (0 : Int)) from by kernel_rfl] at how ⊢
  obtain ⟨Az, cz, rfl, hl, hr⟩ := how.reads
  simp only [ouV, List.length_cons, List.length_nil, Nat.zero_add, Nat.reduceAdd]
  clear how
  replace HW := Lib.hid (HW.out.trans (hb.mono HW.out.size))
  replace Va := Lib.hid (Va.out.below hb)
  replace Vb := Lib.hid (Vb.out.below hb)
  replace Vx := Lib.hid (Vx.out.below hb)
  replace Vy := Lib.hid (Vy.out.below hb)
  clear hb
  have Vz := Lib.hid (OVar.new (w := w17) (n := 9) (t := false) (h := []) hl hr)
  have hb : Below w17.heap.size w17 (w17.alloc (ouO 9 false (.slice Az 0 cz))) := (Below.refl _ _).alloc (Nat.le_refl _) _
  clear hl hr
  replace HW := Lib.hid (HW.out.trans (hb.mono HW.out.size))
  replace Va := Lib.hid (Va.out.below hb)
  replace Vb := Lib.hid (Vb.out.below hb)
  replace Vx := Lib.hid (Vx.out.below hb)
  replace Vy := Lib.hid (Vy.out.below hb)
  clear hb
  clear Hbe
  change Hid (OVar (w17.alloc (ouO 9 false (.slice Az 0 cz))) _ _ _ _ _ _) at Vz
  go_wp2_with fail
  show Calls _ _ _ (w17.alloc (ouO 9 false (.slice Az 0 cz))) _
  generalize w17.alloc (ouO 9 false (.slice Az 0 cz)) = w18 at *
  generalize w17.heap.size = bkz at *
  refine (fold_any 9 [] [] ⟨0, 0, 0, 0, ⟨0, 0, 0, 0⟩, ⟨0, 0, 0, 0⟩, [0]⟩ none 0 none 0 _ (Kd.C_nil _ _) (by decide) (rdI_nil _) (by decide) (by kernel_rfl)).mono ?_
  rintro e w19 ⟨v, rfl, how, hb⟩
  obtain ⟨An, cn, rfl, hln, hr⟩ := how.reads
  simp only [acV, List.length_cons, List.length_nil, Nat.zero_add, Nat.reduceAdd]
  clear how
  replace HW := Lib.hid (HW.out.trans (hb.mono HW.out.size))
  replace Va := Lib.hid (Va.out.below hb)
  replace Vb := Lib.hid (Vb.out.below hb)
  replace Vx := Lib.hid (Vx.out.below hb)
  replace Vy := Lib.hid (Vy.out.below hb)
  replace Vz := Lib.hid (Vz.out.below hb)
  clear hb
  have HRn := Lib.hid hr
  have HLn := Lib.hid hln
  clear hr hln
  go_wp2_with fail
  refine (value_any ⟨0, 0, 0, 0, 0⟩ [] ⟨0, 0, 0, 0, ⟨0, 0, 0, 0⟩, ⟨0, 0, 0, 0⟩, [0]⟩ none 0 An cn _ (rdI_nil _) (by decide) HRn.out HLn.out).mono ?_
  rintro e w20 ⟨v, rfl, how, hb⟩
  rw [show valRes ⟨0, 0, 0, 0, 0⟩ [] ⟨0, 0, 0, 0, ⟨0, 0, 0, 0⟩, ⟨0, 0, 0, 0⟩, [0]⟩ = ((((0 : Int), false, ([] : List Int))), (200 : Int)) from by kernel_rfl] at how ⊢
  obtain ⟨Au, cu, rfl, hl, hr⟩ := how.reads
  simp only [ouV, List.length_cons, List.length_nil, Nat.zero_add, Nat.reduceAdd]
  clear how
  replace HW := Lib.hid (HW.out.trans (hb.mono HW.out.size))
  replace Va := Lib.hid (Va.out.below hb)
  replace Vb := Lib.hid (Vb.out.below hb)
  replace Vx := Lib.hid (Vx.out.below hb)
  replace Vy := Lib.hid (Vy.out.below hb)
  replace Vz := Lib.hid (Vz.out.below hb)
  clear hb
  obtain ⟨b0, b1, b2, b3, b4, b5, b6, b7, b8, b9, b10, b11, b12, bl⟩ := acO_facts Vb.out.1
  simp only [acO, ouO, List.length_cons, List.length_nil, Nat.zero_add, Nat.reduceAdd] at b0 b1 b2 b3 b4 b5 b6 b7 b8 b9 b10 b11 b12 bl
  have Vu := Lib.hid (OVar.new (w := w20) (n := 0) (t := false) (h := []) hl hr)
  have hb : Below w20.heap.size w20 (w20.alloc (ouO 0 false (.slice Au 0 cu))) := (Below.refl _ _).alloc (Nat.le_refl _) _
  clear hl hr
  replace HW := Lib.hid (HW.out.trans (hb.mono HW.out.size))
  replace Va := Lib.hid (Va.out.below hb)
  replace Vb := Lib.hid (Vb.out.below hb)
  replace Vx := Lib.hid (Vx.out.below hb)
  replace Vy := Lib.hid (Vy.out.below hb)
  replace Vz := Lib.hid (Vz.out.below hb)
  clear hb
  clear HRn HLn
  change Hid (OVar (w20.alloc (ouO 0 false (.slice Au 0 cu))) _ _ _ _ _ _) at Vu
  go_wp2_with fail
  show Calls _ _ _ ((w20.alloc (ouO 0 false (.slice Au 0 cu))).alloc (.cells #[.int .i64 (0), .int .i64 (5)] 3)) _
  clear b0 b1 b2 b3 b4 b5 b6 b7 b8 b9 b10 b11 b12 bl
  have hsz : (w20.alloc (ouO 0 false (.slice Au 0 cu))).heap.size = w20.heap.size + 1 := by simp
  have hp2 := heap_alloc_new (w20.alloc (ouO 0 false (.slice Au 0 cu))) (.cells #[.int .i64 (0), .int .i64 (5)] 3)
  have hb : Below (w20.alloc (ouO 0 false (.slice Au 0 cu))).heap.size (w20.alloc (ouO 0 false (.slice Au 0 cu))) ((w20.alloc (ouO 0 false (.slice Au 0 cu))).alloc (.cells #[.int .i64 (0), .int .i64 (5)] 3)) := (Below.refl _ _).alloc (Nat.le_refl _) _
  replace HW := Lib.hid (HW.out.trans (hb.mono HW.out.size))
  replace Va := Lib.hid (Va.out.below hb)
  replace Vb := Lib.hid (Vb.out.below hb)
  replace Vx := Lib.hid (Vx.out.below hb)
  replace Vy := Lib.hid (Vy.out.below hb)
  replace Vz := Lib.hid (Vz.out.below hb)
  replace Vu := Lib.hid (Vu.out.below hb)
  clear hb
  rw [hsz] at hp2
  clear hsz
  generalize (w20.alloc (ouO 0 false (.slice Au 0 cu))).alloc (.cells #[.int .i64 (0), .int .i64 (5)] 3) = w21 at *
  obtain ⟨bf, he2⟩ : ∃ pb, w20.heap.size + 1 = pb := ⟨_, rfl⟩
  rw [he2] at hp2 ⊢
  clear he2
  generalize w20.heap.size = bku at *
  have Hbf := Lib.hid (show RdI w21 (some ⟨bf, 0, none⟩) [0, 5] from rdI_blk (l := [0, 5]) hp2 (by decide))
  clear hp2
  refine (value_any ⟨0, 6, 0, 0, 0⟩ [0, 5] ⟨3, 11, -2, 9, ⟨1, 1, 1, 4⟩, ⟨1, 3, 3, -2⟩, [1, 1, 1]⟩ (some ⟨bf, 0, none⟩) 2 Ab cb _ Hbf.out (by decide) Vb.out.2.2 Vb.out.2.1).mono ?_
  rintro e w22 ⟨v, rfl, how, hb⟩
  rw [show valRes ⟨0, 6, 0, 0, 0⟩ [0, 5] ⟨3, 11, -2, 9, ⟨1, 1, 1, 4⟩, ⟨1, 3, 3, -2⟩, [1, 1, 1]⟩ = ((((0 : Int), false, ([1, 1, 1] : List Int))), (0 : Int)) from by kernel_rfl] at how ⊢
  obtain ⟨Av, cv, rfl, hl, hr⟩ := how.reads
  simp only [ouV, List.length_cons, List.length_nil, Nat.zero_add, Nat.reduceAdd]
  clear how
  replace HW := Lib.hid (HW.out.trans (hb.mono HW.out.size))
  replace Va := Lib.hid (Va.out.below hb)
  replace Vb := Lib.hid (Vb.out.below hb)
  replace Vx := Lib.hid (Vx.out.below hb)
  replace Vy := Lib.hid (Vy.out.below hb)
  replace Vz := Lib.hid (Vz.out.below hb)
  replace Vu := Lib.hid (Vu.out.below hb)
  clear hb
  obtain ⟨x0, x1, x2, xl⟩ := ouO_facts Vx.out.1
  simp only [ouO, List.length_cons, List.length_nil, Nat.zero_add, Nat.reduceAdd] at x0 x1 x2 xl
  obtain ⟨y0, y1, y2, yl⟩ := ouO_facts Vy.out.1
  simp only [ouO, List.length_cons, List.length_nil, Nat.zero_add, Nat.reduceAdd] at y0 y1 y2 yl
  obtain ⟨z0, z1, z2, zl⟩ := ouO_facts Vz.out.1
  simp only [ouO, List.length_cons, List.length_nil, Nat.zero_add, Nat.reduceAdd] at z0 z1 z2 zl
  have Vv := Lib.hid (OVar.new (w := w22) (n := 0) (t := false) (h := [1, 1, 1]) hl hr)
  have hb : Below w22.heap.size w22 (w22.alloc (ouO 0 false (.slice Av 3 cv))) := (Below.refl _ _).alloc (Nat.le_refl _) _
  clear hl hr
  replace HW := Lib.hid (HW.out.trans (hb.mono HW.out.size))
  replace Va := Lib.hid (Va.out.below hb)
  replace Vb := Lib.hid (Vb.out.below hb)
  replace Vx := Lib.hid (Vx.out.below hb)
  replace Vy := Lib.hid (Vy.out.below hb)
  replace Vz := Lib.hid (Vz.out.below hb)
  replace Vu := Lib.hid (Vu.out.below hb)
  clear hb
  clear Hbf
  change Hid (OVar (w22.alloc (ouO 0 false (.slice Av 3 cv))) _ _ _ _ _ _) at Vv
  go_wp2_with fail
  show Calls _ _ _ (w22.alloc (ouO 0 false (.slice Av 3 cv))) _
  clear x0 x1 x2 xl y0 y1 y2 yl z0 z1 z2 zl
  generalize w22.alloc (ouO 0 false (.slice Av 3 cv)) = w23 at *
  generalize w22.heap.size = bkv at *
  obtain ⟨x0, x1, x2, xl⟩ := ouO_facts Vx.out.1
  simp only [ouO, List.length_cons, List.length_nil, Nat.zero_add, Nat.reduceAdd] at x0 x1 x2 xl
  obtain ⟨y0, y1, y2, yl⟩ := ouO_facts Vy.out.1
  simp only [ouO, List.length_cons, List.length_nil, Nat.zero_add, Nat.reduceAdd] at y0 y1 y2 yl
  obtain ⟨z0, z1, z2, zl⟩ := ouO_facts Vz.out.1
  simp only [ouO, List.length_cons, List.length_nil, Nat.zero_add, Nat.reduceAdd] at z0 z1 z2 zl
  obtain ⟨v0, v1, v2, vl⟩ := ouO_facts Vv.out.1
  simp only [ouO, List.length_cons, List.length_nil, Nat.zero_add, Nat.reduceAdd] at v0 v1 v2 vl
  refine (num_any _ _).mono ?_
  rintro e w' ⟨rfl, rfl⟩
  go_wp2_with fail
  refine (num_any _ _).mono ?_
  rintro e w' ⟨rfl, rfl⟩
  go_wp2_with fail
  refine (num_any _ _).mono ?_
  rintro e w' ⟨rfl, rfl⟩
  go_wp2_with fail
  refine (num_any _ _).mono ?_
  rintro e w' ⟨rfl, rfl⟩
  go_wp2_with fail
  show Calls _ _ _ (w23.alloc (.cells #[.int .i64 1, .int .i64 1, .int .i64 1] 3)) _
  clear x0 x1 x2 xl y0 y1 y2 yl z0 z1 z2 zl v0 v1 v2 vl
  have hnew := heap_alloc_new w23 (.cells #[.int .i64 (1), .int .i64 (1), .int .i64 (1)] 3)
  have hb : Below w23.heap.size w23 (w23.alloc (.cells #[.int .i64 (1), .int .i64 (1), .int .i64 (1)] 3)) := (Below.refl _ _).alloc (Nat.le_refl _) _
  replace HW := Lib.hid (HW.out.trans (hb.mono HW.out.size))
  replace Va := Lib.hid (Va.out.below hb)
  replace Vb := Lib.hid (Vb.out.below hb)
  replace Vx := Lib.hid (Vx.out.below hb)
  replace Vy := Lib.hid (Vy.out.below hb)
  replace Vz := Lib.hid (Vz.out.below hb)
  replace Vu := Lib.hid (Vu.out.below hb)
  replace Vv := Lib.hid (Vv.out.below hb)
  clear hb
  generalize w23.alloc (.cells #[.int .i64 (1), .int .i64 (1), .int .i64 (1)] 3) = w24 at *
  generalize w23.heap.size = bi at *
  have Hbi := Lib.hid (show RdI w24 (some ⟨bi, 0, none⟩) [1, 1, 1] from rdI_blk (l := [1, 1, 1]) hnew (by decide))
  clear hnew
  refine (sameI_yes [1, 1, 1] Av (some ⟨bi, 0, none⟩) cv 3 _ Vv.out.2.2 Vv.out.2.1 Hbi.out (by decide) (by decide)).mono ?_
  rintro e w25 ⟨rfl, hb⟩
  replace HW := Lib.hid (HW.out.trans (hb.mono HW.out.size))
  replace Va := Lib.hid (Va.out.below hb)
  replace Vb := Lib.hid (Vb.out.below hb)
  replace Vx := Lib.hid (Vx.out.below hb)
  replace Vy := Lib.hid (Vy.out.below hb)
  replace Vz := Lib.hid (Vz.out.below hb)
  replace Vu := Lib.hid (Vu.out.below hb)
  replace Vv := Lib.hid (Vv.out.below hb)
  replace Hbi := Lib.hid (Hbi.out.below hb)
  clear hb
  go_wp2_with fail
  refine (num_any _ _).mono ?_
  rintro e w' ⟨rfl, rfl⟩
  go_wp2_with fail
  go_ret
  exact ⟨rfl, HW.out⟩
end Go.Proofs.Ytggaefklcpbfnaa.My
