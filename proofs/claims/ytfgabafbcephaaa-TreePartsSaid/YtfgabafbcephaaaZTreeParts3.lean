/- Lemmas, contracts of functions and plain laws, part 3: what the row's proof uses. No statement of the seed is proved here. -/
import Derived.Test.YtfgabafbcephaaaZTreeParts2
import Derived.Test.YtfgabafbcephaaaZTreeParts1
import Derived.Maps.Own
import Derived.Maps.Views
import Derived.DeepKeys4
import Derived.Test.YtfgabafbcephaaaYPaEq0
import Derived.Test.YtfgabafbcephaaaYPaItem19
import Derived.SizedLaws
import Derived.Lib.SmallJoins
import Derived.Deep.Slices
namespace Go.Proofs.Ytfgabafbcephaaa.My
open Go.RowKit Pa Go.Proofs.YtfgabafbcephaaaW.PrintWords
set_option linter.unusedSimpArgs false
def inS (S E : Int) (x : S34) : Bool := decide (S ≤ x.f1) && decide (x.f1 < E)
def flt (S E : Int) (L : List S34) : List S34 := L.filter (inS S E)
theorem flt_app (S E : Int) (L M : List S34) : flt S E (L ++ M) = flt S E L ++ flt S E M := List.filter_append ..
theorem ord_time {a b : S34} (h : ord a b < 0) : a.f1 ≤ b.f1 := by
  unfold ord at h
  (repeat' split at h) <;> omega
theorem flt_all {S E : Int} {L : List S34} (h1 : ∀ x ∈ L, S ≤ x.f1) (h2 : ∀ x ∈ L, x.f1 < E) : flt S E L = L := List.filter_eq_self.2 (fun x hx => by
  unfold inS
  rw [decide_eq_true (h1 x hx), decide_eq_true (h2 x hx)]
  rfl)
theorem flt_none {S E : Int} {L : List S34} (h : ∀ x ∈ L, x.f1 < S ∨ E ≤ x.f1) : flt S E L = [] := List.filter_eq_nil_iff.2 (fun x hx => by
  unfold inS
  rcases h x hx with h | h
  · rw [decide_eq_false (show ¬ S ≤ x.f1 by omega)]
    simp
  · rw [decide_eq_false (show ¬ x.f1 < E by omega)]
    simp)
theorem flt_gd {bs : List Int} {s S E : Int} {L : List S34} (h : Gd bs s (its bs L)) : Gd bs s (its bs (flt S E L)) := by
  refine ⟨h.b, fun y hy => ?_, ?_⟩
  · obtain ⟨x, hx, rfl⟩ := List.mem_map.1 hy
    exact h.z _ (List.mem_map.2 ⟨x, (List.mem_filter.1 hx).1, rfl⟩)
  · have h1 := gd_len h
    unfold its flt
    rw [cnt_map]
    have := List.length_filter_le (inS S E) L
    omega
theorem srt_time {L M : List S34} {x : S34} (h : Srt (L ++ x :: M)) : (∀ y ∈ L, y.f1 ≤ x.f1) ∧ (∀ y ∈ M, x.f1 ≤ y.f1) :=
  ⟨fun y hy => ord_time ((List.pairwise_append.1 h).2.2 y hy x (List.mem_cons_self ..)), fun y hy => ord_time ((List.pairwise_cons.1 (List.pairwise_append.1 h).2.1).1 y hy)⟩
theorem flt_right {S E : Int} {L M : List S34} {x : S34} (h : Srt (L ++ x :: M)) (hx : x.f1 < S) : flt S E (L ++ x :: M) = flt S E M := by
  rw [flt_app, flt_none (fun y hy => .inl (by have := (srt_time h).1 y hy; omega)), List.nil_append]
  show flt S E ([x] ++ M) = _
  rw [flt_app, flt_none (L := [x]) (fun y hy => by rw [List.mem_singleton.1 hy]; exact .inl hx), List.nil_append]
theorem flt_left {S E : Int} {L M : List S34} {x : S34} (h : Srt (L ++ x :: M)) (hx : E ≤ x.f1) : flt S E (L ++ x :: M) = flt S E L := by
  rw [flt_app, flt_none (L := x :: M) (fun y hy => by
    rcases List.mem_cons.1 hy with rfl | hy
    · exact .inr hx
    · have := (srt_time h).2 y hy
      exact .inr (by omega)), List.append_nil]
theorem flt_mid {S E : Int} {L M : List S34} {x : S34} (h1 : S ≤ x.f1) (h2 : x.f1 < E) : flt S E (L ++ x :: M) = flt S E L ++ x :: flt S E M := by
  rw [flt_app]
  show _ ++ flt S E ([x] ++ M) = _
  rw [flt_app, flt_all (L := [x]) (fun y hy => by rw [List.mem_singleton.1 hy]; exact h1) (fun y hy => by rw [List.mem_singleton.1 hy]; exact h2)]
  rfl
def sO (S E : Int) : Obj := .cells #[.int .i64 S, .int .i64 E] 67
theorem sO_facts {w : World} {g : Nat} {S E : Int} (h : w.heap[g]? = some (sO S E)) : w.cell? ⟨g, 0, none⟩ = some (.int .i64 S) ∧ w.cell? ⟨g, 1, none⟩ = some (.int .i64 E) ∧ g < w.heap.size :=
  ⟨(blk_cell h 0).trans rfl, (blk_cell h 1).trans rfl, blk_lt h⟩
def Told (w w' : World) (J : S36) (e : Ending) : Prop := ∃ A c, e = .returned (acV J (.slice A J.f6.length c)) ∧ Own w' 0 (.slice A J.f6.length c) J.f6 ∧ Below w.heap.size w w'
def LowOk (low : Bool) (S : Int) (L : List S34) : Prop := low = true → ∀ x ∈ L, S ≤ x.f1
def HighOk (high : Bool) (E : Int) (L : List S34) : Prop := high = true → ∀ x ∈ L, x.f1 < E
theorem LowOk.sub {low : Bool} {S : Int} {L M : List S34} (h : LowOk low S L) (hi : ∀ y ∈ M, y ∈ L) : LowOk low S M := fun e y hy => h e y (hi y hy)
theorem HighOk.sub {high : Bool} {E : Int} {L M : List S34} (h : HighOk high E L) (hi : ∀ y ∈ M, y ∈ L) : HighOk high E M := fun e y hy => h e y (hi y hy)
set_option maxHeartbeats 16000000 in
set_option maxRecDepth 100000 in
theorem over_any {g : Nat} {bv rv : Value} {bs : List Int} {s : Int} {sb : Nat} {S E : Int} :
    ∀ (t : PT) (L : List S34) (low high : Bool) (w : World), w.heap[g]? = some (tO bv rv) → Own w 0 bv bs → w.heap[sb]? = some (sO S E) → TrAt w t → TOk bs t L → Srt L → Gd bs s (its bs L) → LowOk low S L → HighOk high E L →
    Calls Try.prog 70 #[.pointer (some ⟨g, 0, none⟩), t.ptr, .pointer (some ⟨sb, 0, none⟩), .bool low, .bool high] w fun e w' => Told w w' (joinA bs (its bs (flt S E L))) e := by
  intro t
  induction t with
  | nil =>
    intro L low high w hg hbo hsb ht k hs gd hlow hhigh
    have hB : Below w.heap.size w (w.alloc (acO z36 (.slice none 0 0))) := (Below.refl w.heap.size w).alloc (Nat.le_refl _) _
    have HZ := Lib.hid (heap_alloc_new w (acO z36 (.slice none 0 0)))
    have HX := Lib.hid hB
    have HG := Lib.hid (blk_below hg hB)
    have HBO := Lib.hid (Own.below hbo hB)
    have e : L = [] := k
    have HE := Lib.hid (show (PT.nil).sum bs = joinA bs (its bs (flt S E L)) from by
      rw [e] at gd ⊢
      exact TOk.sum (t := .nil) (L := []) rfl gd)
    clear hg hbo hsb ht k hs gd hlow hhigh hB e
    show Calls _ _ #[_, .pointer none, _, _, _] _ _
    go_enter Try.func70, Try.ntmps70
    go_wp2_with fail
    show Calls _ _ _ (w.alloc (acO z36 (.slice none 0 0))) _
    generalize w.alloc (acO z36 (.slice none 0 0)) = w1 at *
    refine (tsum_own (tO_facts HG.out).1 HBO.out .nil trivial).mono ?_
    rintro e w2 ⟨A2, c2, rfl, how, hb⟩
    rw [HE.out] at how ⊢
    obtain ⟨o, hJ⟩ : ∃ o, joinA bs (its bs (flt S E L)) = o := ⟨_, rfl⟩
    rw [hJ] at how ⊢
    have HJ := Lib.hid hJ
    clear hJ
    have HZ2 := Lib.hid (blk_below HZ.out hb)
    have HB2 := Lib.hid (HX.out.trans (hb.mono HX.out.size))
    have R2 := Lib.hid how
    clear hb how HX HZ HE
    simp only [acV]
    obtain ⟨z0, z1, z2, z3, z4, z5, z6, z7, z8, z9, z10, z11, z12, zl⟩ := acO_facts HZ2.out
    have hf := fun j => blk_free HZ2.out j
    go_wp2_with fail
    show bodyPost _ _ _ _ _ (putA w2 w.heap.size o (.slice A2 o.f6.length c2))
    have hz2 := putA_blk (a := o) (v := .slice A2 o.f6.length c2) HZ2.out
    have hch := putA_chg w2 w.heap.size o (.slice A2 o.f6.length c2)
    exact bodyPost_ret (results_ac1 rfl _ _ w.heap.size o (.slice A2 o.f6.length c2) rfl hz2) rfl ⟨A2, c2, by rw [HJ.out], by rw [HJ.out]; exact R2.out.keep hch (fun k hk e => own_no R2.out HZ2.out (by rw [hk, e])), Chg.base HB2.out hch HB2.out.size (fun i hi => by omega)⟩
  | node b x o ov a av m q l r ihl ihr =>
    intro L low high w hg hbo hsb ht k hs gd hlow hhigh
    have hB : Below w.heap.size w (w.alloc (acO z36 (.slice none 0 0))) := (Below.refl w.heap.size w).alloc (Nat.le_refl _) _
    have HZ := Lib.hid (heap_alloc_new w (acO z36 (.slice none 0 0)))
    have HX := Lib.hid hB
    have HG := Lib.hid (blk_below hg hB)
    have HBO := Lib.hid (Own.below hbo hB)
    have HSB := Lib.hid (blk_below hsb hB)
    have HT := Lib.hid (ht.below hB)
    have HK := Lib.hid k
    have HS := Lib.hid (And.intro hs gd)
    have HLH := Lib.hid (And.intro hlow hhigh)
    have HIL := Lib.hid ihl
    have HIR := Lib.hid ihr
    clear hg hbo hsb ht k hs gd hlow hhigh hB ihl ihr
    show Calls _ _ #[_, .pointer (some ⟨b, 0, none⟩), _, _, _] _ _
    by_cases hlh : low = true ∧ high = true
    · obtain ⟨rfl, rfl⟩ := hlh
      have HE := Lib.hid (show (PT.node b x o ov a av m q l r).sum bs = joinA bs (its bs (flt S E L)) from by
        rw [flt_all (HLH.out.1 rfl) (HLH.out.2 rfl)]
        exact HK.out.sum HS.out.2)
      go_enter Try.func70, Try.ntmps70
      go_wp2_with fail
      show Calls _ _ _ (w.alloc (acO z36 (.slice none 0 0))) _
      generalize w.alloc (acO z36 (.slice none 0 0)) = w1 at *
      refine (tsum_own (tO_facts HG.out).1 HBO.out (.node b x o ov a av m q l r) HT.out).mono ?_
      rintro e w2 ⟨A2, c2, rfl, how, hb⟩
      rw [HE.out] at how ⊢
      obtain ⟨o2, hJ⟩ : ∃ o, joinA bs (its bs (flt S E L)) = o := ⟨_, rfl⟩
      rw [hJ] at how ⊢
      have HJ := Lib.hid hJ
      clear hJ
      have HZ2 := Lib.hid (blk_below HZ.out hb)
      have HB2 := Lib.hid (HX.out.trans (hb.mono HX.out.size))
      have R2 := Lib.hid how
      clear hb how HX HZ HE
      simp only [acV]
      obtain ⟨z0, z1, z2, z3, z4, z5, z6, z7, z8, z9, z10, z11, z12, zl⟩ := acO_facts HZ2.out
      have hf := fun j => blk_free HZ2.out j
      go_wp2_with fail
      show bodyPost _ _ _ _ _ (putA w2 w.heap.size o2 (.slice A2 o2.f6.length c2))
      have hz2 := putA_blk (a := o2) (v := .slice A2 o2.f6.length c2) HZ2.out
      have hch := putA_chg w2 w.heap.size o2 (.slice A2 o2.f6.length c2)
      exact bodyPost_ret (results_ac1 rfl _ _ w.heap.size o2 (.slice A2 o2.f6.length c2) rfl hz2) rfl ⟨A2, c2, by rw [HJ.out], by rw [HJ.out]; exact R2.out.keep hch (fun k hk e => own_no R2.out HZ2.out (by rw [hk, e])), Chg.base HB2.out hch HB2.out.size (fun i hi => by omega)⟩
    · obtain ⟨M1, M2, hM, kl, kr, ho, -⟩ := HK.out
      have HM := Lib.hid (And.intro hM (And.intro kl (And.intro kr ho)))
      clear hM kl kr ho
      have hlh2 : (low = false ∧ high = false) ∨ (low = false ∧ high = true) ∨ (low = true ∧ high = false) := by
        cases low <;> cases high <;> simp at hlh ⊢
      go_enter Try.func70, Try.ntmps70
      rcases hlh2 with ⟨rfl, rfl⟩ | ⟨rfl, rfl⟩ | ⟨rfl, rfl⟩
      all_goals (
        clear hlh
        go_wp2_with fail
        show Code.wp _ _ _ _ (w.alloc (acO z36 (.slice none 0 0)))
        generalize w.alloc (acO z36 (.slice none 0 0)) = w1 at *
        obtain ⟨-, e1, -, -, -, -, -, -, -, -, -, -, -, -, -, -, -, -, -, -, -, -, -, -, -, -, -, -, -, -, -, -, e32, e33, el⟩ := nO_facts HT.out.1
        obtain ⟨s0, s1, sl⟩ := sO_facts HSB.out
        refine Txt.wp_region_mix (by kernel_rfl) (by kernel_rfl) (fun HB => ?_)
        repeat (first
          | (refine Txt.mix_p (by rfl) rfl rfl (fun K hK => ?_); go_big_quiet_op; refine hK _ ?_; clear hK K)
          | (refine Txt.mix_re (by rfl) (by decide +kernel) (by rfl) (by rfl) (by go_simp) HB (fun K hK => ?_); go_big_quiet_op; refine hK _ ?_; clear hK K)
          | (refine Txt.mix_rl (by rfl) (by decide +kernel) (by rfl) (by rfl) (by go_simp) HB (fun K hK => ?_); go_big_quiet_op; refine hK _ ?_; clear hK K)
          | (refine Txt.mix_pass (by rfl) (by rfl) ?_; simp only [List.set_cons_succ, List.set_cons_zero]))
        refine Txt.mix_nil ?_
        have hb0 : Below w1.heap.size w1 w1.drew := (Below.refl _ _).drew
        replace HX := Lib.hid (HX.out.trans (hb0.mono HX.out.size))
        replace HZ := Lib.hid (blk_below HZ.out hb0)
        replace HG := Lib.hid (blk_below HG.out hb0)
        replace HBO := Lib.hid (Own.below HBO.out hb0)
        replace HSB := Lib.hid (blk_below HSB.out hb0)
        replace HT := Lib.hid (HT.out.below hb0)
        have hs := HS.out.1
        have hgd := HS.out.2
        rw [HM.out.1] at hs hgd
        have hgr := gd_right (L := M1 ++ [x]) (M := M2) (by rw [List.append_assoc]; exact hgd)
        have hgl := gd_left hgd
        have hsr := srt_right (L := M1 ++ [x]) (M := M2) (by rw [List.append_assoc]; exact hs)
        have hsl := srt_left hs
        have HP := Lib.hid (And.intro hgl (And.intro hgr (And.intro hsl (And.intro hsr (And.intro hs hgd)))))
        have hinl : ∀ y ∈ M1, y ∈ L := fun y hy => by rw [HM.out.1]; exact List.mem_append_left _ hy
        have hinr : ∀ y ∈ M2, y ∈ L := fun y hy => by rw [HM.out.1]; exact List.mem_append_right _ (List.mem_cons_of_mem _ hy)
        have HIN := Lib.hid (And.intro hinl hinr)
        clear hs hgd hgr hgl hsr hsl hinl hinr hb0 e1 e32 e33 el s0 s1 sl
        generalize w1.drew = w2 at *
        obtain ⟨-, e1, -, -, -, -, -, -, -, -, -, -, -, -, -, -, -, -, -, -, -, -, -, -, -, -, -, -, -, -, -, -, e32, e33, el⟩ := nO_facts HT.out.1
        obtain ⟨s0, s1, sl⟩ := sO_facts HSB.out
        by_cases hS : x.f1 < S
        · have hd : decide (x.f1 < S) = true := decide_eq_true hS
          have HE := Lib.hid (flt_right (E := E) HP.out.2.2.2.2.1 hS)
          clear hS
          go_wp2_with fail
          try any_goals (exfalso; have := of_decide_eq_true hd; omega)
          refine (HIR.out M2 _ _ w2 HG.out HBO.out HSB.out HT.out.2.2.2.2 HM.out.2.2.1 HP.out.2.2.2.1 HP.out.2.1 (HLH.out.1.sub HIN.out.2) (HLH.out.2.sub HIN.out.2)).mono ?_
          rintro e w3 ⟨A2, c2, rfl, how, hb⟩
          obtain ⟨o2, hJ⟩ : ∃ o, joinA bs (its bs (flt S E M2)) = o := ⟨_, rfl⟩
          rw [hJ] at how ⊢
          have HJ := Lib.hid (show joinA bs (its bs (flt S E L)) = o2 by rw [HM.out.1, HE.out, hJ])
          clear hJ
          have HZ2 := Lib.hid (blk_below HZ.out hb)
          have HB2 := Lib.hid (HX.out.trans (hb.mono HX.out.size))
          have R2 := Lib.hid how
          clear hb how HX HZ HE e1 e32 e33 el s0 s1 sl
          simp only [acV]
          obtain ⟨z0, z1, z2, z3, z4, z5, z6, z7, z8, z9, z10, z11, z12, zl⟩ := acO_facts HZ2.out
          have hf := fun j => blk_free HZ2.out j
          go_wp2_with fail
          show bodyPost _ _ _ _ _ (putA w3 w.heap.size o2 (.slice A2 o2.f6.length c2))
          have hz2 := putA_blk (a := o2) (v := .slice A2 o2.f6.length c2) HZ2.out
          have hch := putA_chg w3 w.heap.size o2 (.slice A2 o2.f6.length c2)
          exact bodyPost_ret (results_ac1 rfl _ _ w.heap.size o2 (.slice A2 o2.f6.length c2) rfl hz2) rfl ⟨A2, c2, by rw [HJ.out], by rw [HJ.out]; exact R2.out.keep hch (fun k hk e => own_no R2.out HZ2.out (by rw [hk, e])), Chg.base HB2.out hch HB2.out.size (fun i hi => by omega)⟩
        · have hd : decide (x.f1 < S) = false := decide_eq_false hS
          go_wp2_with fail
          try any_goals (exfalso; have := of_decide_eq_false hd; omega)
          refine Txt.wp_region_mix (by kernel_rfl) (by kernel_rfl) (fun HB => ?_)
          repeat (first
            | (refine Txt.mix_p (by rfl) rfl rfl (fun K hK => ?_); go_big_quiet_op; refine hK _ ?_; clear hK K)
            | (refine Txt.mix_re (by rfl) (by decide +kernel) (by rfl) (by rfl) (by go_simp) HB (fun K hK => ?_); go_big_quiet_op; refine hK _ ?_; clear hK K)
            | (refine Txt.mix_rl (by rfl) (by decide +kernel) (by rfl) (by rfl) (by go_simp) HB (fun K hK => ?_); go_big_quiet_op; refine hK _ ?_; clear hK K)
            | (refine Txt.mix_pass (by rfl) (by rfl) ?_; simp only [List.set_cons_succ, List.set_cons_zero]))
          refine Txt.mix_nil ?_
          have hb0 : Below w2.heap.size w2 w2.drew := (Below.refl _ _).drew
          replace HX := Lib.hid (HX.out.trans (hb0.mono HX.out.size))
          replace HZ := Lib.hid (blk_below HZ.out hb0)
          replace HG := Lib.hid (blk_below HG.out hb0)
          replace HBO := Lib.hid (Own.below HBO.out hb0)
          replace HSB := Lib.hid (blk_below HSB.out hb0)
          replace HT := Lib.hid (HT.out.below hb0)
          clear hb0 e1 e32 e33 el s0 s1 sl hd
          generalize w2.drew = w2 at *
          obtain ⟨-, e1, -, -, -, -, -, -, -, -, -, -, -, -, -, -, -, -, -, -, -, -, -, -, -, -, -, -, -, -, -, -, e32, e33, el⟩ := nO_facts HT.out.1
          obtain ⟨s0, s1, sl⟩ := sO_facts HSB.out
          by_cases hE : E ≤ x.f1
          · have hd : decide (E ≤ x.f1) = true := decide_eq_true hE
            have HE := Lib.hid (flt_left (S := S) HP.out.2.2.2.2.1 hE)
            clear hE hS
            go_wp2_with fail
            try any_goals (exfalso; have := of_decide_eq_true hd; omega)
            refine (HIL.out M1 _ _ _ HG.out HBO.out HSB.out HT.out.2.2.2.1 HM.out.2.1 HP.out.2.2.1 HP.out.1 (HLH.out.1.sub HIN.out.1) (HLH.out.2.sub HIN.out.1)).mono ?_
            rintro e w3 ⟨A2, c2, rfl, how, hb⟩
            obtain ⟨o2, hJ⟩ : ∃ o, joinA bs (its bs (flt S E M1)) = o := ⟨_, rfl⟩
            rw [hJ] at how ⊢
            have HJ := Lib.hid (show joinA bs (its bs (flt S E L)) = o2 by rw [HM.out.1, HE.out, hJ])
            clear hJ
            have HZ2 := Lib.hid (blk_below HZ.out hb)
            have HB2 := Lib.hid (HX.out.trans (hb.mono HX.out.size))
            have R2 := Lib.hid how
            clear hb how HX HZ HE e1 e32 e33 el s0 s1 sl
            simp only [acV]
            obtain ⟨z0, z1, z2, z3, z4, z5, z6, z7, z8, z9, z10, z11, z12, zl⟩ := acO_facts HZ2.out
            have hf := fun j => blk_free HZ2.out j
            go_wp2_with fail
            show bodyPost _ _ _ _ _ (putA w3 w.heap.size o2 (.slice A2 o2.f6.length c2))
            have hz2 := putA_blk (a := o2) (v := .slice A2 o2.f6.length c2) HZ2.out
            have hch := putA_chg w3 w.heap.size o2 (.slice A2 o2.f6.length c2)
            exact bodyPost_ret (results_ac1 rfl _ _ w.heap.size o2 (.slice A2 o2.f6.length c2) rfl hz2) rfl ⟨A2, c2, by rw [HJ.out], by rw [HJ.out]; exact R2.out.keep hch (fun k hk e => own_no R2.out HZ2.out (by rw [hk, e])), Chg.base HB2.out hch HB2.out.size (fun i hi => by omega)⟩
          · have hd : decide (E ≤ x.f1) = false := decide_eq_false hE
            go_wp2_with fail
            try any_goals (exfalso; have := of_decide_eq_false hd; omega)
            have HE := Lib.hid (flt_mid (L := M1) (M := M2) (show S ≤ x.f1 by omega) (show x.f1 < E by omega))
            have HTX := Lib.hid (And.intro (show S ≤ x.f1 by omega) (show x.f1 < E by omega))
            clear hE hS hd
            obtain ⟨A1, c1, hov, hl1, hr1⟩ := HT.out.2.1.reads
            have hb1 := HT.out.1
            rw [hov] at hb1
            have HO1 := Lib.hid (And.intro hl1 hr1)
            clear hov hl1 hr1 e1 e32 e33 el s0 s1 sl
            obtain ⟨-, -, -, -, e4, e5, e6, e7, e8, e9, e10, e11, e12, e13, e14, e15, e16, -, -, -, -, -, -, -, -, -, -, -, -, -, -, -, e32, e33, el⟩ := nO_facts hb1
            clear hb1
            refine Txt.wp_region_mix (by kernel_rfl) (by kernel_rfl) (fun HB => ?_)
            repeat (first
              | (refine Txt.mix_p (by rfl) rfl rfl (fun K hK => ?_); go_big_quiet_op; refine hK _ ?_; clear hK K)
              | (refine Txt.mix_re (by rfl) (by decide +kernel) (by rfl) (by rfl) (by go_simp) HB (fun K hK => ?_); go_big_quiet_op; refine hK _ ?_; clear hK K)
              | (refine Txt.mix_rl (by rfl) (by decide +kernel) (by rfl) (by rfl) (by go_simp) HB (fun K hK => ?_); go_big_quiet_op; refine hK _ ?_; clear hK K)
              | (refine Txt.mix_pass (by rfl) (by rfl) ?_; simp only [List.set_cons_succ, List.set_cons_zero]))
            refine Txt.mix_c (by rfl) (by decide +kernel) HB ?_
            intro w4 hw4 K hK
            replace HB := HB.trans hw4
            clear hw4
            go_wp2_with fail
            refine (HIL.out M1 _ true w4 (blk_below HG.out HB.undrew) (Own.below HBO.out HB.undrew) (blk_below HSB.out HB.undrew) (HT.out.2.2.2.1.below HB.undrew) HM.out.2.1 HP.out.2.2.1 HP.out.1 (HLH.out.1.sub HIN.out.1) (fun _ y hy => by have := (srt_time HP.out.2.2.2.2.1).1 y hy; have := HTX.out.2; omega)).mono ?_
            rintro e w5 ⟨A2, c2, rfl, how, hb⟩
            refine hK _ _ ⟨hb, ?_⟩
            replace HB := HB.trans hb
            obtain ⟨y, hy⟩ : ∃ y, joinA bs (its bs (flt S E M1)) = y := ⟨_, rfl⟩
            rw [hy] at how ⊢
            have HY := Lib.hid hy
            have R2 := Lib.hid how
            clear hK K hb how hy
            simp only [acV]
            repeat (first
              | (refine Txt.mix_p (by rfl) rfl rfl (fun K hK => ?_); go_big_quiet_op; refine hK _ ?_; clear hK K)
              | (refine Txt.mix_re (by rfl) (by decide +kernel) (by rfl) (by rfl) (by go_simp) HB (fun K hK => ?_); go_big_quiet_op; refine hK _ ?_; clear hK K)
              | (refine Txt.mix_rl (by rfl) (by decide +kernel) (by rfl) (by rfl) (by go_simp) HB (fun K hK => ?_); go_big_quiet_op; refine hK _ ?_; clear hK K)
              | (refine Txt.mix_pass (by rfl) (by rfl) ?_; simp only [List.set_cons_succ, List.set_cons_zero]))
            refine Txt.mix_c (by rfl) (by decide +kernel) HB ?_
            intro w6 hw6 K hK
            replace R2 := Lib.hid (Own.below R2.out hw6)
            replace HB := HB.trans hw6
            clear hw6
            go_wp2_with fail
            refine (HIR.out M2 true _ w6 (blk_below HG.out HB.undrew) (Own.below HBO.out HB.undrew) (blk_below HSB.out HB.undrew) (HT.out.2.2.2.2.below HB.undrew) HM.out.2.2.1 HP.out.2.2.2.1 HP.out.2.1 (fun _ y hy => by have := (srt_time HP.out.2.2.2.2.1).2 y hy; have := HTX.out.1; omega) (HLH.out.2.sub HIN.out.2)).mono ?_
            rintro e w7 ⟨A3, c3, rfl, how, hb⟩
            refine hK _ _ ⟨hb, ?_⟩
            replace HB := HB.trans hb
            replace R2 := Lib.hid (Own.below R2.out hb)
            obtain ⟨z, hz⟩ : ∃ z, joinA bs (its bs (flt S E M2)) = z := ⟨_, rfl⟩
            rw [hz] at how ⊢
            have HZZ := Lib.hid hz
            have R3 := Lib.hid how
            clear hK K hb how hz
            simp only [acV]
            repeat (first
              | (refine Txt.mix_p (by rfl) rfl rfl (fun K hK => ?_); go_big_quiet_op; refine hK _ ?_; clear hK K)
              | (refine Txt.mix_re (by rfl) (by decide +kernel) (by rfl) (by rfl) (by go_simp) HB (fun K hK => ?_); go_big_quiet_op; refine hK _ ?_; clear hK K)
              | (refine Txt.mix_rl (by rfl) (by decide +kernel) (by rfl) (by rfl) (by go_simp) HB (fun K hK => ?_); go_big_quiet_op; refine hK _ ?_; clear hK K)
              | (refine Txt.mix_pass (by rfl) (by rfl) ?_; simp only [List.set_cons_succ, List.set_cons_zero]))
            refine Txt.mix_m (fun g => .slice (some ⟨g, 0, none⟩) 3 3) (.cells #[.int .i64 y.f0, .int .i64 y.f1, .int .i64 y.f2, .int .i64 y.f3, .int .i64 y.f4.f0, .int .i64 y.f4.f1, .int .i64 y.f4.f2, .int .i64 y.f4.f3, .int .i64 y.f5.f0, .int .i64 y.f5.f1, .int .i64 y.f5.f2, .int .i64 y.f5.f3, .slice A2 y.f6.length c2, .int .i64 o.f0, .int .i64 o.f1, .int .i64 o.f2, .int .i64 o.f3, .int .i64 o.f4.f0, .int .i64 o.f4.f1, .int .i64 o.f4.f2, .int .i64 o.f4.f3, .int .i64 o.f5.f0, .int .i64 o.f5.f1, .int .i64 o.f5.f2, .int .i64 o.f5.f3, .slice A1 o.f6.length c1, .int .i64 z.f0, .int .i64 z.f1, .int .i64 z.f2, .int .i64 z.f3, .int .i64 z.f4.f0, .int .i64 z.f4.f1, .int .i64 z.f4.f2, .int .i64 z.f4.f3, .int .i64 z.f5.f0, .int .i64 z.f5.f1, .int .i64 z.f5.f2, .int .i64 z.f5.f3, .slice A3 z.f6.length c3] 36) (by rfl) (by decide +kernel) (fun w1 => by go_simp) HB ?_
            intro pb wa hb2 hg2 ho2
            replace HB := HB.trans hb2
            have hrd3 : RdA wa (some ⟨pb, 0, none⟩) [y, o, z] := rdA_three (x := y) (y := o) (z := z) ho2 (own_rd R2.out).1 (RdI.below (own_rd R2.out).2 hb2) HO1.out.1 (RdI.below HO1.out.2 HB.undrew) (own_rd R3.out).1 (RdI.below (own_rd R3.out).2 hb2)
            have RD := Lib.hid hrd3
            clear hrd3 hb2 hg2 ho2
            simp only [Act.put, List.setIfInBounds_toArray, List.set_cons_succ, List.set_cons_zero]
            repeat (first
              | (refine Txt.mix_p (by rfl) rfl rfl (fun K hK => ?_); go_big_quiet_op; refine hK _ ?_; clear hK K)
              | (refine Txt.mix_re (by rfl) (by decide +kernel) (by rfl) (by rfl) (by go_simp) HB (fun K hK => ?_); go_big_quiet_op; refine hK _ ?_; clear hK K)
              | (refine Txt.mix_rl (by rfl) (by decide +kernel) (by rfl) (by rfl) (by go_simp) HB (fun K hK => ?_); go_big_quiet_op; refine hK _ ?_; clear hK K)
              | (refine Txt.mix_pass (by rfl) (by rfl) ?_; simp only [List.set_cons_succ, List.set_cons_zero]))
            refine Txt.mix_c (by rfl) (by decide +kernel) HB ?_
            intro wb hwb K hK
            replace RD := Lib.hid (RD.out.below hwb)
            replace HB := HB.trans hwb
            clear hwb
            go_wp2_with fail
            refine (tjoin_at (tO_facts (blk_below HG.out HB.undrew)).1 (Own.below HBO.out HB.undrew) [y, o, z] (some ⟨pb, 0, none⟩) 3 RD.out (by simp)).mono ?_
            rintro e wc ⟨v, rfl, how, hb⟩
            refine hK _ _ ⟨hb, ?_⟩
            obtain ⟨o2, hJ⟩ : ∃ o, joinA bs (its bs (flt S E L)) = o := ⟨_, rfl⟩
            have hp2 : (joinRes bs [y, o, z]).1 = o2 := by
              have hg3 := flt_gd (S := S) (E := E) HS.out.2
              rw [HM.out.1, HE.out, its_app, its_cons] at hg3
              rw [← hJ, HM.out.1, HE.out, ← HY.out, ← HZZ.out, HM.out.2.2.2, its_app, its_cons, hg3.three]
            rw [hp2] at how ⊢
            have HJ := Lib.hid hJ
            have HOW := Lib.hid (own_zero how)
            obtain ⟨A4, c4, rfl, _, _⟩ := how.reads
            replace HB := HB.trans hb
            have HZ2 := Lib.hid (blk_below HZ.out HB.undrew)
            have HB2 := Lib.hid (HX.out.trans (HB.undrew.mono HX.out.size))
            clear hK K hb how hp2 hJ e4 e5 e6 e7 e8 e9 e10 e11 e12 e13 e14 e15 e16 e32 e33 el
            simp only [acV]
            obtain ⟨z0, z1, z2, z3, z4, z5, z6, z7, z8, z9, z10, z11, z12, zl⟩ := acO_facts HZ2.out
            have hf := fun j => blk_free HZ2.out j
            repeat (first
              | (refine Txt.mix_p (by rfl) rfl rfl (fun K hK => ?_); go_big_quiet_op; refine hK _ ?_; clear hK K)
              | (refine Txt.mix_re (by rfl) (by decide +kernel) (by rfl) (by rfl) (by go_simp) HB (fun K hK => ?_); go_big_quiet_op; refine hK _ ?_; clear hK K)
              | (refine Txt.mix_rl (by rfl) (by decide +kernel) (by rfl) (by rfl) (by go_simp) HB (fun K hK => ?_); go_big_quiet_op; refine hK _ ?_; clear hK K)
              | (refine Txt.mix_pass (by rfl) (by rfl) ?_; simp only [List.set_cons_succ, List.set_cons_zero]))
            refine Txt.mix_a (by rfl) (by decide +kernel) (fun K hK => ?_)
            go_wp2_with fail
            clear z0 z1 z2 z3 z4 z5 z6 z7 z8 z9 z10 z11 z12 zl hf
            show Txt.wpMix _ _ _ _ _ _ _ (putA wc w.heap.size o2 (.slice A4 o2.f6.length c4))
            have HZ3 := Lib.hid (putA_blk (a := o2) (v := .slice A4 o2.f6.length c4) HZ2.out)
            have hch := putA_chg wc w.heap.size o2 (.slice A4 o2.f6.length c4)
            have R5 := Lib.hid (HOW.out.keep hch (fun k hk e => own_no HOW.out HZ2.out (by rw [hk, e])))
            have B5 := Lib.hid (Chg.base HB2.out hch HB2.out.size (fun i hi => by omega))
            clear HB hch
            generalize putA wc w.heap.size o2 (.slice A4 o2.f6.length c4) = wd at *
            refine Txt.mix_nil ?_
            go_wp2_with fail
            exact bodyPost_ret (results_ac1 rfl _ _ w.heap.size o2 (.slice A4 o2.f6.length c4) rfl HZ3.out) rfl ⟨A4, c4, by rw [HJ.out], by rw [HJ.out]; exact R5.out, B5.out⟩)
end Go.Proofs.Ytfgabafbcephaaa.My

namespace Go.Proofs.Ytfgabafbcephaaa.My
open Go.RowKit Pa Go.Proofs.YtfgabafbcephaaaW.PrintWords
set_option linter.unusedSimpArgs false
set_option maxHeartbeats 8000000 in
set_option maxRecDepth 100000 in
theorem trange_any {w : World} {g : Nat} {bv : Value} {bs : List Int} {s : Int} (t : PT) (L : List S34) (S E : Int) (hg : w.heap[g]? = some (tO bv t.ptr)) (hbo : Own w 0 bv bs) (h : TrAt w t) (k : TOk bs t L) (hs : Srt L) (gd : Gd bs s (its bs L)) :
    Calls Try.prog 38 #[.pointer (some ⟨g, 0, none⟩), .agg #[.int .i64 S, .int .i64 E]] w fun e w' => ∃ v, e = .returned (acV (joinA bs (its bs (flt S E L))) v) ∧ Own w' w.heap.size v (joinA bs (its bs (flt S E L))).f6 ∧ Below w.heap.size w w' := by
  have hal : Below w.heap.size (w.alloc (sO S E)) ((w.alloc (sO S E)).alloc (acO z36 (.slice none 0 0))) := (Below.refl _ _).alloc (by simp) _
  have hB : Below w.heap.size w ((w.alloc (sO S E)).alloc (acO z36 (.slice none 0 0))) := ((Below.refl w.heap.size w).alloc (Nat.le_refl _) _).trans hal
  have HX := Lib.hid (show ((w.alloc (sO S E)).alloc (acO z36 (.slice none 0 0))).heap[w.heap.size]? = some (sO S E) from blk_below (heap_alloc_new w (sO S E)) ((Below.refl _ _).alloc (Nat.le_refl _) _))
  have HZ := Lib.hid (show ((w.alloc (sO S E)).alloc (acO z36 (.slice none 0 0))).heap[w.heap.size + 1]? = some (acO z36 (.slice none 0 0)) from by
    have := heap_alloc_new (w.alloc (sO S E)) (acO z36 (.slice none 0 0))
    simpa using this)
  have HB0 := Lib.hid hB
  have HG0 := Lib.hid hg
  have HG := Lib.hid (blk_below hg hB)
  have HO := Lib.hid (Own.below hbo hB)
  have HT := Lib.hid (h.below hB)
  have HK := Lib.hid (And.intro k (And.intro hs gd))
  have HJL := Lib.hid (show (joinA bs (its bs (flt S E L))).f6.length ≤ 1000 from by
    have g2 := flt_gd (S := S) (E := E) gd
    have := joinRes_len g2.join g2.b
    omega)
  clear hg hbo h k hs gd hal hB
  obtain ⟨A, hA⟩ := t.ptr_form
  have HA := Lib.hid hA
  go_enter Try.func38, Try.ntmps38
  obtain ⟨q0, q1, ql⟩ := tO_facts HG0.out
  rw [hA] at q1
  go_wp2_with fail
  clear q0 q1 ql hA
  show Calls _ _ _ ((w.alloc (sO S E)).alloc (acO z36 (.slice none 0 0))) _
  clear HG0
  generalize (w.alloc (sO S E)).alloc (acO z36 (.slice none 0 0)) = w1 at *
  rw [← HA.out]
  refine (over_any (rv := t.ptr) t L false false w1 HG.out HO.out HX.out HT.out HK.out.1 HK.out.2.1 HK.out.2.2 (fun e => Bool.noConfusion e) (fun e => Bool.noConfusion e)).mono ?_
  rintro e w2 ⟨A2, c2, rfl, how, hb⟩
  obtain ⟨o2, hJ⟩ : ∃ o, joinA bs (its bs (flt S E L)) = o := ⟨_, rfl⟩
  rw [hJ] at how ⊢
  replace HJL := Lib.hid (show o2.f6.length ≤ 1000 from by rw [← hJ]; exact HJL.out)
  have HJ := Lib.hid hJ
  clear hJ
  have HB2 := Lib.hid (HB0.out.trans (hb.mono HB0.out.size))
  have HZ2 := Lib.hid (blk_below HZ.out hb)
  have hrd := own_rd how
  have HR := Lib.hid hrd
  clear how hb hrd
  simp only [acV]
  go_wp2_with fail
  refine (acopy_any o2 A2 c2 w2 HR.out.2 HR.out.1 HJL.out).mono ?_
  rintro e w3 ⟨v, rfl, how, hb⟩
  obtain ⟨A3, c3, rfl, -, -⟩ := how.reads
  have HB3 := Lib.hid (HB2.out.trans (hb.mono HB2.out.size))
  have HZ3 := Lib.hid (blk_below HZ2.out hb)
  have R3 := Lib.hid (show Own w3 w.heap.size _ _ from own_weaken how HB2.out.size)
  clear how hb
  simp only [acV]
  obtain ⟨z0, z1, z2, z3, z4, z5, z6, z7, z8, z9, z10, z11, z12, zl⟩ := acO_facts HZ3.out
  have hf := fun j => blk_free HZ3.out j
  go_wp2_with fail
  show bodyPost _ _ _ _ _ (putA w3 (w.heap.size + 1) o2 (.slice A3 o2.f6.length c3))
  have hz4 := putA_blk (a := o2) (v := .slice A3 o2.f6.length c3) HZ3.out
  have hch := putA_chg w3 (w.heap.size + 1) o2 (.slice A3 o2.f6.length c3)
  exact bodyPost_ret (results_ac1 rfl _ _ (w.heap.size + 1) o2 (.slice A3 o2.f6.length c3) rfl hz4) rfl ⟨_, by rw [HJ.out], by rw [HJ.out]; exact R3.out.keep hch (fun k hk e => own_no R3.out HZ3.out (by rw [hk, e])), Chg.base HB3.out hch HB3.out.size (fun i hi => by omega)⟩
theorem TrAt.noneH {w : World} {t : PT} (h : TrAt w t) {g : Nat} {cs : Array Value} {T : TypeId} {fr : Nat × Nat} (hg : w.heap[g]? = some (.cells cs T fr)) (hT : T ≠ 3) : g ∉ t.hbs := fun hi => by
  obtain ⟨cs2, h2⟩ := h.kind.2 g hi
  rw [hg] at h2
  injection h2 with h2
  injection h2 with _ h2
  exact hT h2
theorem srt_cut {p : S34 → Bool} (hp : ∀ a b, ord a b < 0 → p b = true → p a = true) : ∀ {L : List S34}, Srt L → L = L.filter p ++ L.filter (fun x => !p x)
  | [], _ => rfl
  | x :: L, h => by
    have ih := srt_cut hp (L := L) (List.pairwise_cons.1 h).2
    by_cases hx : p x = true
    · rw [List.filter_cons_of_pos hx, List.filter_cons_of_neg (by simp [hx]), List.cons_append, ← ih]
    · have e : L.filter p = [] := List.filter_eq_nil_iff.2 (fun y hy hpy => hx (hp x y ((List.pairwise_cons.1 h).1 y hy) hpy))
      rw [List.filter_cons_of_neg hx, List.filter_cons_of_pos (by simp [hx]), e, List.nil_append]
      rw [e, List.nil_append] at ih
      rw [← ih]
set_option maxHeartbeats 8000000 in
set_option maxRecDepth 100000 in
theorem tevict_any {w : World} {g : Nat} {bv : Value} {bs : List Int} {s : Int} (t : PT) (L L1 L2 : List S34) (v : Int) (hg : w.heap[g]? = some (tO bv t.ptr)) (hbo : Own w 0 bv bs) (h : TrAt w t) (hnd : t.blks.Nodup) (k : TOk bs t L) (gd : Gd bs s (its bs L))
    (he : L = L1 ++ L2) (h1 : ∀ y ∈ L1, decide (y.f1 < v) = true) (h2 : ∀ y ∈ L2, decide (y.f1 < v) = false) :
    Calls Try.prog 40 #[.pointer (some ⟨g, 0, none⟩), .int .i64 v] w fun e w' => ∃ t2, e = .returned (.int .i64 L1.length) ∧ w'.heap[g]? = some (tO bv t2.ptr) ∧ TrAt w' t2 ∧ TOk bs t2 L2 ∧ t2.blks.Nodup ∧ (∀ i ∈ t2.blks, i ∈ t.blks) ∧ (∀ i ∈ t2.hbs, i ∈ t.hbs ∨ w.heap.size ≤ i) ∧ Chg (fun i => i = g ∨ i ∈ t.blks) w w' := by
  have hB : Below w.heap.size w (w.alloc (.cells #[.int .i64 v] 3)) := (Below.refl w.heap.size w).alloc (Nat.le_refl _) _
  have HX := Lib.hid (heap_alloc_new w (.cells #[.int .i64 v] 3))
  have HB0 := Lib.hid hB
  have HG := Lib.hid (blk_below hg hB)
  have HO := Lib.hid (Own.below hbo hB)
  have HT := Lib.hid (h.below hB)
  have HK := Lib.hid (And.intro k gd)
  have HL := Lib.hid (And.intro he (And.intro h1 h2))
  have HD := Lib.hid hnd
  have HN := Lib.hid (And.intro (h.none_ hg (by decide)) (And.intro (h.noneH hg (by decide)) (And.intro (blk_lt hg) (h.lt).2)))
  clear hg hbo h k gd hB he h1 h2 hnd
  obtain ⟨A, hA⟩ := t.ptr_form
  have HA := Lib.hid hA
  go_enter Try.func40, Try.ntmps40
  obtain ⟨q0, q1, ql⟩ := tO_facts HG.out
  rw [hA] at q1
  go_wp2_with fail
  clear q0 q1 ql hA
  show Calls _ _ _ (w.alloc (.cells #[.int .i64 v] 3)) _
  generalize w.alloc (.cells #[.int .i64 v] 3) = w1 at *
  rw [← HA.out]
  refine (split_any (tells_evict w.heap.size v) t L L1 L2 w1 HG.out HO.out HX.out HT.out HD.out HK.out.1 HK.out.2 HL.out.1 HL.out.2.1 HL.out.2.2).mono ?_
  rintro e w2 ⟨t1, t2, rfl, hp, k1, k2⟩
  obtain ⟨A1, hA1⟩ := t1.ptr_form
  obtain ⟨A2, hA2⟩ := t2.ptr_form
  have HA1 := Lib.hid (And.intro hA1 hA2)
  have HP := Lib.hid hp
  have HK2 := Lib.hid (And.intro k1 k2)
  have HG2 := Lib.hid (hp.chg.obj HG.out HN.out.1)
  clear hp k1 k2
  rw [hA1, hA2]
  obtain ⟨q0, q1, ql⟩ := tO_facts HG2.out
  have hf := fun j => blk_free HG2.out j
  clear hA1 hA2
  go_wp2_with fail
  show Calls _ _ _ (w2.setCell ⟨g, 1, none⟩ (.pointer A2)) _
  have hc3 : Chg (fun k => k = g) w2 (w2.setCell ⟨g, 1, none⟩ (.pointer A2)) := (Chg.refl (fun k => k = g) w2).setCell (p := ⟨g, 1, none⟩) (.inl rfl) _
  have hg3 : (w2.setCell ⟨g, 1, none⟩ (.pointer A2)).heap[g]? = some (tO bv (.pointer A2)) := (blk_set HG2.out 1 (.pointer A2)).trans rfl
  have hs1 := HB0.out.size
  have sb : ∀ i, i ∈ t1.blks ∨ i ∈ t2.blks → i ∈ t.blks := fun i hi => HP.out.perm.subset (List.mem_append.2 hi)
  have sh : ∀ i, i ∈ t1.hbs ∨ i ∈ t2.hbs → i ∈ t.hbs ∨ w.heap.size ≤ i := fun i hi => (HP.out.hb i hi).imp_right (fun h => Nat.le_trans hs1 h)
  have nh : ∀ i, i ∈ t1.hbs ∨ i ∈ t2.hbs → ¬ i = g := fun i hi e => by
    rcases sh i hi with h | h
    · exact HN.out.2.1 (e ▸ h)
    · have := HN.out.2.2.1
      omega
  have T1 := HP.out.a1.keep hc3 (fun i hi e => HN.out.1 (e ▸ sb i (.inl hi))) (fun i hi => nh i (.inl hi))
  have T2 := HP.out.a2.keep hc3 (fun i hi e => HN.out.1 (e ▸ sb i (.inr hi))) (fun i hi => nh i (.inr hi))
  have nd := (List.nodup_append.1 (HP.out.perm.nodup_iff.2 HD.out)).2.1
  have C3 : Chg (fun i => i = g ∨ i ∈ t.blks) w (w2.setCell ⟨g, 1, none⟩ (.pointer A2)) := ((Chg.of_below HB0.out).then_ (HP.out.chg.mono (fun i _ h => .inr h))).then_ (hc3.mono (fun i _ h => .inl h))
  have R := Lib.hid (And.intro (show (w2.setCell ⟨g, 1, none⟩ (.pointer A2)).heap[g]? = some (tO bv t2.ptr) from by rw [HA1.out.2]; exact hg3) (And.intro T2 (And.intro nd (And.intro (fun i hi => sb i (.inr hi)) (And.intro (fun i hi => sh i (.inr hi)) C3)))))
  have HT1 := Lib.hid T1
  clear hc3 hg3 hs1 sb sh nh T1 T2 nd C3 q0 q1 ql hf HG2
  generalize w2.setCell ⟨g, 1, none⟩ (.pointer A2) = w3 at *
  rw [← HA1.out.1]
  refine (tsize_any t1 HT1.out).mono ?_
  rintro e w4 ⟨rfl, hb⟩
  rw [HK2.out.1.size]
  have HB := Lib.hid hb
  clear hb
  go_wp2_with fail
  go_ret
  obtain ⟨r1, r2, r3, r4, r5, r6⟩ := R.out
  exact ⟨t2, rfl, blk_below r1 HB.out, r2.below HB.out, HK2.out.2, r3, r4, r5, r6.below HB.out⟩
end Go.Proofs.Ytfgabafbcephaaa.My

namespace Go.Proofs.Ytfgabafbcephaaa.My
open Go.RowKit Pa Go.Proofs.YtfgabafbcephaaaW.PrintWords
set_option linter.unusedSimpArgs false
set_option maxHeartbeats 8000000 in
set_option maxRecDepth 100000 in
theorem lot_any {w : World} {xb : Nat} {y : S34} (hx : w.heap[xb]? = some (itO y)) :
    Calls Try.prog 66 #[.pointer (some ⟨xb, 0, none⟩)] w fun e w' => ∃ q, e = .returned (.int .u32 q) ∧ 0 ≤ q ∧ q ≤ 4294967295 ∧ Below w.heap.size w w' := by
  obtain ⟨f0, f1, f2, f3, fl⟩ := itO_facts hx
  clear hx
  go_enter Try.func66, Try.ntmps66
  go_wp2_with fail
  refine Txt.wp_region_mix (by kernel_rfl) (by kernel_rfl) (fun HB => ?_)
  repeat (first
    | (refine Txt.mix_p (by rfl) rfl rfl (fun K hK => ?_); go_big_quiet_op; refine hK _ ?_; clear hK K)
    | (refine Txt.mix_re (by rfl) (by decide +kernel) (by rfl) (by rfl) (by go_simp) HB (fun K hK => ?_); go_big_quiet_op; refine hK _ ?_; clear hK K)
    | (refine Txt.mix_rl (by rfl) (by decide +kernel) (by rfl) (by rfl) (by go_simp) HB (fun K hK => ?_); go_big_quiet_op; refine hK _ ?_; clear hK K)
    | (refine Txt.mix_pass (by rfl) (by rfl) ?_; simp only [List.set_cons_succ, List.set_cons_zero]))
  refine Txt.mix_nil ?_
  go_wp2_with fail
  show Code.wp _ _ _ _ ((w.alloc (.cells #[.int .u32 15, .int .u32 13, .int .u32 16] 105)).drew)
  have hal : Below w.heap.size w (w.alloc (.cells #[.int .u32 15, .int .u32 13, .int .u32 16] 105)).drew := ((Below.refl _ _).alloc (Nat.le_refl _) _).drew
  have HB0 := Lib.hid hal
  have HX := Lib.hid (show (w.alloc (.cells #[.int .u32 15, .int .u32 13, .int .u32 16] 105)).drew.heap[w.heap.size]? = _ from heap_alloc_new w (.cells #[.int .u32 15, .int .u32 13, .int .u32 16] 105))
  clear hal f0 f1 f2 f3 fl HB
  generalize (w.alloc (.cells #[.int .u32 15, .int .u32 13, .int .u32 16] 105)).drew = w1 at *
  generalize bits BinOp.xor IntKind.u32 (y.f1 % 4294967296 * 2654435761 % 4294967296) (y.f2 % 4294967296 * 40503 % 4294967296) = q0 at *
  go_loopw [3, 21] (fun h c wr => ∃ q i : Int, h = .int .u32 q ∧ c = .int .i64 i ∧ 0 ≤ i ∧ i ≤ 3 ∧ Below w1.heap.size w1 wr ∧ Rel (i = 0 ∨ (0 ≤ q ∧ q ≤ 4294967295))) (fun _ c _ => (3 - intOf c).toNat)
  case atStart => exact ⟨_, _, rfl, rfl, by omega, by omega, Below.refl _ _, .inl rfl⟩
  case round =>
    obtain ⟨q, i, rfl, rfl, h0, h3, hb, hrl⟩ := hrel
    have HB1 := Lib.hid hb
    have HR := Lib.hid hrl
    have hx := blk_below HX.out hb
    have c0 := (blk_cell hx 0).trans rfl
    have c1 := (blk_cell hx 1).trans rfl
    have c2 := (blk_cell hx 2).trans rfl
    have cl := blk_lt hx
    clear hb hrl hx
    have hi : i = 0 ∨ i = 1 ∨ i = 2 ∨ i = 3 := by omega
    clear h0 h3
    rcases hi with rfl | rfl | rfl | rfl
    all_goals (go_wp2_with fail)
    iterate 3 (exact ⟨⟨_, _, rfl, rfl, by omega, by omega, HB1.out, .inr ⟨Int.emod_nonneg _ (by decide), Int.le_of_lt_add_one (Int.emod_lt_of_pos _ (by decide))⟩⟩, by simp [intOf]⟩)
    go_ret
    rcases HR.out with h | h
    · exact absurd h (by decide)
    · exact ⟨q, rfl, h.1, h.2, HB0.out.trans (HB1.out.mono HB0.out.size)⟩
end Go.Proofs.Ytfgabafbcephaaa.My

namespace Go.Proofs.Ytfgabafbcephaaa.My
open Go.RowKit Pa Go.Proofs.YtfgabafbcephaaaW.PrintWords
set_option linter.unusedSimpArgs false
def atX (xs : List S34) (i : Nat) : S34 := xs.getD i z34
theorem atX_take {xs : List S34} {i n : Nat} (h : i < n) : atX (xs.take n) i = atX xs i := by
  unfold atX
  rw [List.getD_eq_getElem?_getD, List.getD_eq_getElem?_getD, List.getElem?_take, if_pos h]
def cellsX (x : S34) : List Value := [.int .i64 x.f0, .int .i64 x.f1, .int .i64 x.f2, .int .i64 x.f3]
def flatX (xs : List S34) : List Value := xs.flatMap cellsX
theorem flatX_length (xs : List S34) : (flatX xs).length = xs.length * 4 := by
  induction xs with
  | nil => rfl
  | cons x r ih => simp only [flatX, List.flatMap_cons, List.length_append] at *; rw [ih]; simp [cellsX]; omega
theorem flatX_append (xs ys : List S34) : flatX (xs ++ ys) = flatX xs ++ flatX ys := by simp [flatX]
theorem flatX_one (x : S34) : flatX [x] = cellsX x := by simp [flatX]
theorem flatX_get {xs : List S34} : ∀ {i : Nat}, i < xs.length → ∀ k, k < 4 → (flatX xs)[i * 4 + k]? = (cellsX (atX xs i))[k]? := by
  induction xs with
  | nil => intro i h; simp at h
  | cons x r ih =>
    intro i h k hk
    have e : flatX (x :: r) = cellsX x ++ flatX r := by simp [flatX]
    rw [e]
    cases i with
    | zero =>
      rw [List.getElem?_append_left (by simp [cellsX]; omega)]
      simp [atX]
    | succ i =>
      rw [List.getElem?_append_right (by simp [cellsX]; omega)]
      have e2 : (i + 1) * 4 + k - (cellsX x).length = i * 4 + k := by simp [cellsX]; omega
      rw [e2, ih (by simpa using h) k hk]
      have e3 : atX (x :: r) (i + 1) = atX r i := rfl
      rw [e3]
theorem xrow_get {w : World} {base b n cap : Nat} {e : TypeId} {xs : List S34} (h : w.ownsRow base e 4 (.slice (some ⟨b, 0, none⟩) n cap) n (flatX xs)) {i : Nat} (hi : i < xs.length) :
    w.cell? ⟨b, i * 4, none⟩ = some (.int .i64 (atX xs i).f0) ∧ w.cell? ⟨b, i * 4 + 1, none⟩ = some (.int .i64 (atX xs i).f1) ∧ w.cell? ⟨b, i * 4 + 2, none⟩ = some (.int .i64 (atX xs i).f2) ∧ w.cell? ⟨b, i * 4 + 3, none⟩ = some (.int .i64 (atX xs i).f3) := by
  have hc : ∀ j u, (flatX xs)[j]? = some u → w.cell? ⟨b, j, none⟩ = some u := fun j u hu => by
    have h1 := h.cells (g := b) rfl j u hu
    have ha : (⟨b, 0, none⟩ : Addr).add j = ⟨b, j, none⟩ := by unfold Addr.add; split <;> simp_all
    rwa [ha] at h1
  refine ⟨hc _ _ ?_, hc _ _ ?_, hc _ _ ?_, hc _ _ ?_⟩
  · exact (flatX_get hi 0 (by omega)).trans rfl
  · exact (flatX_get hi 1 (by omega)).trans rfl
  · exact (flatX_get hi 2 (by omega)).trans rfl
  · exact (flatX_get hi 3 (by omega)).trans rfl
def RdX (w : World) (A : Option Addr) (ys : List S34) : Prop := 0 < ys.length → ∃ b o, A = some ⟨b, o, none⟩ ∧ b < w.heap.size ∧ ∀ i, i < ys.length →
  w.cell? ⟨b, o + i * 4, none⟩ = some (.int .i64 (atX ys i).f0) ∧ w.cell? ⟨b, o + i * 4 + 1, none⟩ = some (.int .i64 (atX ys i).f1) ∧ w.cell? ⟨b, o + i * 4 + 2, none⟩ = some (.int .i64 (atX ys i).f2) ∧ w.cell? ⟨b, o + i * 4 + 3, none⟩ = some (.int .i64 (atX ys i).f3)
theorem rdX_blk {w : World} {b : Nat} {ys : List S34} {sp : List Value} {T : TypeId} {fr : Nat × Nat} (h : w.heap[b]? = some (.cells (flatX ys ++ sp).toArray T fr)) : RdX w (some ⟨b, 0, none⟩) ys := fun _ => by
  refine ⟨b, 0, rfl, blk_lt h, fun i hi => ?_⟩
  have hc : ∀ k, k < 4 → w.cell? ⟨b, 0 + i * 4 + k, none⟩ = (cellsX (atX ys i))[k]? := fun k hk => by
    rw [blk_cell h]
    have hl := flatX_length ys
    rw [List.getElem?_toArray, List.getElem?_append_left (by omega), Nat.zero_add]
    exact flatX_get hi k hk
  exact ⟨(hc 0 (by omega)).trans rfl, (hc 1 (by omega)).trans rfl, (hc 2 (by omega)).trans rfl, (hc 3 (by omega)).trans rfl⟩
theorem xadd_at {x : Addr} (hs : x.spot = none) (i : Nat) : x.add i = ⟨x.block, x.off + i, none⟩ := by
  obtain ⟨b, o, s⟩ := x
  subst hs
  unfold Addr.add
  split
  · rename_i h
    subst h
    rfl
  · rfl
theorem RdX.quiet {w w1 : World} {A : Option Addr} {ys : List S34} (h : RdX w A ys) (hb : Below w.heap.size w w1) : RdX w1 A ys := fun hp => by
  obtain ⟨b, o, e, hbs, hc⟩ := h hp
  refine ⟨b, o, e, Nat.lt_of_lt_of_le hbs hb.size, fun i hi => ?_⟩
  obtain ⟨a0, a1, a2, a3⟩ := hc i hi
  exact ⟨(hb.cell (p := ⟨b, o + i * 4, none⟩) hbs).trans a0, (hb.cell (p := ⟨b, o + i * 4 + 1, none⟩) hbs).trans a1, (hb.cell (p := ⟨b, o + i * 4 + 2, none⟩) hbs).trans a2, (hb.cell (p := ⟨b, o + i * 4 + 3, none⟩) hbs).trans a3⟩
theorem RdX.take {w : World} {b o : Nat} {ys : List S34} (h : RdX w (some ⟨b, o, none⟩) ys) (n : Nat) : RdX w (some ⟨b, o, none⟩) (ys.take n) := fun hp => by
  rw [List.length_take] at hp
  obtain ⟨b1, o1, e, hb, hc⟩ := h (by omega)
  refine ⟨b1, o1, e, hb, fun i hi => ?_⟩
  rw [List.length_take] at hi
  rw [atX_take (by omega)]
  exact hc i (by omega)
theorem atX_drop {xs : List S34} (k i : Nat) : atX (xs.drop k) i = atX xs (k + i) := by
  simp [atX, List.getD_eq_getElem?_getD, List.getElem?_drop]
theorem RdX.drop {w : World} {b o : Nat} {ys : List S34} (h : RdX w (some ⟨b, o, none⟩) ys) (k : Nat) : RdX w (some ⟨b, o + k * 4, none⟩) (ys.drop k) := fun hp => by
  rw [List.length_drop] at hp
  obtain ⟨b1, o1, e, hb, hc⟩ := h (by omega)
  injection e with e
  injection e with e1 e2
  subst e1 e2
  refine ⟨b, o + k * 4, rfl, hb, fun i hi => ?_⟩
  rw [List.length_drop] at hi
  rw [atX_drop, show o + k * 4 + i * 4 = o + (k + i) * 4 by omega]
  exact hc (k + i) (by omega)
theorem RdX.flatX {w : World} {ad : Addr} {ys : List S34} (h : RdX w (some ad) ys) : ∀ j u, (flatX ys)[j]? = some u → w.cell? (ad.add j) = some u := fun j u hu => by
  have hj := (List.getElem?_eq_some_iff.1 hu).1
  rw [flatX_length] at hj
  obtain ⟨b, o, e, _, hc⟩ := h (by omega)
  injection e with e
  subst e
  rw [xadd_at rfl]
  obtain ⟨c0, c1, c2, c3⟩ := hc (j / 4) (by omega)
  have hf := flatX_get (xs := ys) (i := j / 4) (by omega) (j % 4) (by omega)
  rw [show j / 4 * 4 + j % 4 = j by omega, hu] at hf
  have hm : j % 4 = 0 ∨ j % 4 = 1 ∨ j % 4 = 2 ∨ j % 4 = 3 := by omega
  have hd : j = j / 4 * 4 + j % 4 := by omega
  rcases hm with hm | hm | hm | hm
  · rw [hm] at hf hd
    rw [hf, show o + j = o + j / 4 * 4 by omega]
    exact c0
  · rw [hm] at hf hd
    rw [hf, show o + j = o + j / 4 * 4 + 1 by omega]
    exact c1
  · rw [hm] at hf hd
    rw [hf, show o + j = o + j / 4 * 4 + 2 by omega]
    exact c2
  · rw [hm] at hf hd
    rw [hf, show o + j = o + j / 4 * 4 + 3 by omega]
    exact c3
end Go.Proofs.Ytfgabafbcephaaa.My

namespace Go.Proofs.Ytfgabafbcephaaa.My
open Go.RowKit Pa Go.Proofs.YtfgabafbcephaaaW.PrintWords
set_option linter.unusedSimpArgs false
def imays : Int → List S34 → Bool
  | _, [] => true
  | s, x :: r => imay x && (decide (s < 0) || x.f0 == s) && imays x.f0 r
def PT.ser : PT → Int
  | .nil => -1
  | .node _ x _ _ _ _ _ _ _ _ => x.f0
theorem dropX_cons {xs : List S34} {k : Nat} (hk : k < xs.length) : xs.drop k = xs.getD k z34 :: xs.drop (k + 1) := by
  rw [List.drop_eq_getElem_cons hk, List.getD_eq_getElem?_getD, List.getElem?_eq_getElem hk]
  rfl
theorem RdX.below {w w1 : World} {A : Option Addr} {ys : List S34} (h : RdX w A ys) (hb : Below w.heap.size w w1) : RdX w1 A ys := h.quiet hb
set_option maxHeartbeats 8000000 in
set_option maxRecDepth 100000 in
theorem tmay_any {w : World} {g : Nat} {bv : Value} {bs : List Int} (t : PT) (L : List S34) (xs : List S34) (A : Option Addr) (c : Nat) (hg : w.heap[g]? = some (tO bv t.ptr)) (h : TrAt w t) (k : TOk bs t L) (hL : L.length ≤ 8192) (hr : RdX w A xs) (hl : xs.length ≤ 17592186044415) :
    Calls Try.prog 58 #[.pointer (some ⟨g, 0, none⟩), .slice A xs.length c] w fun e w' => e = .returned (.bool (imays t.ser xs && decide ((L.length : Int) + xs.length ≤ 8192))) ∧ Below w.heap.size w w' := by
  have HG := Lib.hid hg
  have HT := Lib.hid h
  have HK := Lib.hid (And.intro k hL)
  have HA := Lib.hid hr
  clear hg h k hL hr
  obtain ⟨ser, hser⟩ : ∃ ser, t.ser = ser := ⟨_, rfl⟩
  have HS := Lib.hid hser
  clear hser
  go_enter Try.func58, Try.ntmps58
  obtain ⟨q0, q1, ql⟩ := tO_facts HG.out
  obtain ⟨P, hP⟩ := t.ptr_form
  have HP := Lib.hid hP
  cases t
  case' nil =>
    unfold PT.ptr at q1
  case' node b x o ov a av m q l r =>
    unfold PT.ptr at q1
    obtain ⟨e0, -, -, -, -, -, -, -, -, -, -, -, -, -, -, -, -, -, -, -, -, -, -, -, -, -, -, -, -, -, -, -, -, -, el⟩ := nO_facts HT.out.1
  all_goals (
    clear hP
    go_wp2_with fail
    go_loopw [5, 23] (fun s i wr => ∃ (k : Nat) (f : Int), i = .int .i64 k ∧ s = .int .i64 f ∧ k ≤ xs.length ∧ Below w.heap.size w wr ∧ Rel (imays ser xs = imays f (xs.drop k))) (fun _ i _ => xs.length - (intOf i).toNat)
    case atStart => exact ⟨0, ser, rfl, by rw [← HS.out]; rfl, by omega, Below.refl _ _, rfl⟩
    case round =>
      clear q0 q1 ql
      try clear e0 el
      obtain ⟨k, f, rfl, rfl, hk, hb, hx⟩ := hrel
      have HX := Lib.hid hx
      have HB := Lib.hid hb
      clear hx hb
      by_cases hlt : k < xs.length
      · obtain ⟨b, o, rfl, hbs, hcells⟩ := (HA.out.below HB.out) (by omega)
        obtain ⟨c0, c1, c2, c3⟩ := hcells k hlt
        have hx := HX.out
        unfold Rel at hx
        rw [dropX_cons hlt, imays] at hx
        unfold atX at c0 c1 c2 c3
        generalize xs.getD k z34 = x at *
        have hal : Below wr.heap.size wr (wr.alloc (itO x)) := (Below.refl wr.heap.size wr).alloc (Nat.le_refl _) _
        have hv : (wr.alloc (itO x)).heap[wr.heap.size]? = some (itO x) := heap_alloc_new wr _
        obtain ⟨a0, a1, a2, a3, al⟩ := itO_facts hv
        have HY := Lib.hid hx
        have HV := Lib.hid hv
        have HB2 := Lib.hid (HB.out.trans (hal.mono HB.out.size))
        clear hx hal hv hcells HB
        unfold itO at a0 a1 a2 a3 al
        go_wp2_with fail
        show Calls _ _ _ (wr.alloc (itO x)) _
        clear a0 a1 a2 a3 al c0 c1 c2 c3
        generalize wr.alloc (itO x) = wa at *
        generalize wr.heap.size = xb at *
        refine (im_any x _).mono ?_
        rintro e w2 ⟨rfl, hb⟩
        obtain ⟨a0, a1, a2, a3, al⟩ := itO_facts (blk_below HV.out hb)
        have HB3 := Lib.hid (HB2.out.trans (hb.mono HB2.out.size))
        have hy := HY.out
        clear hb HV HB2 HX HY
        by_cases hm : imay x = true
        · rw [hm]
          rw [hm] at hy
          clear hm
          by_cases h1 : 0 ≤ f
          · have hd1 : decide (0 ≤ f) = true := decide_eq_true h1
            rw [decide_eq_false (show ¬ f < 0 by omega)] at hy
            by_cases h2 : x.f0 = f
            · have hd2 : (x.f0 == f) = true := beq_iff_eq.2 h2
              rw [hd2] at hy
              have HZ := Lib.hid hy
              clear hy h1 h2
              go_wp2_with fail
              exact ⟨⟨k + 1, x.f0, by go_num, rfl, by omega, HB3.out, HZ.out⟩, by simp [intOf]; omega⟩
            · have hd2 : (x.f0 == f) = false := beq_eq_false_iff_ne.2 h2
              rw [hd2] at hy
              have HZ := Lib.hid hy
              clear hy h1 h2
              go_wp2_with fail
              go_ret
              exact ⟨by rw [HS.out, HZ.out]; rfl, HB3.out⟩
          · have hd1 : decide (0 ≤ f) = false := decide_eq_false h1
            rw [decide_eq_true (show f < 0 by omega)] at hy
            have HZ := Lib.hid hy
            clear hy h1
            go_wp2_with fail
            exact ⟨⟨k + 1, x.f0, by go_num, rfl, by omega, HB3.out, HZ.out⟩, by simp [intOf]; omega⟩
        · have hm' : imay x = false := by simpa using hm
          rw [hm']
          rw [hm'] at hy
          have HZ := Lib.hid hy
          clear hy hm hm'
          go_wp2_with fail
          go_ret
          exact ⟨by rw [HS.out, HZ.out]; rfl, HB3.out⟩
      · have ek : k = xs.length := by omega
        have HZ := Lib.hid (show imays ser xs = true from by
          have h := HX.out
          unfold Rel at h
          rw [h, List.drop_eq_nil_of_le (by omega)]
          rfl)
        subst ek
        obtain ⟨q0, q1, ql⟩ := tO_facts (blk_below HG.out HB.out)
        rw [HP.out] at q1
        go_wp2_with fail
        rw [← HP.out]
        refine (tsize_any _ (HT.out.below HB.out)).mono ?_
        rintro e w2 ⟨rfl, hb⟩
        rw [HK.out.1.size]
        have hL := HK.out.2
        have HB3 := Lib.hid (HB.out.trans (hb.mono HB.out.size))
        clear hb q0 q1 ql
        go_wp2_with fail
        go_ret
        exact ⟨by rw [HS.out, HZ.out, Bool.true_and]; first | rfl | (congr 3; omega), HB3.out⟩)
end Go.Proofs.Ytfgabafbcephaaa.My

namespace Go.Proofs.Ytfgabafbcephaaa.My
open Go.RowKit Pa Go.Proofs.YtfgabafbcephaaaW.PrintWords
set_option linter.unusedSimpArgs false
open Go.WideMaps in
theorem key_law : KeyLaw Try.prog 125 := deep_law_laid (show laidOutB Try.prog = true by kernel_rfl) (m := 2) (by omega) (of_decide_eq_true (by kernel_rfl)) (by kernel_rfl) (by kernel_rfl)
theorem key_keyed : Maps.Keyed Try.prog 125 := Maps.Keyed.of_law key_law
def keyV (x : S34) : Value := .agg #[.int .i64 x.f1, .int .i64 x.f2]
theorem imay_wf {x : S34} (h : imay x = true) : (Lit.int .i64 x.f1).wf = true ∧ (Lit.int .i64 x.f2).wf = true := by
  have h := of_decide_eq_true h
  exact ⟨WalkArith.wf_i64 (by omega), WalkArith.wf_i64 (by omega)⟩
theorem keyV_of {x : S34} (hx : imay x = true) : keyOf Try.prog 125 (keyV x) = some (.string (keyBytes [.int .i64 x.f1, .int .i64 x.f2])) := by
  obtain ⟨wa, wb⟩ := imay_wf hx
  have hsz : ∃ m, Try.prog.types.size = m + 1 := ⟨Try.prog.types.size - 1, by
    have : 0 < Try.prog.types.size := of_decide_eq_true (by kernel_rfl)
    omega⟩
  have hkt : Try.prog.keyType 125 = true := by kernel_rfl
  have hc : Try.prog.cellsOf 125 = 2 := by kernel_rfl
  have h1 : Try.prog.cellsOf 3 = 1 := by kernel_rfl
  obtain ⟨m, hm⟩ := hsz
  unfold keyOf keyV
  simp only [Try.underlying125]
  rw [if_pos (by simp [hkt, Value.formed, Try.underlying125, hc]), hm]
  cases m with
  | zero => exact absurd hm (of_decide_eq_true (by kernel_rfl))
  | succ m =>
    unfold Program.keyLits
    simp only [Try.underlying125, Value.cells]
    rw [if_pos ⟨by rw [hc]; rfl, by kernel_rfl⟩]
    simp [h1, Program.keyLits, Try.underlying3, wa, wb]
def seen (x : S34) (L : List S34) : Bool := L.any (fun y => y.f1 == x.f1 && y.f2 == x.f2)
def keyL (x : S34) : Lit := .string (keyBytes [.int .i64 x.f1, .int .i64 x.f2])
theorem keyL_ne {x y : S34} (hx : imay x = true) (hy : imay y = true) (h : (y.f1 == x.f1 && y.f2 == x.f2) = false) : keyL x ≠ keyL y := fun e => by
  have h2 := key_keyed.inj (keyV_of hx) ((keyV_of hy).trans (congrArg some e.symm))
  unfold keyV at h2
  simp only [Value.agg.injEq, Array.mk.injEq, List.cons.injEq, Value.int.injEq, true_and, and_true] at h2
  rw [h2.1, h2.2] at h
  simp at h
def SetAt (w : World) (b n : Nat) (L : List S34) : Prop := ∃ D : DataW Unit, w.ownsMap Try.prog 125 (plainElem Try.prog 4) b n D ∧ Maps.IsMap D ∧ ∀ x, imay x = true → D.atKey (keyL x) (.lit (.bool false)) = .lit (.bool (seen x L))
theorem SetAt.made (w : World) : SetAt (w.alloc (.map #[] 0)) w.heap.size 0 [] := ⟨.map [], World.ownsMap_made w _ _ _, ⟨_, rfl⟩, fun _ _ => rfl⟩
theorem SetAt.kept {w w1 : World} {b n : Nat} {L : List S34} {row : Option Nat} (h : SetAt w b n L) (hg : w.grownBy w1 row) (hne : some b ≠ row) : SetAt w1 b n L := by
  obtain ⟨D, h1, h2⟩ := h
  exact ⟨D, h1.kept hg hne, h2⟩
theorem SetAt.look {w : World} {b n : Nat} {L : List S34} (h : SetAt w b n L) {x : S34} (hx : imay x = true) : (Instr.lookup 123 (.map (some b)) (keyV x) false).run Try.prog w = .ok (.bool (seen x L)) w := by
  obtain ⟨D, h1, _, h3⟩ := h
  have hz : (zeroValue 4).run Try.prog w = .ok (.bool false) w := by go_simp
  obtain ⟨v, ps, hr, hv⟩ := h1.lookup key_keyed Try.underlying123 hz (plainElem_bool Try.underlying4 false) (keyV_of hx)
  have e : plainElem Try.prog 4 v = some ((.lit (.bool (seen x L)) : DataW Unit), ps) := by
    rw [← h3 x hx]
    exact hv
  rw [hr]
  have hu := Try.underlying4
  unfold plainElem at e
  generalize Try.prog.underlying 4 = u at e hu
  subst hu
  cases v <;> simp at e
  rw [e.1]
theorem seen_add {L : List S34} {D' : DataW Unit} {x : S34} (hx : imay x = true) (h : ∀ y, imay y = true → D'.atKey (keyL y) (.lit (.bool false)) = .lit (.bool (seen y L))) (hm : Maps.IsMap D') :
    ∀ y, imay y = true → (D'.put (keyL x) (.lit (.bool true))).atKey (keyL y) (.lit (.bool false)) = .lit (.bool (seen y (L ++ [x]))) := fun y hy => by
  have e : seen y (L ++ [x]) = (seen y L || (x.f1 == y.f1 && x.f2 == y.f2)) := by simp [seen]
  rw [e]
  by_cases he : (x.f1 == y.f1 && x.f2 == y.f2) = true
  · have hk : keyL y = keyL x := by
      simp only [Bool.and_eq_true, beq_iff_eq] at he
      unfold keyL
      rw [he.1, he.2]
    rw [hk, Maps.atKey_put_same hm (show WideAt.IsKeyLit (keyL x) from trivial), he, Bool.or_true]
  · have he : (x.f1 == y.f1 && x.f2 == y.f2) = false := by simpa using he
    rw [Maps.atKey_put_other (keyL_ne hy hx he), h y hy, he, Bool.or_false]
theorem SetAt.wp_add {w : World} {b n : Nat} {L : List S34} {x : S34} (h : SetAt w b n L) (hx : imay x = true) (hn : n < maxLen) {ops : Array Oper} {rest : List Oper} {o : Oper} {a : Act} {Q : Exit → Act → World → Prop}
    (hg : o.guard = none) (m k v : Operand) (hop : o.op = Op.mapUpdate 123 m k v) (hm : a.eval m = .map (some b)) (hk : a.eval k = keyV x) (hv : a.eval v = .bool true)
    (hK : ∀ w', SetAt w' b (n + 1) (L ++ [x]) → w.grownBy w' (some b) → wpList Try.prog ops Q rest (a.put o.dst undef) w') : wpList Try.prog ops Q (o :: rest) a w := by
  obtain ⟨D, h1, h2, h3⟩ := h
  exact wpList_mapUpdate_own w hg m k v _ hop _ _ key_keyed Try.underlying123 _ b n D hm h1 hn (keyV x) (.bool true) _ hk hv (keyV_of hx) (.lit (.bool true)) [] (plainElem_bool Try.underlying4 true) fun w' r1 r2 => hK w' ⟨_, r1, h2.put _ _, seen_add hx h3 h2⟩ r2
end Go.Proofs.Ytfgabafbcephaaa.My

namespace Go.Proofs.Ytfgabafbcephaaa.My
open Go.RowKit Pa Go.Proofs.YtfgabafbcephaaaW.PrintWords
set_option linter.unusedSimpArgs false
theorem below_grown {B : Nat} {w0 w w1 : World} {row : Option Nat} (h : Below B w0 w) (hg : w.grownBy w1 row) (hB : B ≤ w.heap.size) (hr : ∀ k, row = some k → B ≤ k) : Below B w0 w1 :=
  Chg.base h ((Chg.refl (fun k => row = some k) w).grown hg (fun _ hk => .inl hk)) hB hr
def twi (L : List S34) : List S34 → List S34 → Bool
  | _, [] => false
  | S, x :: r => seen x S || hasB x L || twi L (S ++ [x]) r
set_option maxHeartbeats 8000000 in
set_option maxRecDepth 100000 in
theorem twice_any {w : World} {g : Nat} {bv : Value} {bs : List Int} (t : PT) (L : List S34) (xs : List S34) (A : Option Addr) (c : Nat) (hg : w.heap[g]? = some (tO bv t.ptr)) (h : TrAt w t) (k : TOk bs t L) (hs : Srt L) (hr : RdX w A xs) (hl : xs.length ≤ 8192) (hm : ∀ x ∈ xs, imay x = true) :
    Calls Try.prog 59 #[.pointer (some ⟨g, 0, none⟩), .slice A xs.length c] w fun e w' => e = .returned (.bool (twi L [] xs)) ∧ Below w.heap.size w w' := by
  have HG := Lib.hid hg
  have HT := Lib.hid h
  have HK := Lib.hid (And.intro k hs)
  have HA := Lib.hid hr
  have HM := Lib.hid hm
  clear hg h k hs hr hm
  go_enter Try.func59, Try.ntmps59
  have hmk : (Instr.makeMap 123 none).run Try.prog w = .ok (.map (some w.heap.size)) (w.alloc (.map #[] 0)) := run_makeMap _ w
  go_wp2_with fail
  clear hmk
  have hal : Below w.heap.size w (w.alloc (.map #[] 0)) := (Below.refl _ _).alloc (Nat.le_refl _) _
  have HB0 := Lib.hid hal
  have HS0 := Lib.hid (SetAt.made w)
  clear hal
  generalize w.alloc (.map #[] 0) = w1 at *
  have HMB := Lib.hid (Nat.le_refl w.heap.size)
  go_loopw [12] (fun i wr => ∃ k : Nat, i = .int .i64 k ∧ k ≤ xs.length ∧ Below w.heap.size w wr ∧ SetAt wr w.heap.size k (xs.take k) ∧ Rel (twi L [] xs = twi L (xs.take k) (xs.drop k))) (fun i _ => xs.length - (intOf i).toNat)
  case atStart => exact ⟨0, rfl, by omega, HB0.out, HS0.out, rfl⟩
  case round =>
    obtain ⟨k, rfl, hk, hb, hset, hx⟩ := hrel
    have HX := Lib.hid hx
    have HB := Lib.hid hb
    have HS := Lib.hid hset
    clear hx hb hset
    by_cases hlt : k < xs.length
    · obtain ⟨b, o, rfl, hbs, hcells⟩ := (HA.out.below HB.out) (by omega)
      obtain ⟨c0, c1, c2, c3⟩ := hcells k hlt
      have hx := HX.out
      unfold Rel at hx
      rw [dropX_cons hlt, twi] at hx
      have HXM := Lib.hid (HM.out (xs.getD k z34) (by rw [List.getD_eq_getElem?_getD, List.getElem?_eq_getElem hlt]; exact List.getElem_mem hlt))
      have HTK := Lib.hid (show xs.take (k + 1) = xs.take k ++ [xs.getD k z34] from by
        rw [List.take_add_one, List.getElem?_eq_getElem hlt, List.getD_eq_getElem?_getD, List.getElem?_eq_getElem hlt]
        rfl)
      unfold atX at c0 c1 c2 c3
      generalize xs.getD k z34 = x at *
      have hal : Below wr.heap.size wr (wr.alloc (itO x)) := (Below.refl wr.heap.size wr).alloc (Nat.le_refl _) _
      have hv : (wr.alloc (itO x)).heap[wr.heap.size]? = some (itO x) := heap_alloc_new wr _
      obtain ⟨a0, a1, a2, a3, al⟩ := itO_facts hv
      have hal2 : Below (wr.alloc (itO x)).heap.size (wr.alloc (itO x)) ((wr.alloc (itO x)).alloc (.cells #[.int .i64 x.f1, .int .i64 x.f2] 125)) := (Below.refl _ _).alloc (Nat.le_refl _) _
      have hset2 : SetAt ((wr.alloc (itO x)).alloc (.cells #[.int .i64 x.f1, .int .i64 x.f2] 125)) w.heap.size k (xs.take k) := (HS.out.kept (World.grownBy_alloc wr _ none) (by simp)).kept (World.grownBy_alloc _ _ none) (by simp)
      have hlk := hset2.look HXM.out
      have HS2 := Lib.hid hset2
      have HV2 := Lib.hid (blk_below hv hal2)
      have HB2 := Lib.hid ((HB.out.trans (hal.mono HB.out.size)).trans (hal2.mono (Nat.le_trans HB.out.size hal.size)))
      unfold itO keyV at hlk
      have HY := Lib.hid hx
      have HV := Lib.hid hv
      have HAL := Lib.hid hal
      clear hx hal hv hcells hal2 hset2
      unfold itO at a0 a1 a2 a3 al
      by_cases hsn : seen x (xs.take k) = true
      · rw [hsn] at hlk
        have HZ := Lib.hid (show twi L [] xs = true from by rw [HY.out, hsn]; rfl)
        clear hsn
        go_wp2_with fail
        go_ret
        exact ⟨by rw [HZ.out]; rfl, HB2.out⟩
      · have hsn : seen x (xs.take k) = false := by simpa using hsn
        rw [hsn] at hlk
        have HZ := Lib.hid (show twi L [] xs = (hasB x L || twi L (xs.take (k + 1)) (xs.drop (k + 1))) from by
          rw [HY.out, hsn, HTK.out]
          rfl)
        clear hsn
        go_wp2_with fail
        show Calls _ _ _ ((wr.alloc (itO x)).alloc (.cells #[.int .i64 x.f1, .int .i64 x.f2] 125)) _
        clear a0 a1 a2 a3 al c0 c1 c2 c3 hlk HV HY HAL HX
        generalize (wr.alloc (itO x)).alloc (.cells #[.int .i64 x.f1, .int .i64 x.f2] 125) = w2 at *
        refine (has_any t L x (blk_below HG.out HB2.out) (HT.out.below HB2.out) HK.out.1 HK.out.2).mono ?_
        rintro e w3 ⟨rfl, hb⟩
        have HB3 := Lib.hid (HB2.out.trans (hb.mono HB2.out.size))
        have HV3 := Lib.hid (blk_below HV2.out hb)
        have HS3 := Lib.hid (show SetAt w3 w.heap.size k (xs.take k) from by
          obtain ⟨D, d1, d2, d3⟩ := HS2.out
          obtain ⟨es, ck, f1, f2, f3⟩ := d1
          exact ⟨D, ⟨es, ck, blk_below f1 hb, f2, f3⟩, d2, d3⟩)
        obtain ⟨a0, a1, a2, a3, al⟩ := itO_facts HV3.out
        clear hb
        by_cases hh : hasB x L = true
        · rw [hh]
          have HZ2 := Lib.hid (show twi L [] xs = true from by rw [HZ.out, hh]; rfl)
          clear hh
          go_wp2_with fail
          go_ret
          exact ⟨by rw [HZ2.out]; rfl, HB3.out⟩
        · have hh : hasB x L = false := by simpa using hh
          rw [hh]
          have HZ2 := Lib.hid (show twi L [] xs = twi L (xs.take (k + 1)) (xs.drop (k + 1)) from by rw [HZ.out, hh]; rfl)
          clear hh
          have hml : k < maxLen := Nat.lt_of_lt_of_le hlt (by unfold maxLen; omega)
          go_wp2_with (first | (at_mapUpdate; refine HS3.out.wp_add HXM.out hml rfl _ _ _ rfl rfl rfl rfl ?_) | go_in)
          intro w4 hs4 hg4
          have HB4 := Lib.hid (below_grown HB3.out hg4 HB3.out.size (fun j hj => by injection hj with hj; omega))
          rw [← HTK.out] at hs4
          have HS4 := Lib.hid hs4
          clear hs4 hg4 hml a0 a1 a2 a3 al
          go_wp2_with fail
          exact ⟨⟨k + 1, by go_num, by omega, HB4.out, HS4.out, HZ2.out⟩, by simp [intOf]; omega⟩
    · have ek : k = xs.length := by omega
      have HZ := Lib.hid (show twi L [] xs = false from by
        have h := HX.out
        unfold Rel at h
        rw [h, List.drop_eq_nil_of_le (by omega)]
        rfl)
      subst ek
      go_wp2_with fail
      go_ret
      exact ⟨by rw [HZ.out]; rfl, HB.out⟩
end Go.Proofs.Ytfgabafbcephaaa.My

namespace Go.Proofs.Ytfgabafbcephaaa.My
open Go.RowKit Pa Go.Proofs.YtfgabafbcephaaaW.PrintWords
set_option linter.unusedSimpArgs false
theorem ord_trans {a b c : S34} (h1 : ord a b < 0) (h2 : ord b c < 0) : ord a c < 0 := by
  unfold ord at *
  (repeat' split at h1) <;> (repeat' split at h2) <;> (repeat' split) <;> omega
def ahead (x : S34) (L : List S34) : List S34 := L.filter (fun y => decide (ord y x < 0))
def behind (x : S34) (L : List S34) : List S34 := L.filter (fun y => !decide (ord y x < 0))
def ins (x : S34) (L : List S34) : List S34 := ahead x L ++ x :: behind x L
theorem ins_cut {x : S34} {L : List S34} (h : Srt L) : L = ahead x L ++ behind x L := srt_cut (p := fun y => decide (ord y x < 0)) (fun _ _ hab hb => decide_eq_true (ord_trans hab (of_decide_eq_true hb))) h
theorem ahead_ok {x y : S34} {L : List S34} (h : y ∈ ahead x L) : y ∈ L ∧ ord y x < 0 := by
  have := List.mem_filter.1 h
  exact ⟨this.1, of_decide_eq_true this.2⟩
theorem behind_ok {x y : S34} {L : List S34} (h : y ∈ behind x L) : y ∈ L ∧ ¬ ord y x < 0 := by
  have := List.mem_filter.1 h
  exact ⟨this.1, by simpa using this.2⟩
theorem ins_srt {x : S34} {L : List S34} (h : Srt L) (hx : ∀ y ∈ L, ord x y ≠ 0) : Srt (ins x L) := by
  unfold ins Srt
  have h1 := ins_cut (x := x) h
  have h2 : Srt (ahead x L ++ behind x L) := h1 ▸ h
  refine List.pairwise_append.2 ⟨srt_left h2, List.pairwise_cons.2 ⟨fun y hy => ?_, srt_right h2⟩, fun a ha b hb => ?_⟩
  · have := behind_ok hy
    have h3 := hx y this.1
    have h4 := this.2
    rw [ord_anti] at h4
    omega
  · have h3 := ahead_ok ha
    rcases List.mem_cons.1 hb with rfl | hb
    · exact h3.2
    · exact (List.pairwise_append.1 h2).2.2 a ha b hb
end Go.Proofs.Ytfgabafbcephaaa.My

namespace Go.Proofs.Ytfgabafbcephaaa.My
open Go.RowKit Pa Go.Proofs.YtfgabafbcephaaaW.PrintWords
set_option linter.unusedSimpArgs false
structure TI (w0 w : World) (F : Nat → Prop) (g : Nat) (bv : Value) (bs : List Int) (t : PT) (L : List S34) : Prop where
  hg : w.heap[g]? = some (tO bv t.ptr)
  bo : Own w 0 bv bs
  tr : TrAt w t
  ok : TOk bs t L
  nd : t.blks.Nodup
  srt : Srt L
  fr : ∀ i, i ∈ t.blks ∨ i ∈ t.hbs → F i ∨ w0.heap.size ≤ i
  chg : Chg (fun i => i = g ∨ F i) w0 w
theorem TI.below {w0 w w1 : World} {F : Nat → Prop} {g : Nat} {bv : Value} {bs : List Int} {t : PT} {L : List S34} (h : TI w0 w F g bv bs t L) (hb : Below w.heap.size w w1) : TI w0 w1 F g bv bs t L :=
  ⟨blk_below h.hg hb, Own.below h.bo hb, h.tr.below hb, h.ok, h.nd, h.srt, h.fr, h.chg.below hb⟩
theorem gd_of {bs : List Int} {s : Int} {L : List S34} (hb : bmay bs = true) (h : ∀ x ∈ L, imay x = true ∧ x.f0 = s) (hl : L.length ≤ 8192) : Gd bs s (its bs L) := by
  refine ⟨hb, fun y hy => ?_, ?_⟩
  · obtain ⟨x, hx, rfl⟩ := List.mem_map.1 hy
    exact .inr ⟨may1_one (h x hx).1 hb, (h x hx).2⟩
  · unfold its
    rw [cnt_map]
    omega
def insAll (L : List S34) (xs : List S34) : List S34 := xs.foldl (fun M x => ins x M) L
end Go.Proofs.Ytfgabafbcephaaa.My

namespace Go.Proofs.Ytfgabafbcephaaa.My
open Go.RowKit Pa Go.Proofs.YtfgabafbcephaaaW.PrintWords
set_option linter.unusedSimpArgs false
theorem chg_cell {S : Nat → Prop} {w w1 : World} (hc : Chg S w w1) {p : Addr} (hb : p.block < w.heap.size) (hn : ¬ S p.block) : w1.cell? p = w.cell? p := by
  simp only [World.cell?, hc.block p.block hb hn]
theorem RdX.keep {S : Nat → Prop} {w w1 : World} {A : Option Addr} {ys : List S34} (h : RdX w A ys) (hc : Chg S w w1) (hn : ∀ b o, A = some ⟨b, o, none⟩ → ¬ S b) : RdX w1 A ys := fun hp => by
  obtain ⟨b, o, e, hbs, hcs⟩ := h hp
  refine ⟨b, o, e, Nat.lt_of_lt_of_le hbs hc.size, fun i hi => ?_⟩
  obtain ⟨a0, a1, a2, a3⟩ := hcs i hi
  have n := hn b o e
  exact ⟨(chg_cell hc (p := ⟨b, o + i * 4, none⟩) hbs n).trans a0, (chg_cell hc (p := ⟨b, o + i * 4 + 1, none⟩) hbs n).trans a1, (chg_cell hc (p := ⟨b, o + i * 4 + 2, none⟩) hbs n).trans a2, (chg_cell hc (p := ⟨b, o + i * 4 + 3, none⟩) hbs n).trans a3⟩
theorem ord_zero {x y : S34} : ord x y = 0 ↔ x.f1 = y.f1 ∧ x.f2 = y.f2 := by
  unfold ord
  (repeat' split) <;> omega
theorem ins_mem {x y : S34} {L : List S34} : y ∈ ins x L ↔ y = x ∨ y ∈ L := by
  unfold ins ahead behind
  simp only [List.mem_append, List.mem_cons, List.mem_filter]
  cases decide (ord y x < 0) <;> simp <;> constructor <;> intro h <;> rcases h with h | h <;> simp [h]
theorem ins_len {x : S34} {L : List S34} : (ins x L).length = L.length + 1 := by
  unfold ins ahead behind
  have h : (L.filter (fun y => decide (ord y x < 0))).length + (L.filter (fun y => !decide (ord y x < 0))).length = L.length := by
    induction L with
    | nil => rfl
    | cons y r ih =>
      rw [List.filter_cons, List.filter_cons]
      cases decide (ord y x < 0) <;> simp <;> omega
  simp only [List.length_append, List.length_cons]
  omega
theorem insAll_snoc (L xs : List S34) (x : S34) : insAll L (xs ++ [x]) = ins x (insAll L xs) := by simp [insAll]
theorem insAll_mem {xs : List S34} : ∀ {L : List S34} {y : S34}, y ∈ insAll L xs ↔ y ∈ L ∨ y ∈ xs := by
  induction xs with
  | nil => intro L y; simp [insAll]
  | cons x r ih =>
    intro L y
    have e : insAll L (x :: r) = insAll (ins x L) r := rfl
    rw [e, ih, ins_mem, List.mem_cons]
    constructor
    · rintro ((h | h) | h)
      · exact .inr (.inl h)
      · exact .inl h
      · exact .inr (.inr h)
    · rintro (h | h | h)
      · exact .inl (.inr h)
      · exact .inl (.inl h)
      · exact .inr h
theorem insAll_len {xs : List S34} : ∀ {L : List S34}, (insAll L xs).length = L.length + xs.length := by
  induction xs with
  | nil => intro L; rfl
  | cons x r ih =>
    intro L
    have e : insAll L (x :: r) = insAll (ins x L) r := rfl
    rw [e, ih, ins_len, List.length_cons]
    omega
theorem twi_ok {L : List S34} : ∀ {xs S : List S34}, twi L S xs = false → (∀ x ∈ xs, seen x S = false ∧ hasB x L = false) ∧ xs.Pairwise (fun a b => ord a b ≠ 0) := by
  intro xs
  induction xs with
  | nil => intro S _; exact ⟨(fun x hx => by cases hx), List.Pairwise.nil⟩
  | cons x r ih =>
    intro S h
    rw [twi, Bool.or_eq_false_iff, Bool.or_eq_false_iff] at h
    obtain ⟨⟨h1, h2⟩, h3⟩ := h
    obtain ⟨i1, i2⟩ := ih h3
    refine ⟨fun y hy => ?_, List.pairwise_cons.2 ⟨fun y hy e => ?_, i2⟩⟩
    · rcases List.mem_cons.1 hy with rfl | hy
      · exact ⟨h1, h2⟩
      · have := (i1 y hy).1
        unfold seen at this ⊢
        rw [List.any_append, Bool.or_eq_false_iff] at this
        exact ⟨this.1, (i1 y hy).2⟩
    · have := (i1 y hy).1
      unfold seen at this
      rw [List.any_append, Bool.or_eq_false_iff] at this
      have h4 := this.2
      have e := ord_zero.1 e
      simp [e.1, e.2] at h4
theorem hasB_no {x : S34} {L : List S34} (h : hasB x L = false) : ∀ y ∈ L, ord x y ≠ 0 := fun y hy e => by
  unfold hasB at h
  have := List.any_eq_false.1 h y hy
  simp [e] at this
theorem twi_next {L xs : List S34} (h : twi L [] xs = false) {k : Nat} (hk : k < xs.length) : ∀ y ∈ insAll L (xs.take k), ord (xs.getD k z34) y ≠ 0 := by
  obtain ⟨h1, h2⟩ := twi_ok h
  have hx : xs.getD k z34 ∈ xs := by rw [List.getD_eq_getElem?_getD, List.getElem?_eq_getElem hk]; exact List.getElem_mem hk
  intro y hy
  rcases insAll_mem.1 hy with hy | hy
  · exact hasB_no (h1 _ hx).2 y hy
  · intro e
    have e2 : xs = xs.take k ++ xs.getD k z34 :: xs.drop (k + 1) := by
      conv => lhs; rw [← List.take_append_drop k xs]
      rw [dropX_cons hk]
    rw [e2] at h2
    refine (List.pairwise_append.1 h2).2.2 y hy _ (List.mem_cons_self ..) ?_
    rw [ord_anti, e]
    rfl
theorem imays_ok : ∀ {xs : List S34} {s : Int}, 0 ≤ s → imays s xs = true → ∀ x ∈ xs, imay x = true ∧ x.f0 = s := by
  intro xs
  induction xs with
  | nil => intro s _ _ x hx; cases hx
  | cons y r ih =>
    intro s hs h x hx
    rw [imays, Bool.and_eq_true_iff, Bool.and_eq_true_iff] at h
    have h0 : y.f0 = s := by
      have := h.1.2
      rw [Bool.or_eq_true_iff] at this
      rcases this with h | h
      · exact absurd (of_decide_eq_true h) (by omega)
      · simpa using h
    rcases List.mem_cons.1 hx with rfl | hx
    · exact ⟨h.1.1, h0⟩
    · exact ih hs (h0 ▸ h.2) x hx
theorem imay_ser {x : S34} (h : imay x = true) : 0 ≤ x.f0 := (of_decide_eq_true h).1
def One1 (L : List S34) : Prop := ∃ s, ∀ x ∈ L, imay x = true ∧ x.f0 = s
theorem imays_all {bs : List Int} {t : PT} {L xs : List S34} (k : TOk bs t L) (hL : One1 L) (h : imays t.ser xs = true) : One1 (L ++ xs) := by
  cases t with
  | nil =>
    have e : L = [] := k
    subst e
    cases xs with
    | nil => exact hL
    | cons x r =>
      have h := h
      rw [imays, Bool.and_eq_true_iff, Bool.and_eq_true_iff] at h
      refine ⟨x.f0, fun y hy => ?_⟩
      rcases List.mem_cons.1 hy with rfl | hy
      · exact ⟨h.1.1, rfl⟩
      · exact imays_ok (imay_ser h.1.1) h.2 y hy
  | node b x o ov a av m q l r =>
    obtain ⟨L1, L2, e, -⟩ := k
    obtain ⟨s, hs⟩ := hL
    have hx := hs x (by rw [e]; simp)
    have h : imays x.f0 xs = true := h
    refine ⟨s, fun y hy => ?_⟩
    rcases List.mem_append.1 hy with hy | hy
    · exact hs y hy
    · have := imays_ok (imay_ser hx.1) h y hy
      exact ⟨this.1, this.2.trans hx.2⟩
theorem One1.sub {L M : List S34} (h : One1 L) (hm : ∀ x ∈ M, x ∈ L) : One1 M := by
  obtain ⟨s, hs⟩ := h
  exact ⟨s, fun x hx => hs x (hm x hx)⟩
theorem TI.join {w0 w w1 : World} {F : Nat → Prop} {g : Nat} {bv : Value} {bs : List Int} {t u : PT} {L M : List S34} (h : TI w0 w F g bv bs t L) (k : TI w w1 (fun i => i ∈ t.blks ∨ i ∈ t.hbs) g bv bs u M) : TI w0 w1 F g bv bs u M :=
  ⟨k.hg, k.bo, k.tr, k.ok, k.nd, k.srt, fun i hi => (k.fr i hi).elim (fun h1 => h.fr i h1) (fun h1 => .inr (Nat.le_trans h.chg.size h1)), h.chg.trans k.chg (fun i hi hs => hs.elim .inl (fun h1 => (h.fr i h1).elim .inr (fun h2 => absurd hi (by omega))))⟩
set_option maxHeartbeats 8000000 in
set_option maxRecDepth 100000 in
theorem tins_form {w0 w : World} {F : Nat → Prop} {g : Nat} {bv : Value} {bs : List Int} {t : PT} {L : List S34} (hT : TI w0 w F g bv bs t L) (xs : List S34) (A : Option Addr) (c : Nat) (hr : RdX w A xs) (hl : xs.length ≤ 17592186044415) (hL : L.length ≤ 8192)
    (hbad : (imays t.ser xs && decide ((L.length : Int) + xs.length ≤ 8192)) = false) :
    Calls Try.prog 34 #[.pointer (some ⟨g, 0, none⟩), .slice A xs.length c] w fun e w' => e = .returned (.int .i64 1900) ∧ Below w.heap.size w w' := by
  have HT := Lib.hid hT
  have HR := Lib.hid hr
  have HBD := Lib.hid hbad
  clear hT hr hbad
  go_enter Try.func34, Try.ntmps34
  go_wp2_with fail
  refine (tmay_any t L xs A c HT.out.hg HT.out.tr HT.out.ok hL HR.out hl).mono ?_
  rintro e w1 ⟨rfl, hb⟩
  have HB1 := Lib.hid hb
  rw [HBD.out]
  clear hb
  go_wp2_with fail
  go_ret
  exact ⟨rfl, HB1.out⟩
set_option maxHeartbeats 8000000 in
set_option maxRecDepth 100000 in
theorem tins_twice {w0 w : World} {F : Nat → Prop} {g : Nat} {bv : Value} {bs : List Int} {t : PT} {L : List S34} (hT : TI w0 w F g bv bs t L) (xs : List S34) (A : Option Addr) (c : Nat) (hr : RdX w A xs) (hl : xs.length ≤ 17592186044415) (hL : L.length ≤ 8192) (h1 : One1 L)
    (hmay : (imays t.ser xs && decide ((L.length : Int) + xs.length ≤ 8192)) = true) (htw : twi L [] xs = true) :
    Calls Try.prog 34 #[.pointer (some ⟨g, 0, none⟩), .slice A xs.length c] w fun e w' => e = .returned (.int .i64 1901) ∧ Below w.heap.size w w' := by
  have HT := Lib.hid hT
  have HR := Lib.hid hr
  have HMY := Lib.hid hmay
  have HTW := Lib.hid htw
  have h12 := (Bool.and_eq_true_iff.1 hmay)
  have hle : xs.length ≤ 8192 := by have := of_decide_eq_true h12.2; omega
  obtain ⟨s, hs⟩ := imays_all hT.ok h1 h12.1
  have HM := Lib.hid (fun x (hx : x ∈ xs) => (hs x (List.mem_append_right _ hx)).1)
  clear hT hr hmay h1 hs h12 htw
  go_enter Try.func34, Try.ntmps34
  go_wp2_with fail
  refine (tmay_any t L xs A c HT.out.hg HT.out.tr HT.out.ok hL HR.out hl).mono ?_
  rintro e w1 ⟨rfl, hb⟩
  have HB1 := Lib.hid hb
  rw [HMY.out]
  clear hb
  go_wp2_with fail
  refine (twice_any t L xs A c (blk_below HT.out.hg HB1.out) (HT.out.tr.below HB1.out) HT.out.ok HT.out.srt (HR.out.below HB1.out) hle HM.out).mono ?_
  rintro e w2 ⟨rfl, hb⟩
  rw [HTW.out]
  have HB2 := Lib.hid (HB1.out.trans (hb.mono HB1.out.size))
  clear hb
  go_wp2_with fail
  go_ret
  exact ⟨rfl, HB2.out⟩
end Go.Proofs.Ytfgabafbcephaaa.My

namespace Go.Proofs.Ytfgabafbcephaaa.My
open Go.RowKit Pa Go.Proofs.YtfgabafbcephaaaW.PrintWords
set_option linter.unusedSimpArgs false
set_option maxHeartbeats 16000000 in
set_option maxRecDepth 100000 in
theorem tins_self {w : World} {g : Nat} {bv : Value} {bs : List Int} {t : PT} {L : List S34} (hT : TI w w (fun i => i ∈ t.blks ∨ i ∈ t.hbs) g bv bs t L) (xs : List S34) (A : Option Addr) (c : Nat) (hr : RdX w A xs) (hl : xs.length ≤ 17592186044415) (hL : L.length ≤ 8192) (h1 : One1 L) (hbm : bmay bs = true)
    (hmay : (imays t.ser xs && decide ((L.length : Int) + xs.length ≤ 8192)) = true) (htw : twi L [] xs = false) (hn : ∀ b o, A = some ⟨b, o, none⟩ → ¬ (b = g ∨ b ∈ t.blks ∨ b ∈ t.hbs)) :
    Calls Try.prog 34 #[.pointer (some ⟨g, 0, none⟩), .slice A xs.length c] w fun e w' => e = .returned (.int .i64 0) ∧ ∃ u, TI w w' (fun i => i ∈ t.blks ∨ i ∈ t.hbs) g bv bs u (insAll L xs) := by
  have HT := Lib.hid hT
  have HR := Lib.hid hr
  have HMY := Lib.hid hmay
  have HTW := Lib.hid htw
  have h12 := (Bool.and_eq_true_iff.1 hmay)
  have hle : L.length + xs.length ≤ 8192 := by have := of_decide_eq_true h12.2; omega
  have HLE := Lib.hid hle
  have hall := imays_all hT.ok h1 h12.1
  have HALL := Lib.hid hall
  obtain ⟨s, hs⟩ := hall
  have HM := Lib.hid (fun x (hx : x ∈ xs) => (hs x (List.mem_append_right _ hx)).1)
  have HS := Lib.hid hs
  have HN := Lib.hid hn
  have HBM := Lib.hid hbm
  clear hT hr hmay h1 hs h12 htw hn hbm
  go_enter Try.func34, Try.ntmps34
  go_wp2_with fail
  refine (tmay_any t L xs A c HT.out.hg HT.out.tr HT.out.ok hL HR.out hl).mono ?_
  rintro e w1 ⟨rfl, hb⟩
  have HB1 := Lib.hid hb
  rw [HMY.out]
  clear hb
  go_wp2_with fail
  refine (twice_any t L xs A c (blk_below HT.out.hg HB1.out) (HT.out.tr.below HB1.out) HT.out.ok HT.out.srt (HR.out.below HB1.out) (by omega) HM.out).mono ?_
  rintro e w2 ⟨rfl, hb⟩
  rw [HTW.out]
  have HB2 := Lib.hid (HB1.out.trans (hb.mono HB1.out.size))
  clear hb
  go_wp2_with fail
  clear hle
  go_loopw [25] (fun i wr => ∃ (k : Nat) (u : PT), i = .int .i64 k ∧ k ≤ xs.length ∧ TI w wr (fun i => i ∈ t.blks ∨ i ∈ t.hbs) g bv bs u (insAll L (xs.take k))) (fun i _ => xs.length - (intOf i).toNat)
  case atStart => exact ⟨0, t, rfl, by omega, HT.out.below HB2.out⟩
  case round =>
    obtain ⟨k, u, rfl, hk, hti⟩ := hrel
    have HI := Lib.hid hti
    clear hti
    by_cases hlt : k < xs.length
    · have hnx := twi_next HTW.out hlt
      have hrx := HR.out.keep HI.out.chg HN.out
      obtain ⟨b, o, hA, hbs, hcells⟩ := hrx (by omega)
      subst hA
      obtain ⟨c0, c1, c2, c3⟩ := hcells k hlt
      unfold atX at c0 c1 c2 c3
      have HTK := Lib.hid (show insAll L (xs.take (k + 1)) = ins (xs.getD k z34) (insAll L (xs.take k)) from by
        rw [← insAll_snoc, List.take_add_one, List.getElem?_eq_getElem hlt, List.getD_eq_getElem?_getD, List.getElem?_eq_getElem hlt]
        rfl)
      have hxm : xs.getD k z34 ∈ xs := by rw [List.getD_eq_getElem?_getD, List.getElem?_eq_getElem hlt]; exact List.getElem_mem hlt
      have hgd : Gd bs s (its bs (ins (xs.getD k z34) (insAll L (xs.take k)))) := gd_of HBM.out (fun y hy => by
        rcases ins_mem.1 hy with rfl | hy
        · exact HS.out _ (List.mem_append_right _ hxm)
        · rcases insAll_mem.1 hy with hy | hy
          · exact HS.out _ (List.mem_append_left _ hy)
          · exact HS.out _ (List.mem_append_right _ (List.mem_of_mem_take hy))) (by
        rw [ins_len, insAll_len, List.length_take]
        have := HLE.out
        omega)
      have hgm : Gd bs s (its bs (insAll L (xs.take k))) := gd_of HBM.out (fun y hy => by
        rcases insAll_mem.1 hy with hy | hy
        · exact HS.out _ (List.mem_append_left _ hy)
        · exact HS.out _ (List.mem_append_right _ (List.mem_of_mem_take hy))) (by
        rw [insAll_len, List.length_take]
        have := HLE.out
        omega)
      have HGD := Lib.hid (And.intro hgd hgm)
      have HNX := Lib.hid hnx
      have HXM := Lib.hid (HM.out _ hxm)
      clear hgd hgm hnx hxm hrx hcells
      generalize xs.getD k z34 = x at *
      generalize insAll L (xs.take k) = M at *
      obtain ⟨A0, d0, rfl, hd0, hrd0⟩ := HI.out.bo.reads
      have HD := Lib.hid (And.intro hd0 hrd0)
      have hal : Below wr.heap.size wr (wr.alloc (itO x)) := (Below.refl wr.heap.size wr).alloc (Nat.le_refl _) _
      have hv : (wr.alloc (itO x)).heap[wr.heap.size]? = some (itO x) := heap_alloc_new wr _
      obtain ⟨a0, a1, a2, a3, al⟩ := itO_facts hv
      have hI2 := HI.out.below hal
      obtain ⟨g0, g1, gl⟩ := tO_facts hI2.hg
      have HV := Lib.hid hv
      have HI1 := Lib.hid hI2
      have HAL := Lib.hid hal
      clear hal hv hI2 hd0 hrd0
      unfold itO at a0 a1 a2 a3 al g0 g1 gl
      go_wp2_with fail
      show Code.wp _ _ _ _ (wr.alloc (itO x))
      have HXB := Lib.hid (Nat.le_trans HI.out.chg.size (Nat.le_refl wr.heap.size))
      have HRD := Lib.hid (RdI.below HD.out.2 HAL.out)
      clear HI HAL c0 c1 c2 c3 a0 a1 a2 a3 al g0 g1 gl
      generalize wr.heap.size = xb at HV HXB ⊢
      generalize wr.alloc (itO x) = w3 at *
      obtain ⟨a0, a1, a2, a3, al⟩ := itO_facts HV.out
      obtain ⟨g0, g1, gl⟩ := tO_facts HI1.out.hg
      refine Txt.wp_region_mix (by kernel_rfl) (by kernel_rfl) (fun HB => ?_)
      repeat (first
        | (refine Txt.mix_p (by rfl) rfl rfl (fun K hK => ?_); go_big_quiet_op; refine hK _ ?_; clear hK K)
        | (refine Txt.mix_re (by rfl) (by decide +kernel) (by rfl) (by rfl) (by go_simp) HB (fun K hK => ?_); go_big_quiet_op; refine hK _ ?_; clear hK K)
        | (refine Txt.mix_rl (by rfl) (by decide +kernel) (by rfl) (by rfl) (by go_simp) HB (fun K hK => ?_); go_big_quiet_op; refine hK _ ?_; clear hK K)
        | (refine Txt.mix_pass (by rfl) (by rfl) ?_; simp only [List.set_cons_succ, List.set_cons_zero]))
      refine Txt.mix_c (by rfl) (by decide +kernel) HB ?_
      intro w4 hw4 K hK
      replace HB := HB.trans hw4
      clear hw4
      go_wp2_with fail
      refine (one_any x bs A0 d0 _ (RdI.below HRD.out HB.undrew) HD.out.1).mono ?_
      rintro e w5 ⟨v, rfl, how, hb⟩
      refine hK _ _ ⟨hb, ?_⟩
      obtain ⟨p, hpe⟩ : ∃ p, p = one x bs := ⟨_, rfl⟩
      rw [show oneRes x bs = (p, 0) from by unfold oneRes; rw [HXM.out, HBM.out, hpe]; rfl] at how ⊢
      have HON := Lib.hid hpe
      have HO := Lib.hid (show Own w5 0 v p.f6 from own_zero how)
      have HOB := Lib.hid (fun k (hk : v.ownBlock = some k) => Nat.le_trans HB.undrew.size (own_base how k hk))
      obtain ⟨A2, c2, rfl, _, _⟩ := how.reads
      replace HB := HB.trans hb
      clear hK K hb how hpe
      simp only [acV]
      repeat (first
        | (refine Txt.mix_p (by rfl) rfl rfl (fun K hK => ?_); go_big_quiet_op; refine hK _ ?_; clear hK K)
        | (refine Txt.mix_re (by rfl) (by decide +kernel) (by rfl) (by rfl) (by go_simp) HB (fun K hK => ?_); go_big_quiet_op; refine hK _ ?_; clear hK K)
        | (refine Txt.mix_rl (by rfl) (by decide +kernel) (by rfl) (by rfl) (by go_simp) HB (fun K hK => ?_); go_big_quiet_op; refine hK _ ?_; clear hK K)
        | (refine Txt.mix_pass (by rfl) (by rfl) ?_; simp only [List.set_cons_succ, List.set_cons_zero]))
      refine Txt.mix_m (fun g => .pointer (some ⟨g, 0, none⟩)) (acO z36 (.slice none 0 0)) (by rfl) (by decide +kernel) (fun w1 => by unfold acO; go_simp; rfl) HB ?_
      intro rb w7 hb7 hg7 ho7
      replace HB := HB.trans hb7
      have HRB := Lib.hid (show w3.heap.size ≤ rb from hg7)
      replace HO := Lib.hid (Own.below HO.out hb7)
      clear hb7 hg7
      simp only [Act.put, List.setIfInBounds_toArray, List.set_cons_succ, List.set_cons_zero]
      repeat (first
        | (refine Txt.mix_p (by rfl) rfl rfl (fun K hK => ?_); go_big_quiet_op; refine hK _ ?_; clear hK K)
        | (refine Txt.mix_re (by rfl) (by decide +kernel) (by rfl) (by rfl) (by go_simp) HB (fun K hK => ?_); go_big_quiet_op; refine hK _ ?_; clear hK K)
        | (refine Txt.mix_rl (by rfl) (by decide +kernel) (by rfl) (by rfl) (by go_simp) HB (fun K hK => ?_); go_big_quiet_op; refine hK _ ?_; clear hK K)
        | (refine Txt.mix_pass (by rfl) (by rfl) ?_; simp only [List.set_cons_succ, List.set_cons_zero]))
      refine Txt.mix_a (by rfl) (by decide +kernel) (fun K hK => ?_)
      obtain ⟨z0, z1, z2, z3, z4, z5, z6, z7, z8, z9, z10, z11, z12, zl⟩ := acO_facts ho7
      have hf := fun j => blk_free ho7 j
      go_wp2_with fail
      clear z0 z1 z2 z3 z4 z5 z6 z7 z8 z9 z10 z11 z12 zl hf
      show Txt.wpMix _ _ _ _ _ _ _ (putA w7 rb p (.slice A2 p.f6.length c2))
      have hch := putA_chg w7 rb p (.slice A2 p.f6.length c2)
      have HP := Lib.hid (putA_blk ho7 (a := p) (v := .slice A2 p.f6.length c2))
      have HB8 := Lib.hid (show Below w3.heap.size w3 (putA w7 rb p (.slice A2 p.f6.length c2)) from Chg.base HB.undrew hch HB.undrew.size (fun i hi => by rw [show i = rb from hi]; exact HRB.out))
      replace HO := Lib.hid (HO.out.keep hch (fun k hk e => row_noq HO.out ho7 (by decide) (by rw [hk, show k = rb from e])))
      clear HB hch ho7
      generalize putA w7 rb p (.slice A2 p.f6.length c2) = w8 at *
      repeat (first
        | (refine Txt.mix_p (by rfl) rfl rfl (fun K hK => ?_); go_big_quiet_op; refine hK _ ?_; clear hK K)
        | (refine Txt.mix_re (by rfl) (by decide +kernel) (by rfl) (by rfl) (by go_simp) HB (fun K hK => ?_); go_big_quiet_op; refine hK _ ?_; clear hK K)
        | (refine Txt.mix_rl (by rfl) (by decide +kernel) (by rfl) (by rfl) (by go_simp) HB (fun K hK => ?_); go_big_quiet_op; refine hK _ ?_; clear hK K)
        | (refine Txt.mix_pass (by rfl) (by rfl) ?_; simp only [List.set_cons_succ, List.set_cons_zero]))
      refine Txt.mix_nil ?_
      have HI8 := Lib.hid (HI1.out.below HB8.out)
      have HV8 := Lib.hid (blk_below HV.out HB8.out)
      have HSW := Lib.hid HI1.out.chg.size
      clear HI1 HV a0 a1 a2 a3 al g0 g1 gl
      obtain ⟨g0, g1, gl⟩ := tO_facts HI8.out.hg
      go_wp2_with fail
      refine (split_any (tells_insert xb x) u M (ahead x M) (behind x M) w8 HI8.out.hg HI8.out.bo HV8.out HI8.out.tr HI8.out.nd HI8.out.ok HGD.out.2 (ins_cut HI8.out.srt) (fun y hy => decide_eq_true (ahead_ok hy).2) (fun y hy => decide_eq_false (behind_ok hy).2)).mono ?_
      rintro e w9 ⟨t1, t2, rfl, hp, k1, k2⟩
      have hxO : ∀ cs, itO x ≠ .cells cs 108 (0, 0) := (tells_insert 0 x).far
      have hg9 := far_obj HI8.out.hg (tO_far _ _) HI8.out.tr hp.chg (fun i hi => hi)
      have hv9 := far_obj HV8.out hxO HI8.out.tr hp.chg (fun i hi => hi)
      have hp9 := far_obj HP.out (fun cs e => by unfold acO at e; injection e with _ e; exact absurd e (by decide)) HI8.out.tr hp.chg (fun i hi => hi)
      have hbo9 := HI8.out.tr.hist HI8.out.bo hp.chg (fun i hi => hi)
      have ho9 := HI8.out.tr.hist HO.out hp.chg (fun i hi => hi)
      have G9 := Lib.hid (And.intro hg9 hbo9)
      have V9 := Lib.hid hv9
      have P9 := Lib.hid hp9
      have O9 := Lib.hid ho9
      have SP := Lib.hid hp
      have KK := Lib.hid (And.intro k1 k2)
      obtain ⟨B1, hB1⟩ := t1.ptr_form
      obtain ⟨B2, hB2⟩ := t2.ptr_form
      have HBB := Lib.hid (And.intro hB1 hB2)
      rw [hB1, hB2]
      clear hp k1 k2 hg9 hv9 hp9 hbo9 ho9 hB1 hB2 g0 g1 gl hxO HO HP HV8
      go_wp2_with fail
      obtain ⟨a0, a1, a2, a3, al⟩ := itO_facts V9.out
      obtain ⟨z0, z1, z2, z3, z4, z5, z6, z7, z8, z9, z10, z11, z12, zl⟩ := acO_facts P9.out
      obtain ⟨g0, g1, gl⟩ := tO_facts G9.out.1
      refine Txt3.wp_region_mix (V := [(10, .a), (11, .a), (13, .a)]) (S := fun _ => False) (by kernel_rfl) (by kernel_rfl) (fun HB => ?_)
      repeat (first
        | (refine Txt3.mix_p (by rfl) rfl (by decide +kernel) (fun K hK => ?_); go_big_quiet_op; refine hK _ ?_; clear hK K)
        | (refine Txt3.mix_re (by rfl) (by decide +kernel) (by rfl) (by rfl) (by go_simp) (by first | exact HS1.out | exact HS2.out | exact id) HB (fun K hK => ?_); go_big_quiet_op; refine hK _ ?_; clear hK K)
        | (refine Txt3.mix_r (by rfl) (by decide) (by decide +kernel) (fun K hK => ?_); go_big_quiet_op; refine hK _ ?_; clear hK K)
        | (refine Txt3.mix_pass (by rfl) (by rfl) ?_; simp only [List.set_cons_succ, List.set_cons_zero]))
      refine Txt3.mix_c (by rfl) (by decide +kernel) HB ?_
      intro w10 hw10 K hK
      have hb10 : Below w9.heap.size w9 w10 := Txt.Bw.undrew hw10
      replace HB := HB.then_ hw10
      clear hw10
      go_wp2_with fail
      refine (lot_any (blk_below V9.out hb10)).mono ?_
      rintro e w11 ⟨q, rfl, q0, q1, hb⟩
      refine hK _ _ ⟨hb, ?_⟩
      have HB11 := Lib.hid (hb10.trans (hb.mono hb10.size))
      have HQ := Lib.hid (And.intro q0 q1)
      replace HB := HB.then_ hb
      clear hK K hb hb10 q0 q1
      repeat (first
        | (refine Txt3.mix_p (by rfl) rfl (by decide +kernel) (fun K hK => ?_); go_big_quiet_op; refine hK _ ?_; clear hK K)
        | (refine Txt3.mix_re (by rfl) (by decide +kernel) (by rfl) (by rfl) (by go_simp) (by first | exact HS1.out | exact HS2.out | exact id) HB (fun K hK => ?_); go_big_quiet_op; refine hK _ ?_; clear hK K)
        | (refine Txt3.mix_r (by rfl) (by decide) (by decide +kernel) (fun K hK => ?_); go_big_quiet_op; refine hK _ ?_; clear hK K)
        | (refine Txt3.mix_pass (by rfl) (by rfl) ?_; simp only [List.set_cons_succ, List.set_cons_zero]))
      refine Txt3.mix_m (fun g => .pointer (some ⟨g, 0, none⟩)) (nO x p (.slice A2 p.f6.length c2) z36 (.slice none 0 0) 0 q (.pointer none) (.pointer none)) (by rfl) (by decide +kernel) (fun w1 => by unfold nO z36 z34; go_simp) HB ?_
      intro pb w12 hb12 hg12 ho12
      have HB12 := Lib.hid (HB11.out.trans (hb12.mono HB11.out.size))
      have HPB := Lib.hid (show w9.heap.size ≤ pb from hg12)
      have N12 := Lib.hid (show TrAt w12 (.node pb x p (.slice A2 p.f6.length c2) z36 (.slice none 0 0) 0 q .nil .nil) from ⟨ho12, Own.below O9.out HB12.out, Own.nil _ _, trivial, trivial⟩)
      clear HB hb12 hg12 ho12 HB11
      simp only [Act.put, List.setIfInBounds_toArray, List.set_cons_succ, List.set_cons_zero]
      repeat (first
        | (refine Txt3.mix_p (by rfl) rfl (by decide +kernel) (fun K hK => ?_); go_big_quiet_op; refine hK _ ?_; clear hK K)
        | (refine Txt3.mix_re (by rfl) (by decide +kernel) (by rfl) (by rfl) (by go_simp) (by first | exact HS1.out | exact HS2.out | exact id) HB (fun K hK => ?_); go_big_quiet_op; refine hK _ ?_; clear hK K)
        | (refine Txt3.mix_r (by rfl) (by decide) (by decide +kernel) (fun K hK => ?_); go_big_quiet_op; refine hK _ ?_; clear hK K)
        | (refine Txt3.mix_pass (by rfl) (by rfl) ?_; simp only [List.set_cons_succ, List.set_cons_zero]))
      refine Txt3.mix_a (by rfl) (by decide +kernel) (fun K hK => ?_)
      go_wp2_with fail
      have hren := renew_any (blk_below G9.out.1 HB12.out) (Own.below G9.out.2 HB12.out) N12.out (by simp [PT.blks]) (by simp [PT.blks]) (by simp [PT.size]) (by simp [PT.size])
      refine hren.mono ?_
      clear hren
      rintro e w13 ⟨av1, rfl, ht13, hav1, hc13⟩
      have hkn : TOk bs (.node pb x p (.slice A2 p.f6.length c2) (allN bs p .nil .nil) av1 (PT.nil.size + 1 + PT.nil.size) q .nil .nil) [x] := by
        have hgx : Gd bs s (its bs ([] ++ x :: [])) := by
          have := HGD.out.1
          unfold ins at this
          exact gd_left (L := [x]) (M := behind x M) (gd_right (L := ahead x M) this)
        refine ⟨[], [], rfl, rfl, rfl, HON.out, ?_, by simp [PT.size], HQ.out.1, HQ.out.2⟩
        rw [HON.out]
        exact allN_ok (l := .nil) (r := .nil) rfl rfl hgx
      have HSZ := Lib.hid (And.intro (show w9.heap.size ≤ w12.heap.size from HB12.out.size) hc13.size)
      have hl1 := SP.out.a1.lt
      have hl2 := SP.out.a2.lt
      have hgl := blk_lt G9.out.1
      have hpb := HPB.out
      have hg13 := hc13.obj (blk_below G9.out.1 HB12.out) (fun e => by have e : g = pb := e; omega)
      have hbo13 := (Own.below G9.out.2 HB12.out).keep hc13 (fun k hk e => by have e : k = pb := e; have := own_lt G9.out.2 k hk; omega)
      have ht1 := (SP.out.a1.below HB12.out).keep hc13 (fun i hi e => by have e : i = pb := e; have := hl1.1 i hi; omega) (fun i hi e => by have e : i = pb := e; have := hl1.2 i hi; omega)
      have ht2 := (SP.out.a2.below HB12.out).keep hc13 (fun i hi e => by have e : i = pb := e; have := hl2.1 i hi; omega) (fun i hi e => by have e : i = pb := e; have := hl2.2 i hi; omega)
      have hn12 : (t1.blks ++ t2.blks).Nodup := SP.out.perm.nodup_iff.2 HI8.out.nd
      have hnp1 : pb ∉ t1.blks := fun hi => by have := hl1.1 pb hi; omega
      have hnp2 : pb ∉ t2.blks := fun hi => by have := hl2.1 pb hi; omega
      have HND := Lib.hid (And.intro hn12 (And.intro hnp1 hnp2))
      have G13 := Lib.hid (And.intro hg13 hbo13)
      have T13 := Lib.hid (And.intro ht1 (And.intro ht2 ht13))
      have HKN := Lib.hid hkn
      have HAV := Lib.hid hav1
      have HC13 := Lib.hid hc13
      clear hl1 hl2 hgl hpb hg13 hbo13 ht1 ht2 hn12 hnp1 hnp2 ht13 hkn hav1 hc13 N12
      obtain ⟨nd, hnd⟩ : ∃ nd : PT, nd = .node pb x p (.slice A2 p.f6.length c2) (allN bs p .nil .nil) av1 (PT.nil.size + 1 + PT.nil.size) q .nil .nil := ⟨_, rfl⟩
      have HNP := Lib.hid (show nd.ptr = .pointer (some ⟨pb, 0, none⟩) ∧ nd.blks = [pb] ∧ nd.hbs = (Value.slice A2 p.f6.length c2).ownBlock.toList ++ av1.ownBlock.toList from by subst hnd; exact ⟨rfl, rfl, by simp [PT.hbs]⟩)
      rw [← hnd] at T13 HKN
      simp only
      refine hK _ _ ?_
      clear hK K hnd
      repeat (first
        | (refine Txt3.mix_p (by rfl) rfl (by decide +kernel) (fun K hK => ?_); go_big_quiet_op; refine hK _ ?_; clear hK K)
        | (refine Txt3.mix_re (by rfl) (by decide +kernel) (by rfl) (by rfl) (by go_simp) (by first | exact HS1.out | exact HS2.out | exact id) HB (fun K hK => ?_); go_big_quiet_op; refine hK _ ?_; clear hK K)
        | (refine Txt3.mix_r (by rfl) (by decide) (by decide +kernel) (fun K hK => ?_); go_big_quiet_op; refine hK _ ?_; clear hK K)
        | (refine Txt3.mix_pass (by rfl) (by rfl) ?_; simp only [List.set_cons_succ, List.set_cons_zero]))
      refine Txt3.mix_a (by rfl) (by decide +kernel) (fun K hK => ?_)
      go_wp2_with fail
      have hm := merge_any (g := g) (bv := .slice A0 bs.length d0) (rv := u.ptr) (bs := bs) (s := s) (t1.cnt + nd.cnt) t1 nd (ahead x M) [x] w13 (Nat.le_refl _) G13.out.1 G13.out.2 T13.out.1 T13.out.2.2 (by
        rw [HNP.out.2.1]
        refine List.nodup_append.2 ⟨(List.nodup_append.1 HND.out.1).1, by simp, fun a ha b hb e => ?_⟩
        rw [List.mem_singleton.1 hb] at e
        exact HND.out.2.1 (e ▸ ha)) KK.out.1 HKN.out (by
        have := HGD.out.1
        unfold ins at this
        exact gd_left (M := behind x M) (by rw [List.append_assoc]; exact this))
      rw [HBB.out.1, HNP.out.1] at hm
      refine hm.mono ?_
      clear hm
      rintro e w14 ⟨t3, rfl, hmg, k3⟩
      have hpp : AllParts w13 (fun k => k ∈ t1.blks ∨ k ∈ nd.blks) := fun i hi => hi.elim (fun h => T13.out.1.kind.1 i h) (fun h => T13.out.2.2.kind.1 i h)
      have hg14 := obj_parts G13.out.1 (tO_far _ _) hmg.chg hpp
      have hbo14 := G13.out.2.parts hmg.chg hpp
      have ht14 := T13.out.2.1.parts hmg.chg hpp (fun i hi hs => hs.elim (fun h => (List.nodup_append.1 HND.out.1).2.2 i h i hi rfl) (fun h => by
        rw [HNP.out.2.1, List.mem_singleton] at h
        exact HND.out.2.2 (h ▸ hi)))
      have hnd14 : (t3.blks ++ t2.blks).Nodup := by
        have h1 : (t3.blks ++ t2.blks).Perm ((t1.blks ++ [pb]) ++ t2.blks) := (HNP.out.2.1 ▸ hmg.perm).append_right _
        refine h1.nodup_iff.2 ?_
        rw [List.append_assoc]
        refine (List.perm_middle (a := pb) (l₁ := t1.blks) (l₂ := t2.blks)).nodup_iff.2 (List.nodup_cons.2 ⟨fun h => ?_, HND.out.1⟩)
        exact (List.mem_append.1 h).elim HND.out.2.1 HND.out.2.2
      have G14 := Lib.hid (And.intro hg14 hbo14)
      have T14 := Lib.hid (And.intro ht14 hnd14)
      have MG := Lib.hid hmg
      have K3 := Lib.hid k3
      obtain ⟨B3, hB3⟩ := t3.ptr_form
      have HB3 := Lib.hid hB3
      rw [hB3]
      clear hpp hg14 hbo14 ht14 hnd14 hmg k3 hB3
      simp only
      refine hK _ _ ?_
      clear hK K
      repeat (first
        | (refine Txt3.mix_p (by rfl) rfl (by decide +kernel) (fun K hK => ?_); go_big_quiet_op; refine hK _ ?_; clear hK K)
        | (refine Txt3.mix_re (by rfl) (by decide +kernel) (by rfl) (by rfl) (by go_simp) (by first | exact HS1.out | exact HS2.out | exact id) HB (fun K hK => ?_); go_big_quiet_op; refine hK _ ?_; clear hK K)
        | (refine Txt3.mix_r (by rfl) (by decide) (by decide +kernel) (fun K hK => ?_); go_big_quiet_op; refine hK _ ?_; clear hK K)
        | (refine Txt3.mix_pass (by rfl) (by rfl) ?_; simp only [List.set_cons_succ, List.set_cons_zero]))
      refine Txt3.mix_a (by rfl) (by decide +kernel) (fun K hK => ?_)
      go_wp2_with fail
      have hm := merge_any (g := g) (bv := .slice A0 bs.length d0) (rv := u.ptr) (bs := bs) (s := s) (t3.cnt + t2.cnt) t3 t2 (ahead x M ++ [x]) (behind x M) w14 (Nat.le_refl _) G14.out.1 G14.out.2 MG.out.a T14.out.1 T14.out.2 K3.out KK.out.2 (by
        have := HGD.out.1
        unfold ins at this
        rw [List.append_assoc]
        exact this)
      rw [HBB.out.2, HB3.out] at hm
      refine hm.mono ?_
      clear hm
      rintro e w15 ⟨t4, rfl, hmg, k4⟩
      have hpp : AllParts w14 (fun k => k ∈ t3.blks ∨ k ∈ t2.blks) := fun i hi => hi.elim (fun h => MG.out.a.kind.1 i h) (fun h => T14.out.1.kind.1 i h)
      have hg15 := obj_parts G14.out.1 (tO_far _ _) hmg.chg hpp
      have hbo15 := G14.out.2.parts hmg.chg hpp
      have G15 := Lib.hid (And.intro hg15 hbo15)
      have MH := Lib.hid hmg
      have K4 := Lib.hid k4
      obtain ⟨B4, hB4⟩ := t4.ptr_form
      have HB4 := Lib.hid hB4
      rw [hB4]
      clear hpp hg15 hbo15 hmg k4 hB4
      simp only
      refine hK _ _ ?_
      clear hK K a0 a1 a2 a3 al z0 z1 z2 z3 z4 z5 z6 z7 z8 z9 z10 z11 z12 zl g0 g1 gl
      repeat (first
        | (refine Txt3.mix_p (by rfl) rfl (by decide +kernel) (fun K hK => ?_); go_big_quiet_op; refine hK _ ?_; clear hK K)
        | (refine Txt3.mix_re (by rfl) (by decide +kernel) (by rfl) (by rfl) (by go_simp) (by first | exact HS1.out | exact HS2.out | exact id) HB (fun K hK => ?_); go_big_quiet_op; refine hK _ ?_; clear hK K)
        | (refine Txt3.mix_r (by rfl) (by decide) (by decide +kernel) (fun K hK => ?_); go_big_quiet_op; refine hK _ ?_; clear hK K)
        | (refine Txt3.mix_pass (by rfl) (by rfl) ?_; simp only [List.set_cons_succ, List.set_cons_zero]))
      refine Txt3.mix_a (by rfl) (by decide +kernel) (fun K hK => ?_)
      obtain ⟨g0, g1, gl⟩ := tO_facts G15.out.1
      have hf := fun j => blk_free G15.out.1 j
      go_wp2_with fail
      clear g0 g1 gl hf
      show Txt3.wpMix _ _ _ _ _ _ _ _ _ (w15.setCell ⟨g, 1, none⟩ (.pointer B4))
      have HC16 := Lib.hid ((Chg.refl (fun k => k = g) w15).setCell (p := ⟨g, 1, none⟩) (.inl rfl) (.pointer B4))
      have HG16 := Lib.hid (show (w15.setCell ⟨g, 1, none⟩ (.pointer B4)).heap[g]? = some (tO (.slice A0 bs.length d0) (.pointer B4)) from by
        have h := blk_set G15.out.1 1 (.pointer B4)
        simp only [List.setIfInBounds_toArray, List.set_cons_zero, List.set_cons_succ] at h
        exact h)
      generalize w15.setCell ⟨g, 1, none⟩ (.pointer B4) = w16 at *
      repeat (first
        | (refine Txt3.mix_p (by rfl) rfl (by decide +kernel) (fun K hK => ?_); go_big_quiet_op; refine hK _ ?_; clear hK K)
        | (refine Txt3.mix_re (by rfl) (by decide +kernel) (by rfl) (by rfl) (by go_simp) (by first | exact HS1.out | exact HS2.out | exact id) HB (fun K hK => ?_); go_big_quiet_op; refine hK _ ?_; clear hK K)
        | (refine Txt3.mix_r (by rfl) (by decide) (by decide +kernel) (fun K hK => ?_); go_big_quiet_op; refine hK _ ?_; clear hK K)
        | (refine Txt3.mix_pass (by rfl) (by rfl) ?_; simp only [List.set_cons_succ, List.set_cons_zero]))
      refine Txt3.mix_nil ?_
      have hti : TI w w16 (fun i => i ∈ t.blks ∨ i ∈ t.hbs) g (.slice A0 bs.length d0) bs t4 (ins x M) := by
        have s0 := HI8.out.chg.size
        have s1 := SP.out.chg.size
        have s2 := HSZ.out.1
        have s3 := HSZ.out.2
        have s4 := MG.out.chg.size
        have s5 := HSW.out
        have s6 := HPB.out
        have hng : g ∉ t4.blks := MH.out.a.none_ G15.out.1 (by decide)
        have hngh : g ∉ t4.hbs := fun hi => by
          obtain ⟨cs, h1⟩ := MH.out.a.kind.2 g hi
          rw [G15.out.1] at h1
          unfold tO at h1
          injection h1 with h1
          injection h1 with _ h1
          exact absurd h1 (by decide)
        have hb3 : ∀ i ∈ t3.blks, i ∈ u.blks ∨ i = pb := fun i hi => by
          rcases List.mem_append.1 (MG.out.perm.mem_iff.1 hi) with h | h
          · exact .inl (SP.out.perm.mem_iff.1 (List.mem_append_left _ h))
          · rw [HNP.out.2.1, List.mem_singleton] at h
            exact .inr h
        have hb4 : ∀ i ∈ t4.blks, i ∈ u.blks ∨ i = pb := fun i hi => by
          rcases List.mem_append.1 (MH.out.perm.mem_iff.1 hi) with h | h
          · exact hb3 i h
          · exact .inl (SP.out.perm.mem_iff.1 (List.mem_append_right _ h))
        have hbh : ∀ i ∈ t4.hbs, i ∈ u.hbs ∨ w.heap.size ≤ i := fun i hi => by
          rcases MH.out.hb i hi with (h | h) | h
          · rcases MG.out.hb i h with (h | h) | h
            · exact (SP.out.hb i (.inl h)).imp id (fun h => by omega)
            · rw [HNP.out.2.2, List.mem_append] at h
              rcases h with h | h
              · have := HOB.out i (by simpa using h)
                exact .inr (by omega)
              · have := HAV.out i (by simpa using h)
                exact .inr (by omega)
            · exact .inr (by omega)
          · exact (SP.out.hb i (.inr h)).imp id (fun h => by omega)
          · exact .inr (by omega)
        have hub : ∀ i, i < w.heap.size → i ∈ u.blks → i = g ∨ i ∈ t.blks ∨ i ∈ t.hbs := fun i hi hu => (HI8.out.fr i (.inl hu)).elim .inr (fun h => absurd hi (by omega))
        refine ⟨by rw [HB4.out]; exact HG16.out, G15.out.2.keep HC16.out (fun k hk e => row_noq G15.out.2 G15.out.1 (by decide) (by rw [hk, show k = g from e])), MH.out.a.keep HC16.out (fun i hi e => hng ((show i = g from e) ▸ hi)) (fun i hi e => hngh ((show i = g from e) ▸ hi)), by
          have := K4.out
          rw [List.append_assoc] at this
          exact this, MH.out.perm.nodup_iff.2 T14.out.2, ins_srt HI8.out.srt HNX.out, fun i hi => ?_, ?_⟩
        · rcases hi with hi | hi
          · rcases hb4 i hi with h | h
            · exact HI8.out.fr i (.inl h)
            · exact .inr (by omega)
          · rcases hbh i hi with h | h
            · exact HI8.out.fr i (.inr h)
            · exact .inr h
        · refine ((((((HI8.out.chg.trans SP.out.chg (fun i hi h => hub i hi h)).below HB12.out).trans HC13.out (fun i hi h => ?_)).trans MG.out.chg (fun i hi h => ?_)).trans MH.out.chg (fun i hi h => ?_)).trans HC16.out (fun i _ h => .inl h))
          · have h : i = pb := h
            omega
          · rcases h with h | h
            · exact hub i hi (SP.out.perm.mem_iff.1 (List.mem_append_left _ h))
            · rw [HNP.out.2.1, List.mem_singleton] at h
              omega
          · rcases h with h | h
            · rcases hb3 i h with h | h
              · exact hub i hi h
              · omega
            · exact hub i hi (SP.out.perm.mem_iff.1 (List.mem_append_right _ h))
      have HTI := Lib.hid hti
      clear hti MG MH K3 K4 HC16 HG16 G15 G14 T14 G13 T13 HC13 HND HNP HAV HKN SP HI8 O9 P9 V9 G9 HB12
      go_wp2_with fail
      exact ⟨⟨k + 1, t4, by go_num, by omega, by rw [HTK.out]; exact HTI.out⟩, by simp [intOf]; omega⟩
    · have ek : k = xs.length := by omega
      have HZ := Lib.hid (show TI w wr (fun i => i ∈ t.blks ∨ i ∈ t.hbs) g bv bs u (insAll L xs) from by
        have := HI.out
        rwa [ek, List.take_length] at this)
      clear HI
      subst ek
      go_wp2_with fail
      go_ret
      exact ⟨rfl, u, HZ.out⟩
end Go.Proofs.Ytfgabafbcephaaa.My

namespace Go.Proofs.Ytfgabafbcephaaa.My
open Go.RowKit Pa Go.Proofs.YtfgabafbcephaaaW.PrintWords
set_option linter.unusedSimpArgs false
theorem info_itm : (Try.prog.info? 34).map (fun i => (i.zero, i.size, i.bytes)) = some (some (.agg #[(.int .i64 0), (.int .i64 0), (.int .i64 0), (.int .i64 0)]), 4, 32) := by kernel_rfl
def OwX (w : World) (base : Nat) (v : Value) (xs : List S34) : Prop := w.ownsRow base 34 4 v xs.length (flatX xs)
theorem OwX.keep {S : Nat → Prop} {w w1 : World} {base : Nat} {v : Value} {xs : List S34} (h : OwX w base v xs) (hc : Chg S w w1) (hn : ∀ k, v.ownBlock = some k → ¬ S k) : OwX w1 base v xs := row_keep h hc hn
theorem OwX.below {w w1 : World} {base : Nat} {v : Value} {xs : List S34} (h : OwX w base v xs) (hb : Below w.heap.size w w1) : OwX w1 base v xs := h.keep (S := fun _ => False) (Chg.of_below hb) (fun _ _ h => h)
structure Lay (w0 w : World) (fb sb : Nat) (v : Value) (xs : List S34) : Prop where
  hf : w.heap[fb]? = some (.cells #[.func (.func 74) #[] #[.pointer (some ⟨fb, 0, none⟩), .pointer (some ⟨sb, 0, none⟩)]] 116)
  hs : w.heap[sb]? = some (.cells #[v] 65)
  ow : OwX w w0.heap.size v xs
  bel : Below w0.heap.size w0 w
  f0 : w0.heap.size ≤ fb
  s0 : w0.heap.size ≤ sb
theorem Lay.below {w0 w w1 : World} {fb sb : Nat} {v : Value} {xs : List S34} (h : Lay w0 w fb sb v xs) (hb : Below w.heap.size w w1) : Lay w0 w1 fb sb v xs :=
  ⟨blk_below h.hf hb, blk_below h.hs hb, h.ow.below hb, h.bel.trans (hb.mono h.bel.size), h.f0, h.s0⟩
set_option maxHeartbeats 16000000 in
set_option maxRecDepth 100000 in
theorem twalk_any {w0 : World} {bs : List Int} {fb sb : Nat} (hcf : ∀ args w, (callFunc 74 args).run Try.prog w = .ok (.enter 74 args) w) : ∀ (t : PT) (S L : List S34) (w : World) (v : Value), TrAt w0 t → TOk bs t L → Lay w0 w fb sb v S → S.length + L.length ≤ 100000 →
    Calls Try.prog 74 #[t.ptr, .pointer (some ⟨fb, 0, none⟩), .pointer (some ⟨sb, 0, none⟩)] w fun e w' => e = .returned (.tuple #[]) ∧ ∃ v', Lay w0 w' fb sb v' (S ++ L) := by
  intro t
  induction t with
  | nil =>
    intro S L w v ht hok hl hn
    have e : L = [] := hok
    subst e
    have HL := Lib.hid hl
    clear ht hok hl hn
    unfold PT.ptr
    go_enter Try.func74, Try.ntmps74
    go_wp2_with fail
    exact bodyPost_end (results_none rfl _ _ _) rfl ⟨rfl, v, by rw [List.append_nil]; exact HL.out⟩
  | node b x o ov a av m q l r ihl ihr =>
    intro S L w v ht hok hl hn
    obtain ⟨L1, L2, rfl, kl, kr, -⟩ := hok
    have HT := Lib.hid ht
    have HL := Lib.hid hl
    have HN := Lib.hid hn
    have HK := Lib.hid (And.intro kl kr)
    have HIL := Lib.hid ihl
    have HIR := Lib.hid ihr
    clear ht hl hn kl kr ihl ihr
    obtain ⟨A1, hA1⟩ := l.ptr_form
    obtain ⟨A2, hA2⟩ := r.ptr_form
    have HA := Lib.hid (And.intro hA1 hA2)
    clear hA1 hA2
    have hb := HL.out.bel.block b (blk_lt HT.out.1) |>.trans HT.out.1
    rw [HA.out.1, HA.out.2] at hb
    obtain ⟨e0, e1, e2, e3, -, -, -, -, -, -, -, -, -, -, -, -, -, -, -, -, -, -, -, -, -, -, -, -, -, -, -, -, e32, e33, el⟩ := nO_facts hb
    have f0 : w.cell? ⟨fb, 0, none⟩ = _ := (blk_cell HL.out.hf 0).trans rfl
    have fl := blk_lt HL.out.hf
    have s0 : w.cell? ⟨sb, 0, none⟩ = some v := (blk_cell HL.out.hs 0).trans rfl
    have sl := blk_lt HL.out.hs
    have HW := Lib.hid hb
    clear hb
    show Calls _ _ #[.pointer (some ⟨b, 0, none⟩), _, _] _ _
    go_enter Try.func74, Try.ntmps74
    go_wp2_with fail
    refine Txt3.wp_region_mix (V := [(5, .a)]) (S := fun _ => False) (by kernel_rfl) (by kernel_rfl) (fun HB => ?_)
    repeat (first
      | (refine Txt3.mix_p (by rfl) rfl (by decide +kernel) (fun K hK => ?_); go_big_quiet_op; refine hK _ ?_; clear hK K)
      | (refine Txt3.mix_re (by rfl) (by decide +kernel) (by rfl) (by rfl) (by go_simp) (by first | exact HS1.out | exact HS2.out | exact id) HB (fun K hK => ?_); go_big_quiet_op; refine hK _ ?_; clear hK K)
      | (refine Txt3.mix_r (by rfl) (by decide) (by decide +kernel) (fun K hK => ?_); go_big_quiet_op; refine hK _ ?_; clear hK K)
      | (refine Txt3.mix_pass (by rfl) (by rfl) ?_; simp only [List.set_cons_succ, List.set_cons_zero]))
    refine Txt3.mix_a (by rfl) (by decide +kernel) (fun K hK => ?_)
    go_wp2_with fail
    have hq := HIL.out S L1 w.drew v HT.out.2.2.2.1 HK.out.1 (HL.out.below (Below.refl _ _).drew) (by
      have := HN.out
      rw [List.length_append] at this
      omega)
    rw [HA.out.1] at hq
    refine hq.mono ?_
    clear hq
    rintro e w1 ⟨rfl, v1, hl⟩
    have L1' := Lib.hid hl
    clear hl HL HW e0 e1 e2 e3 e32 e33 el f0 fl s0 sl
    simp only
    refine hK _ _ ?_
    clear hK K
    repeat (first
      | (refine Txt3.mix_p (by rfl) rfl (by decide +kernel) (fun K hK => ?_); go_big_quiet_op; refine hK _ ?_; clear hK K)
      | (refine Txt3.mix_re (by rfl) (by decide +kernel) (by rfl) (by rfl) (by go_simp) (by first | exact HS1.out | exact HS2.out | exact id) HB (fun K hK => ?_); go_big_quiet_op; refine hK _ ?_; clear hK K)
      | (refine Txt3.mix_r (by rfl) (by decide) (by decide +kernel) (fun K hK => ?_); go_big_quiet_op; refine hK _ ?_; clear hK K)
      | (refine Txt3.mix_pass (by rfl) (by rfl) ?_; simp only [List.set_cons_succ, List.set_cons_zero]))
    refine Txt3.mix_nil ?_
    have hb := L1'.out.bel.block b (blk_lt HT.out.1) |>.trans HT.out.1
    rw [HA.out.1, HA.out.2] at hb
    obtain ⟨e0, e1, e2, e3, -, -, -, -, -, -, -, -, -, -, -, -, -, -, -, -, -, -, -, -, -, -, -, -, -, -, -, -, e32, e33, el⟩ := nO_facts hb
    have f0 : w1.cell? ⟨fb, 0, none⟩ = _ := (blk_cell L1'.out.hf 0).trans rfl
    have fl := blk_lt L1'.out.hf
    have s0 : w1.cell? ⟨sb, 0, none⟩ = some v1 := (blk_cell L1'.out.hs 0).trans rfl
    have sl := blk_lt L1'.out.hs
    have HS1 := Lib.hid (row_noq L1'.out.ow hb (by decide))
    have HS2 := Lib.hid (row_noq L1'.out.ow L1'.out.hs (by decide))
    clear hb
    go_wp2_with fail
    refine Txt2.wp_region_mix (S := fun k => some k = v1.ownBlock) (by kernel_rfl) (by kernel_rfl) (fun HB => ?_)
    repeat (first
      | (refine Txt2.mix_p (by rfl) rfl rfl (fun K hK => ?_); go_big_quiet_op; refine hK _ ?_; clear hK K)
      | (refine Txt2.mix_re (by rfl) (by decide +kernel) (by rfl) (by rfl) (by go_simp) (by first | exact HS1.out | exact HS2.out) HB (fun K hK => ?_); go_big_quiet_op; refine hK _ ?_; clear hK K)
      | (refine Txt2.mix_pass (by rfl) (by rfl) ?_; simp only [List.set_cons_succ, List.set_cons_zero]))
    refine Txt2.mix_m (fun g => .slice (some ⟨g, 0, none⟩) 1 1) (.cells #[.int .i64 x.f0, .int .i64 x.f1, .int .i64 x.f2, .int .i64 x.f3] 34) (by rfl) (by decide +kernel) (fun w1 => by go_simp) HB ?_
    intro pb wb hb2 hg2 ho2
    replace HB := HB.then_ hb2
    have HO2 := Lib.hid ho2
    have LB := Lib.hid (L1'.out.below (Txt.Bw.undrew hb2))
    clear hb2 hg2 ho2
    simp only [Act.put, List.setIfInBounds_toArray, List.set_cons_succ, List.set_cons_zero]
    repeat (first
      | (refine Txt2.mix_p (by rfl) rfl rfl (fun K hK => ?_); go_big_quiet_op; refine hK _ ?_; clear hK K)
      | (refine Txt2.mix_re (by rfl) (by decide +kernel) (by rfl) (by rfl) (by go_simp) (by first | exact HS1.out | exact HS2.out) HB (fun K hK => ?_); go_big_quiet_op; refine hK _ ?_; clear hK K)
      | (refine Txt2.mix_pass (by rfl) (by rfl) ?_; simp only [List.set_cons_succ, List.set_cons_zero]))
    refine Txt2.mix_e (by rfl) (by decide +kernel) HB ?_
    intro wc hwc K hK
    have lc := LB.out.below hwc
    have hvk := fun k hk => own_lt L1'.out.ow k hk
    have hoc := blk_below HO2.out hwc
    have hlen : (S ++ L1).length + 1 ≤ 100000 := by
      have := HN.out
      simp only [List.length_append, List.length_cons] at this ⊢
      omega
    refine wp_append (.tmp 12) (.tmp 17) 65 34 _ 4 32 w0.heap.size rfl Try.underlying65 info_itm rfl (by decide) v1 (S ++ L1).length 1 (flatX (S ++ L1)) (cellsX x) pb 1 rfl rfl lc.ow lc.bel.size rfl ?_ ?_ (by omega) (by omega) ?_
    · intro j u hu
      rw [blk_cell hoc]
      exact (List.getElem?_toArray).trans hu
    · intro u hu
      simp only [cellsX, List.mem_cons, List.not_mem_nil, or_false] at hu
      rcases hu with rfl | rfl | rfl | rfl <;> rfl
    intro v2 wd hown hgr hat
    have hch : Chg (fun k => some k = v1.ownBlock) wc wd := (Chg.refl _ wc).grown hgr (fun k hk => .inl hk.symm)
    have hkx : Txt2.Kx (fun k => some k = v1.ownBlock) w1.drew wc wd := ⟨hch.os, hch.tape, hch.output, hch.size, fun i hi hn => hch.block i hi (fun hs => hn ⟨hs, hvk i hs.symm⟩)⟩
    refine hK _ _ ⟨hkx, ?_⟩
    have hfd := hch.obj lc.hf (row_noq lc.ow lc.hf (by decide))
    have hsd := hch.obj lc.hs (row_noq lc.ow lc.hs (by decide))
    have hbd : Below w0.heap.size w0 wd := Chg.base lc.bel hch lc.bel.size (fun i hi => own_base lc.ow i hi.symm)
    have hod : OwX wd w0.heap.size v2 ((S ++ L1) ++ [x]) := by
      unfold OwX
      rw [flatX_append, flatX_one, List.length_append]
      exact hown
    have WD := Lib.hid (And.intro hfd (And.intro hsd (And.intro hod hbd)))
    have HFS := Lib.hid (And.intro lc.f0 lc.s0)
    obtain ⟨A9, c9, hv9, _⟩ := row_form hown
    clear lc hvk hoc hlen hown hgr hat hch hkx hfd hsd hbd hod hK K hwc LB HO2 HB L1' HS1 HS2 e0 e1 e2 e3 e32 e33 el f0 fl s0 sl
    obtain ⟨n9, hn9⟩ : ∃ n, n = (S ++ L1).length + 1 := ⟨_, rfl⟩
    rw [← hn9] at hv9
    clear hn9
    subst hv9
    obtain ⟨s0, sl⟩ : wd.cell? ⟨sb, 0, none⟩ = some v1 ∧ sb < wd.heap.size := ⟨(blk_cell WD.out.2.1 0).trans rfl, blk_lt WD.out.2.1⟩
    have hfr := fun j => blk_free WD.out.2.1 j
    simp only [Act.put, List.setIfInBounds_toArray, List.set_cons_succ, List.set_cons_zero]
    repeat (first
      | (refine Txt2.mix_p (by rfl) rfl rfl (fun K hK => ?_); go_big_quiet_op; refine hK _ ?_; clear hK K)
      | (refine Txt2.mix_re (by rfl) (by decide +kernel) (by rfl) (by rfl) (by go_simp) (by first | exact HS1.out | exact HS2.out) HB (fun K hK => ?_); go_big_quiet_op; refine hK _ ?_; clear hK K)
      | (refine Txt2.mix_pass (by rfl) (by rfl) ?_; simp only [List.set_cons_succ, List.set_cons_zero]))
    refine Txt2.mix_a (by rfl) (by decide +kernel) (fun K hK => ?_)
    go_wp2_with fail
    clear s0 sl hfr
    show Txt2.wpMix _ _ _ _ _ _ _ _ (wd.setCell ⟨sb, 0, none⟩ (.slice A9 n9 c9))
    have hcx : Chg (fun k => k = sb) wd (wd.setCell ⟨sb, 0, none⟩ (.slice A9 n9 c9)) := (Chg.refl (fun k => k = sb) wd).setCell (p := ⟨sb, 0, none⟩) (.inl rfl) (.slice A9 n9 c9)
    have hsx := blk_set WD.out.2.1 0 (.slice A9 n9 c9)
    simp only [List.setIfInBounds_toArray, List.set_cons_zero, List.set_cons_succ] at hsx
    have LX := Lib.hid (show Lay w0 (wd.setCell ⟨sb, 0, none⟩ (.slice A9 n9 c9)) fb sb (.slice A9 n9 c9) ((S ++ L1) ++ [x]) from ⟨hcx.obj WD.out.1 (fun e => by
        have h1 := WD.out.1
        rw [show fb = sb from e, WD.out.2.1] at h1
        injection h1 with h1
        injection h1 with _ h1
        exact absurd h1 (by decide)), hsx, WD.out.2.2.1.keep hcx (fun k hk e => row_noq WD.out.2.2.1 WD.out.2.1 (by decide) (by rw [hk, show k = sb from e])), Chg.base WD.out.2.2.2 hcx WD.out.2.2.2.size (fun i hi => by rw [show i = sb from hi]; exact HFS.out.2), HFS.out.1, HFS.out.2⟩)
    clear hcx hsx WD
    generalize wd.setCell ⟨sb, 0, none⟩ (.slice A9 n9 c9) = w4 at *
    repeat (first
      | (refine Txt2.mix_p (by rfl) rfl rfl (fun K hK => ?_); go_big_quiet_op; refine hK _ ?_; clear hK K)
      | (refine Txt2.mix_re (by rfl) (by decide +kernel) (by rfl) (by rfl) (by go_simp) (by first | exact HS1.out | exact HS2.out) HB (fun K hK => ?_); go_big_quiet_op; refine hK _ ?_; clear hK K)
      | (refine Txt2.mix_pass (by rfl) (by rfl) ?_; simp only [List.set_cons_succ, List.set_cons_zero]))
    refine Txt2.mix_nil ?_
    have hb := LX.out.bel.block b (blk_lt HT.out.1) |>.trans HT.out.1
    rw [HA.out.1, HA.out.2] at hb
    obtain ⟨-, -, -, -, -, -, -, -, -, -, -, -, -, -, -, -, -, -, -, -, -, -, -, -, -, -, -, -, -, -, -, -, e32, e33, el⟩ := nO_facts hb
    have f0 : w4.cell? ⟨fb, 0, none⟩ = _ := (blk_cell LX.out.hf 0).trans rfl
    have fl := blk_lt LX.out.hf
    clear hb
    go_wp2_with fail
    refine Txt3.wp_region_mix (V := [(5, .a)]) (S := fun _ => False) (by kernel_rfl) (by kernel_rfl) (fun HB => ?_)
    repeat (first
      | (refine Txt3.mix_p (by rfl) rfl (by decide +kernel) (fun K hK => ?_); go_big_quiet_op; refine hK _ ?_; clear hK K)
      | (refine Txt3.mix_re (by rfl) (by decide +kernel) (by rfl) (by rfl) (by go_simp) (by first | exact HS1.out | exact HS2.out | exact id) HB (fun K hK => ?_); go_big_quiet_op; refine hK _ ?_; clear hK K)
      | (refine Txt3.mix_r (by rfl) (by decide) (by decide +kernel) (fun K hK => ?_); go_big_quiet_op; refine hK _ ?_; clear hK K)
      | (refine Txt3.mix_pass (by rfl) (by rfl) ?_; simp only [List.set_cons_succ, List.set_cons_zero]))
    refine Txt3.mix_a (by rfl) (by decide +kernel) (fun K hK => ?_)
    go_wp2_with fail
    have hq := HIR.out ((S ++ L1) ++ [x]) L2 w4.drew (.slice A9 n9 c9) HT.out.2.2.2.2 HK.out.2 (LX.out.below (Below.refl _ _).drew) (by
      have := HN.out
      simp only [List.length_append, List.length_cons, List.length_nil] at this ⊢
      omega)
    rw [HA.out.2] at hq
    refine hq.mono ?_
    clear hq
    rintro e w5 ⟨rfl, v3, hl⟩
    have LY := Lib.hid hl
    clear hl LX e32 e33 el f0 fl
    simp only
    refine hK _ _ ?_
    clear hK K
    repeat (first
      | (refine Txt3.mix_p (by rfl) rfl (by decide +kernel) (fun K hK => ?_); go_big_quiet_op; refine hK _ ?_; clear hK K)
      | (refine Txt3.mix_re (by rfl) (by decide +kernel) (by rfl) (by rfl) (by go_simp) (by first | exact HS1.out | exact HS2.out | exact id) HB (fun K hK => ?_); go_big_quiet_op; refine hK _ ?_; clear hK K)
      | (refine Txt3.mix_r (by rfl) (by decide) (by decide +kernel) (fun K hK => ?_); go_big_quiet_op; refine hK _ ?_; clear hK K)
      | (refine Txt3.mix_pass (by rfl) (by rfl) ?_; simp only [List.set_cons_succ, List.set_cons_zero]))
    refine Txt3.mix_nil ?_
    go_wp2_with fail
    refine bodyPost_end (results_none rfl _ _ _) rfl ⟨rfl, v3, ?_⟩
    have := LY.out
    simp only [List.append_assoc, List.cons_append, List.nil_append] at this
    exact this
theorem run_store_fn {P : Program} {w : World} {a : Addr} {m : Mode} (fn : Fn) (first captured : Array Value) : (store a (.func fn first captured) m).run P w = stored P w a (.func fn first captured) m := run_store P w a _ m rfl
attribute [local go_sem] run_store_fn
set_option maxHeartbeats 16000000 in
set_option maxRecDepth 100000 in
theorem titems_any {w : World} {g : Nat} {bv : Value} {bs : List Int} (t : PT) (L : List S34) (hg : w.heap[g]? = some (tO bv t.ptr)) (h : TrAt w t) (k : TOk bs t L) (hl : L.length ≤ 8192) :
    Calls Try.prog 42 #[.pointer (some ⟨g, 0, none⟩)] w fun e w' => ∃ v, e = .returned v ∧ OwX w' w.heap.size v L ∧ Below w.heap.size w w' := by
  have HG := Lib.hid hg
  have HT := Lib.hid h
  have HK := Lib.hid k
  have hcf : ∀ args w, (callFunc 74 args).run Try.prog w = .ok (.enter 74 args) w := fun args w => by go_simp
  have HCF := Lib.hid hcf
  clear hg h k hcf
  go_enter Try.func42, Try.ntmps42
  go_wp2_with fail
  have hlay : Lay w ((w.alloc (.cells #[.slice none 0 0] 65)).alloc (.cells #[.func (.func 74) #[] #[.pointer (some ⟨w.heap.size + 1, 0, none⟩), .pointer (some ⟨w.heap.size, 0, none⟩)]] 116)) (w.heap.size + 1) w.heap.size (.slice none 0 0) [] := by
    refine ⟨?_, blk_below (heap_alloc_new w _) ((Below.refl _ _).alloc (Nat.le_refl _) _), World.ownsRow_nil _ _ _ _, ((Below.refl w.heap.size w).alloc (Nat.le_refl _) _).alloc (by simp) _, by omega, Nat.le_refl _⟩
    have := heap_alloc_new (w.alloc (.cells #[.slice none 0 0] 65)) (.cells #[.func (.func 74) #[] #[.pointer (some ⟨w.heap.size + 1, 0, none⟩), .pointer (some ⟨w.heap.size, 0, none⟩)]] 116)
    rw [show (w.alloc (.cells #[.slice none 0 0] 65)).heap.size = w.heap.size + 1 from by simp] at this
    exact this
  have LL := Lib.hid hlay
  clear hlay
  generalize (w.alloc (.cells #[.slice none 0 0] 65)).alloc (.cells #[.func (.func 74) #[] #[.pointer (some ⟨w.heap.size + 1, 0, none⟩), .pointer (some ⟨w.heap.size, 0, none⟩)]] 116) = w2 at *
  obtain ⟨A1, hA1⟩ := t.ptr_form
  have HA := Lib.hid hA1
  have hg2 := LL.out.bel.block g (blk_lt HG.out) |>.trans HG.out
  rw [hA1] at hg2
  obtain ⟨-, g1, gl⟩ := tO_facts hg2
  have f0 : w2.cell? ⟨w.heap.size + 1, 0, none⟩ = _ := (blk_cell LL.out.hf 0).trans rfl
  have fl := blk_lt LL.out.hf
  clear hA1 hg2
  refine Txt3.wp_region_mix (V := [(5, .a)]) (S := fun _ => False) (by kernel_rfl) (by kernel_rfl) (fun HB => ?_)
  repeat (first
    | (refine Txt3.mix_p (by rfl) rfl (by decide +kernel) (fun K hK => ?_); go_big_quiet_op; refine hK _ ?_; clear hK K)
    | (refine Txt3.mix_re (by rfl) (by decide +kernel) (by rfl) (by rfl) (by go_simp) (by first | exact HS1.out | exact HS2.out | exact id) HB (fun K hK => ?_); go_big_quiet_op; refine hK _ ?_; clear hK K)
    | (refine Txt3.mix_r (by rfl) (by decide) (by decide +kernel) (fun K hK => ?_); go_big_quiet_op; refine hK _ ?_; clear hK K)
    | (refine Txt3.mix_pass (by rfl) (by rfl) ?_; simp only [List.set_cons_succ, List.set_cons_zero]))
  refine Txt3.mix_a (by rfl) (by decide +kernel) (fun K hK => ?_)
  go_wp2_with fail
  have hq := twalk_any HCF.out t [] L w2.drew (.slice none 0 0) HT.out HK.out (LL.out.below (Below.refl _ _).drew) (by simp only [List.length_nil]; omega)
  rw [HA.out] at hq
  refine hq.mono ?_
  clear hq
  rintro e w5 ⟨rfl, v3, hl5⟩
  have LY := Lib.hid hl5
  clear hl5 LL g1 gl f0 fl
  simp only
  refine hK _ _ ?_
  clear hK K
  repeat (first
    | (refine Txt3.mix_p (by rfl) rfl (by decide +kernel) (fun K hK => ?_); go_big_quiet_op; refine hK _ ?_; clear hK K)
    | (refine Txt3.mix_re (by rfl) (by decide +kernel) (by rfl) (by rfl) (by go_simp) (by first | exact HS1.out | exact HS2.out | exact id) HB (fun K hK => ?_); go_big_quiet_op; refine hK _ ?_; clear hK K)
    | (refine Txt3.mix_r (by rfl) (by decide) (by decide +kernel) (fun K hK => ?_); go_big_quiet_op; refine hK _ ?_; clear hK K)
    | (refine Txt3.mix_pass (by rfl) (by rfl) ?_; simp only [List.set_cons_succ, List.set_cons_zero]))
  refine Txt3.mix_nil ?_
  have s0 : w5.cell? ⟨w.heap.size, 0, none⟩ = some v3 := (blk_cell LY.out.hs 0).trans rfl
  have sl := blk_lt LY.out.hs
  obtain ⟨A3, c3, rfl, _⟩ := row_form LY.out.ow
  go_wp2_with fail
  go_ret
  exact ⟨_, rfl, LY.out.ow, LY.out.bel⟩
end Go.Proofs.Ytfgabafbcephaaa.My

namespace Go.Proofs.Ytfgabafbcephaaa.My
open Go.RowKit Pa Go.Proofs.YtfgabafbcephaaaW.PrintWords
set_option linter.unusedSimpArgs false
section
attribute [local go_sem high] eqA34
set_option maxHeartbeats 8000000 in
set_option maxRecDepth 100000 in
theorem xsame_any (A B : Option Addr) (c d : Nat) (ys : List S34) (w : World) (hA : RdX w A ys) (hB : RdX w B ys) (hn : ys.length ≤ 4000000000000) :
    Calls Try.prog 43 #[.slice A ys.length c, .slice B ys.length d] w fun e w' => e = .returned (.bool true) ∧ Below w.heap.size w w' := by
  have HA := Lib.hid hA
  have HB := Lib.hid hB
  clear hA hB
  go_enter Try.func43, Try.ntmps43
  go_wp2_with fail
  go_loopw [5] (fun i wr => ∃ k : Nat, i = .int .i64 k ∧ k ≤ ys.length ∧ Below w.heap.size w wr) (fun i _ => ys.length - (intOf i).toNat)
  case atStart => exact ⟨0, rfl, Nat.zero_le _, Below.refl _ _⟩
  case round =>
    obtain ⟨k, rfl, hk, hb⟩ := hrel
    have HL := Lib.hid hb
    clear hb
    by_cases hlt : k < ys.length
    · obtain ⟨b, o, rfl, hbs, hcells⟩ := (HA.out.quiet HL.out) (by omega)
      obtain ⟨a0, a1, a2, a3⟩ := hcells k hlt
      obtain ⟨b2, o2, rfl, hbs2, hcells2⟩ := (HB.out.quiet HL.out) (by omega)
      obtain ⟨b0, b1, b2, b3⟩ := hcells2 k hlt
      clear hcells hcells2
      go_wp2_with fail
      refine Txt.wp_region_text (by kernel_rfl) (by kernel_rfl) ?_
      repeat (first
        | (refine Txt.text_p (by rfl) rfl (fun K hK => ?_); go_big_quiet_op; refine hK _ ?_; clear hK K)
        | (refine Txt.text_r (by rfl) rfl (fun K hK => ?_); go_big_quiet_op; refine hK _ ?_; clear hK K)
        | (refine Txt.text_pass (by rfl) (by rfl) ?_; simp only [List.set_cons_succ, List.set_cons_zero]))
      refine Txt.text_nil ?_
      go_wp2_with fail
      exact ⟨⟨k + 1, by go_num, by omega, HL.out.drew⟩, by simp [intOf]; omega⟩
    · obtain rfl : k = ys.length := by omega
      go_wp2_with fail
      go_ret
      exact ⟨rfl, HL.out⟩
end
theorem OwX.reads {w : World} {base : Nat} {v : Value} {xs : List S34} (h : OwX w base v xs) : ∃ A c, v = .slice A xs.length c ∧ xs.length ≤ c ∧ RdX w A xs := by
  obtain ⟨A, c, rfl, hc⟩ := row_form h
  refine ⟨A, c, rfl, hc, fun hp => ?_⟩
  rcases h.2 with ⟨e1, h0⟩ | ⟨b, cap, cur, e1, -, -, -, -⟩
  · injection e1 with _ e2 _
    omega
  · injection e1 with e2 _ _
    subst e2
    obtain ⟨cur, hcur⟩ : ∃ cur, w.heap[b]? = some (.cells cur 34 (0, 0)) := own_typed h b rfl
    refine ⟨b, 0, rfl, blk_lt hcur, fun i hi => ?_⟩
    obtain ⟨a0, a1, a2, a3⟩ := xrow_get (e := 34) h hi
    rw [Nat.zero_add]
    exact ⟨a0, a1, a2, a3⟩
theorem item19_any (s t q v : Int) (w : World) : Calls Try.prog 44 #[.int .i64 s, .int .i64 t, .int .i64 q, .int .i64 v] w fun e w' => e = .returned (.agg #[.int .i64 s, .int .i64 t, .int .i64 q, .int .i64 v]) ∧ Below w.heap.size w w' :=
  bournelaw19_item.calls s t q v s t q v w rfl
end Go.Proofs.Ytfgabafbcephaaa.My

namespace Go.Proofs.Ytfgabafbcephaaa.My
open Go.RowKit Pa Go.Proofs.YtfgabafbcephaaaW.PrintWords
set_option linter.unusedSimpArgs false
structure TS (w0 w : World) (F : Nat → Prop) (g : Nat) (bs : List Int) (L : List S34) : Prop where
  st : ∃ bv t, w.heap[g]? = some (tO bv t.ptr) ∧ Own w 0 bv bs ∧ TrAt w t ∧ TOk bs t L ∧ t.blks.Nodup ∧ F g ∧ (∀ k, bv.ownBlock = some k → F k) ∧ ∀ i, i ∈ t.blks ∨ i ∈ t.hbs → F i
  srt : Srt L
  one : One1 L
  len : L.length ≤ 8192
  bm : bmay bs = true
  new : ∀ i, F i → w0.heap.size ≤ i ∧ i < w.heap.size
  bel : Below w0.heap.size w0 w
def serL : List S34 → Int
  | [] => -1
  | x :: _ => x.f0
def mayL (L xs : List S34) : Bool := imays (serL L) xs && decide ((L.length : Int) + xs.length ≤ 8192)
theorem ser_eq {bs : List Int} {t : PT} {L : List S34} (k : TOk bs t L) (h : One1 L) : t.ser = serL L := by
  cases t with
  | nil =>
    have e : L = [] := k
    rw [e]
    rfl
  | node b x o ov a av m q l r =>
    obtain ⟨L1, L2, e, -⟩ := k
    obtain ⟨s, hs⟩ := h
    have h1 := (hs x (by rw [e]; simp)).2
    show x.f0 = serL L
    cases L with
    | nil => simp at e
    | cons y r => exact h1.trans (hs y (by simp)).2.symm
theorem One1.gd {bs : List Int} {L : List S34} (h : One1 L) (hb : bmay bs = true) (hl : L.length ≤ 8192) : ∃ s, Gd bs s (its bs L) := by
  obtain ⟨s, hs⟩ := h
  exact ⟨s, gd_of hb hs hl⟩
section
variable {w0 w w1 : World} {F S : Nat → Prop} {g : Nat} {bs : List Int} {L : List S34}
theorem TS.chg (h : TS w0 w F g bs L) (hc : Chg S w w1) (hS : ∀ k, S k → ¬ F k ∧ w0.heap.size ≤ k) : TS w0 w1 F g bs L := by
  obtain ⟨bv, t, h1, h2, h3, h4, h5, h6, h7, h8⟩ := h.st
  exact ⟨⟨bv, t, hc.obj h1 (fun hs => (hS _ hs).1 h6), h2.keep hc (fun k hk hs => (hS _ hs).1 (h7 k hk)), h3.keep hc (fun i hi hs => (hS _ hs).1 (h8 i (.inl hi))) (fun i hi hs => (hS _ hs).1 (h8 i (.inr hi))), h4, h5, h6, h7, h8⟩,
    h.srt, h.one, h.len, h.bm, fun i hi => ⟨(h.new i hi).1, Nat.lt_of_lt_of_le (h.new i hi).2 hc.size⟩, Chg.base h.bel hc h.bel.size (fun i hi => (hS i hi).2)⟩
theorem TS.quiet (h : TS w0 w F g bs L) (hb : Below w.heap.size w w1) : TS w0 w1 F g bs L := h.chg (S := fun _ => False) (Chg.of_below hb) (fun _ h => h.elim)
theorem tsnew_any (bs : List Int) (A : Option Addr) (c : Nat) (hw : Below w0.heap.size w0 w) (hr : RdI w A bs) (hc : bs.length ≤ c) :
    Calls Try.prog 29 #[.slice A bs.length c] w fun e w' =>
      (bmay bs = false ∧ e = .returned (.tuple #[.pointer none, .int .i64 1900]) ∧ Below w.heap.size w w') ∨
      (bmay bs = true ∧ ∃ (g : Nat) (F : Nat → Prop), e = .returned (.tuple #[.pointer (some ⟨g, 0, none⟩), .int .i64 0]) ∧ TS w0 w' F g bs [] ∧ (∀ i, F i → w.heap.size ≤ i) ∧ Below w.heap.size w w') :=
  (tnew_any bs A c w hr hc).mono fun e w' h => by
    rcases h with h | ⟨h0, g, bv, h1, h2, h3, h4, h5⟩
    · exact .inl h
    · have := hw.size
      have hgl := blk_lt h2
      refine .inr ⟨h0, g, fun i => w.heap.size ≤ i ∧ i < w'.heap.size, h1, ⟨⟨bv, .nil, h2, own_zero h3, trivial, rfl, List.nodup_nil, ⟨h4, hgl⟩, fun k hk => ⟨own_base h3 k hk, own_lt h3 k hk⟩, fun i hi => ?_⟩, List.Pairwise.nil, ⟨0, fun x hx => by cases hx⟩, by simp, h0, fun i hi => ⟨by omega, hi.2⟩, hw.trans (h5.mono this)⟩, fun i hi => hi.1, h5⟩
      rcases hi with hi | hi <;> cases hi
theorem tsins_any (h : TS w0 w F g bs L) (xs : List S34) (A : Option Addr) (c : Nat) (hr : RdX w A xs) (hl : xs.length ≤ 17592186044415) (hn : ∀ b o, A = some ⟨b, o, none⟩ → ¬ F b) :
    Calls Try.prog 34 #[.pointer (some ⟨g, 0, none⟩), .slice A xs.length c] w fun e w' =>
      (mayL L xs = false ∧ e = .returned (.int .i64 1900) ∧ Below w.heap.size w w') ∨
      (mayL L xs = true ∧ twi L [] xs = true ∧ e = .returned (.int .i64 1901) ∧ Below w.heap.size w w') ∨
      (mayL L xs = true ∧ twi L [] xs = false ∧ e = .returned (.int .i64 0) ∧ ∃ F', TS w0 w' F' g bs (insAll L xs) ∧ (∀ i, F' i → F i ∨ w.heap.size ≤ i) ∧ Chg F w w') := by
  obtain ⟨bv, t, h1, h2, h3, h4, h5, h6, h7, h8⟩ := h.st
  have hti : TI w w (fun i => i ∈ t.blks ∨ i ∈ t.hbs) g bv bs t L := ⟨h1, h2, h3, h4, h5, h.srt, fun i hi => .inl hi, Chg.refl _ _⟩
  have he : (imays t.ser xs && decide ((L.length : Int) + xs.length ≤ 8192)) = mayL L xs := by unfold mayL; rw [ser_eq h4 h.one]
  by_cases hm : mayL L xs = true
  · by_cases ht : twi L [] xs = true
    · exact (tins_twice hti xs A c hr hl h.len h.one (he.trans hm) ht).mono fun e w' hh => .inr (.inl ⟨hm, ht, hh⟩)
    · have ht : twi L [] xs = false := by simpa using ht
      refine (tins_self hti xs A c hr hl h.len h.one h.bm (he.trans hm) ht (fun b o e hb => hn b o e (by
        rcases hb with rfl | hb | hb
        · exact h6
        · exact h8 _ (.inl hb)
        · exact h8 _ (.inr hb)))).mono fun e w' hh => .inr (.inr ⟨hm, ht, hh.1, ?_⟩)
      obtain ⟨-, u, k⟩ := hh
      have hmm := Bool.and_eq_true_iff.1 (he.trans hm)
      have hle := of_decide_eq_true hmm.2
      have hc : Chg F w w' := k.chg.mono (fun i _ hi => by
        rcases hi with rfl | hi
        · exact h6
        · exact h8 i hi)
      refine ⟨fun i => (F i ∨ w.heap.size ≤ i) ∧ i < w'.heap.size, ⟨⟨bv, u, k.hg, k.bo, k.tr, k.ok, k.nd, ⟨.inl h6, blk_lt k.hg⟩, fun i hi => ⟨.inl (h7 i hi), own_lt k.bo i hi⟩, fun i hi => ⟨?_, ?_⟩⟩, k.srt, ?_, ?_, h.bm, fun i hi => ⟨?_, hi.2⟩, Chg.base h.bel hc h.bel.size (fun i hi => (h.new i hi).1)⟩, fun i hi => hi.1, hc⟩
      · exact (k.fr i hi).imp (fun hh => h8 i hh) id
      · exact hi.elim (fun hh => k.tr.lt.1 i hh) (fun hh => k.tr.lt.2 i hh)
      · exact (imays_all h4 h.one hmm.1).sub (fun x hx => List.mem_append.2 (insAll_mem.1 hx))
      · rw [insAll_len]
        omega
      · have := h.bel.size
        rcases hi.1 with hi | hi
        · exact (h.new i hi).1
        · omega
  · have hm : mayL L xs = false := by simpa using hm
    exact (tins_form hti xs A c hr hl h.len (he.trans hm)).mono fun e w' hh => .inl ⟨hm, hh⟩
theorem tsrange_any (h : TS w0 w F g bs L) (S E : Int) :
    Calls Try.prog 38 #[.pointer (some ⟨g, 0, none⟩), .agg #[.int .i64 S, .int .i64 E]] w fun e w' => ∃ v, e = .returned (acV (joinA bs (its bs (flt S E L))) v) ∧ Own w' w.heap.size v (joinA bs (its bs (flt S E L))).f6 ∧ Below w.heap.size w w' := by
  obtain ⟨bv, t, h1, h2, h3, h4, h5, h6, h7, h8⟩ := h.st
  obtain ⟨s, gd⟩ := h.one.gd h.bm h.len
  exact trange_any t L S E h1 h2 h3 h4 h.srt gd
def low (v : Int) (L : List S34) : List S34 := L.filter (fun y => decide (y.f1 < v))
def hig (v : Int) (L : List S34) : List S34 := L.filter (fun y => !decide (y.f1 < v))
theorem low_cut {v : Int} {L : List S34} (h : Srt L) : L = low v L ++ hig v L := srt_cut (p := fun y => decide (y.f1 < v)) (fun a b hab hb => by
  have := ord_time hab
  have hb := of_decide_eq_true hb
  exact decide_eq_true (by omega)) h
theorem tsevict_any (h : TS w0 w F g bs L) (v : Int) :
    Calls Try.prog 40 #[.pointer (some ⟨g, 0, none⟩), .int .i64 v] w fun e w' => e = .returned (.int .i64 (low v L).length) ∧ ∃ F', TS w0 w' F' g bs (hig v L) ∧ (∀ i, F' i → F i ∨ w.heap.size ≤ i) ∧ Chg F w w' := by
  obtain ⟨bv, t, h1, h2, h3, h4, h5, h6, h7, h8⟩ := h.st
  obtain ⟨s, gd⟩ := h.one.gd h.bm h.len
  refine (tevict_any t L (low v L) (hig v L) v h1 h2 h3 h5 h4 gd (low_cut h.srt) (fun y hy => by have := (List.mem_filter.1 hy).2; exact this) (fun y hy => by have := (List.mem_filter.1 hy).2; simpa using this)).mono fun e w' hh => ?_
  obtain ⟨u, r0, r1, r2, r3, r4, r5, r6, r7⟩ := hh
  have hc : Chg F w w' := r7.mono (fun i _ hi => by
    rcases hi with rfl | hi
    · exact h6
    · exact h8 i (.inl hi))
  refine ⟨r0, fun i => (F i ∨ w.heap.size ≤ i) ∧ i < w'.heap.size, ⟨⟨bv, u, r1, h2.keep r7 (fun k hk hs => ?_), r2, r3, r4, ⟨.inl h6, blk_lt r1⟩, fun i hi => ⟨.inl (h7 i hi), Nat.lt_of_lt_of_le (own_lt h2 i hi) r7.size⟩, fun i hi => ⟨?_, ?_⟩⟩, ?_, h.one.sub (fun x hx => (List.mem_filter.1 hx).1), Nat.le_trans (List.length_filter_le ..) h.len, h.bm, fun i hi => ⟨?_, hi.2⟩, Chg.base h.bel hc h.bel.size (fun i hi => (h.new i hi).1)⟩, fun i hi => hi.1, hc⟩
  · rcases hs with e | hs
    · exact row_noq h2 h1 (by decide) (by rw [hk, e])
    · obtain ⟨cs, h9⟩ := h3.kind.1 k hs
      exact row_noq h2 h9 (by decide) hk.symm
  · rcases hi with hi | hi
    · exact .inl (h8 i (.inl (r5 i hi)))
    · exact (r6 i hi).imp (fun hh => h8 i (.inr hh)) id
  · exact hi.elim (fun hh => r2.lt.1 i hh) (fun hh => r2.lt.2 i hh)
  · have := low_cut (v := v) h.srt ▸ h.srt
    exact srt_right this
  · have := h.bel.size
    rcases hi.1 with hi | hi
    · exact (h.new i hi).1
    · omega
theorem tsitems_any (h : TS w0 w F g bs L) :
    Calls Try.prog 42 #[.pointer (some ⟨g, 0, none⟩)] w fun e w' => ∃ v, e = .returned v ∧ OwX w' w.heap.size v L ∧ Below w.heap.size w w' := by
  obtain ⟨bv, t, h1, h2, h3, h4, h5, h6, h7, h8⟩ := h.st
  exact titems_any t L h1 h3 h4 h.len
end
end Go.Proofs.Ytfgabafbcephaaa.My

namespace Go.Proofs.Ytfgabafbcephaaa.My
open Go.RowKit Pa Go.Proofs.YtfgabafbcephaaaW.PrintWords
set_option linter.unusedSimpArgs false
def y1 : S34 := ⟨0, 5, 1, 2⟩
def y2 : S34 := ⟨0, 3, 2, 4⟩
def y3 : S34 := ⟨0, 5, 3, 8⟩
def yA : S36 := ⟨1, 4, 4, 4, y2, y2, [1]⟩
def yB : S36 := ⟨2, 10, 2, 8, y1, y3, [2]⟩
theorem y_ins : mayL [] [y1, y2, y3] = true ∧ twi [] [] [y1, y2, y3] = false ∧ insAll [] [y1, y2, y3] = [y2, y1, y3] := ⟨by kernel_rfl, by kernel_rfl, by kernel_rfl⟩
theorem y_two : twi [y2, y1, y3] [] [⟨0, 9, 4, 1⟩, ⟨0, 5, 3, 1⟩] = true := by decide +kernel
theorem y_two2 : mayL [y2, y1, y3] [⟨0, 9, 4, 1⟩, ⟨0, 5, 3, 1⟩] = true := by decide +kernel
theorem y_form : mayL [y2, y1, y3] [⟨1, 9, 4, 1⟩] = false := by decide +kernel
theorem y_ra : joinA [] (its [] (flt 3 5 [y2, y1, y3])) = yA := by kernel_rfl
theorem y_rb : joinA [] (its [] (flt 5 6 [y2, y1, y3])) = yB := by kernel_rfl
theorem y_ev : (low 5 [y2, y1, y3]).length = 1 ∧ hig 5 [y2, y1, y3] = [y1, y3] := ⟨by kernel_rfl, by kernel_rfl⟩
theorem two_new (w : World) (a b : Obj) : ((w.alloc a).alloc b).heap[w.heap.size]? = some a ∧ ((w.alloc a).alloc b).heap[w.heap.size + 1]? = some b ∧ Below w.heap.size w ((w.alloc a).alloc b) := by
  refine ⟨blk_below (heap_alloc_new w a) ((Below.refl _ _).alloc (Nat.le_refl _) _), ?_, ((Below.refl w.heap.size w).alloc (Nat.le_refl _) _).alloc (by simp) _⟩
  have := heap_alloc_new (w.alloc a) b
  rw [show (w.alloc a).heap.size = w.heap.size + 1 from by simp] at this
  exact this
set_option maxHeartbeats 16000000 in
set_option maxRecDepth 100000 in
theorem awake19_any (w : World) : Calls Try.prog 31 #[] w fun e w' => e = .returned (.bool true) ∧ Below w.heap.size w w' := by
  go_enter Try.func31, Try.ntmps31
  go_wp2_with fail
  refine (tsnew_any (w0 := w) [] none 0 (Below.refl _ _) (rdI_none _) (by simp)).mono ?_
  rintro e w1 (⟨h, _⟩ | ⟨_, g, F1, rfl, hq, -, -⟩)
  · exact absurd h (by rw [q_new.1]; simp)
  have Q1 := Lib.hid hq
  clear hq
  go_wp2_with fail
  have hb : Below w1.heap.size w1 (w1.alloc (.cells #[.int .i64 2, .int .i64 1] 3)) := (Below.refl w1.heap.size w1).alloc (Nat.le_refl _) _
  have hrb : RdI (w1.alloc (.cells #[.int .i64 2, .int .i64 1] 3)) (some ⟨w1.heap.size, 0, none⟩) [2, 1] := rdI_blk (heap_alloc_new w1 (.cells #[.int .i64 2, .int .i64 1] 3)) (by decide)
  have Q2 := Lib.hid (Q1.out.quiet hb)
  have HR := Lib.hid hrb
  clear hb hrb Q1
  generalize w1.alloc (.cells #[.int .i64 2, .int .i64 1] 3) = w2 at *
  refine (tnew_any [2, 1] (some ⟨w1.heap.size, 0, none⟩) 2 w2 HR.out (by simp)).mono ?_
  rintro e w3 (⟨_, rfl, hb⟩ | ⟨h, _⟩)
  rotate_left 1
  · exact absurd h (by rw [q_new.2]; simp)
  have Q3 := Lib.hid (Q2.out.quiet hb)
  clear hb Q2 HR
  go_wp2_with fail
  refine (num_any _ _).mono ?_
  rintro e w' ⟨rfl, rfl⟩
  go_wp2_with fail
  refine (item19_any 0 5 1 2 _).mono ?_
  rintro e w4 ⟨rfl, hb⟩
  have Q4 := Lib.hid (Q3.out.quiet hb)
  clear hb Q3
  go_wp2_with fail
  refine (item19_any 0 3 2 4 _).mono ?_
  rintro e w5 ⟨rfl, hb⟩
  have Q5 := Lib.hid (Q4.out.quiet hb)
  clear hb Q4
  go_wp2_with fail
  refine (item19_any 0 5 3 8 _).mono ?_
  rintro e w6 ⟨rfl, hb⟩
  have Q6 := Lib.hid (Q5.out.quiet hb)
  clear hb Q5
  go_wp2_with fail
  show Calls _ _ _ (w6.alloc (.cells (flatX [y1, y2, y3] ++ []).toArray 34)) _
  have hal : Below w6.heap.size w6 (w6.alloc (.cells (flatX [y1, y2, y3] ++ []).toArray 34)) := (Below.refl _ _).alloc (Nat.le_refl _) _
  have HX := Lib.hid (rdX_blk (heap_alloc_new w6 (.cells (flatX [y1, y2, y3] ++ []).toArray 34)))
  have HN := Lib.hid (fun h => by have := (Q6.out.new w6.heap.size h).2; omega : ¬ F1 w6.heap.size)
  have Q7 := Lib.hid (Q6.out.quiet hal)
  clear hal Q6
  generalize w6.alloc (.cells (flatX [y1, y2, y3] ++ []).toArray 34) = w7 at *
  generalize w6.heap.size = ab at *
  refine (tsins_any Q7.out [y1, y2, y3] (some ⟨ab, 0, none⟩) 3 HX.out (by decide) (fun b o e hf => HN.out (by injection e with e; injection e with e; exact e ▸ hf))).mono ?_
  rintro e w8 (⟨h, _⟩ | ⟨_, h, _⟩ | ⟨-, -, rfl, F2, hq, -, -⟩)
  · exact absurd h (by rw [y_ins.1]; simp)
  · exact absurd h (by rw [y_ins.2.1]; simp)
  rw [y_ins.2.2] at hq
  have Q8 := Lib.hid hq
  clear hq HX HN Q7
  go_wp2_with fail
  refine (item19_any 0 9 4 1 _).mono ?_
  rintro e w9 ⟨rfl, hb⟩
  have Q9 := Lib.hid (Q8.out.quiet hb)
  clear hb Q8
  go_wp2_with fail
  refine (item19_any 0 5 3 1 _).mono ?_
  rintro e wa ⟨rfl, hb⟩
  have Qa := Lib.hid (Q9.out.quiet hb)
  clear hb Q9
  go_wp2_with fail
  show Calls _ _ _ (wa.alloc (.cells (flatX [⟨0, 9, 4, 1⟩, ⟨0, 5, 3, 1⟩] ++ []).toArray 34)) _
  have hal : Below wa.heap.size wa (wa.alloc (.cells (flatX [⟨0, 9, 4, 1⟩, ⟨0, 5, 3, 1⟩] ++ []).toArray 34)) := (Below.refl _ _).alloc (Nat.le_refl _) _
  have HX := Lib.hid (rdX_blk (heap_alloc_new wa (.cells (flatX [⟨0, 9, 4, 1⟩, ⟨0, 5, 3, 1⟩] ++ []).toArray 34)))
  have HN := Lib.hid (fun h => by have := (Qa.out.new wa.heap.size h).2; omega : ¬ F2 wa.heap.size)
  have Qb := Lib.hid (Qa.out.quiet hal)
  clear hal Qa
  generalize wa.alloc (.cells (flatX [⟨0, 9, 4, 1⟩, ⟨0, 5, 3, 1⟩] ++ []).toArray 34) = wb at *
  generalize wa.heap.size = ac at *
  refine (tsins_any Qb.out [⟨0, 9, 4, 1⟩, ⟨0, 5, 3, 1⟩] (some ⟨ac, 0, none⟩) 2 HX.out (by decide) (fun b o e hf => HN.out (by injection e with e; injection e with e; exact e ▸ hf))).mono ?_
  rintro e wc (⟨h, _⟩ | ⟨-, -, rfl, hb⟩ | ⟨_, h, _⟩)
  · exact absurd h (by rw [y_two2]; simp)
  rotate_left 1
  · exact absurd h (by rw [y_two]; simp)
  have Qc := Lib.hid (Qb.out.quiet hb)
  clear hb HX HN Qb
  go_wp2_with fail
  refine (item19_any 1 9 4 1 _).mono ?_
  rintro e wd ⟨rfl, hb⟩
  have Qd := Lib.hid (Qc.out.quiet hb)
  clear hb Qc
  go_wp2_with fail
  show Calls _ _ _ (wd.alloc (.cells (flatX [⟨1, 9, 4, 1⟩] ++ []).toArray 34)) _
  have hal : Below wd.heap.size wd (wd.alloc (.cells (flatX [⟨1, 9, 4, 1⟩] ++ []).toArray 34)) := (Below.refl _ _).alloc (Nat.le_refl _) _
  have HX := Lib.hid (rdX_blk (heap_alloc_new wd (.cells (flatX [⟨1, 9, 4, 1⟩] ++ []).toArray 34)))
  have HN := Lib.hid (fun h => by have := (Qd.out.new wd.heap.size h).2; omega : ¬ F2 wd.heap.size)
  have Qe := Lib.hid (Qd.out.quiet hal)
  clear hal Qd
  generalize wd.alloc (.cells (flatX [⟨1, 9, 4, 1⟩] ++ []).toArray 34) = we at *
  generalize wd.heap.size = ad at *
  refine (tsins_any Qe.out [⟨1, 9, 4, 1⟩] (some ⟨ad, 0, none⟩) 1 HX.out (by decide) (fun b o e hf => HN.out (by injection e with e; injection e with e; exact e ▸ hf))).mono ?_
  rintro e wf (⟨-, rfl, hb⟩ | ⟨h, _⟩ | ⟨h, _⟩)
  rotate_left 1
  · exact absurd h (by rw [y_form]; simp)
  · exact absurd h (by rw [y_form]; simp)
  have Qf := Lib.hid (Qe.out.quiet hb)
  clear hb HX HN Qe
  go_wp2_with fail
  refine (tsrange_any Qf.out 3 5).mono ?_
  rintro e wg ⟨v, rfl, how, hb⟩
  rw [y_ra] at how ⊢
  obtain ⟨A4, c4, rfl, _, _⟩ := how.reads
  have Qg := Lib.hid (Qf.out.quiet hb)
  clear hb how Qf
  simp only [acV, yA, List.length_cons, List.length_nil, Nat.zero_add, Nat.reduceAdd]
  go_wp2_with fail
  refine (tsrange_any Qg.out 5 6).mono ?_
  rintro e wh ⟨v, rfl, how, hb⟩
  rw [y_rb] at how ⊢
  obtain ⟨A5, c5, rfl, _, _⟩ := how.reads
  have Qh := Lib.hid (Qg.out.quiet hb)
  clear hb how Qg
  simp only [acV, yB, List.length_cons, List.length_nil, Nat.zero_add, Nat.reduceAdd]
  go_wp2_with fail
  show Calls _ _ _ ((wh.alloc (acO yA (.slice A4 1 c4))).alloc (acO yB (.slice A5 1 c5))) _
  obtain ⟨ha, hbb, hal⟩ := two_new wh (acO yA (.slice A4 1 c4)) (acO yB (.slice A5 1 c5))
  have VA := Lib.hid ha
  have VB := Lib.hid hbb
  have NF := Lib.hid (And.intro (fun h => by have := (Qh.out.new wh.heap.size h).2; omega : ¬ F2 wh.heap.size) (fun h => by have := (Qh.out.new (wh.heap.size + 1) h).2; omega : ¬ F2 (wh.heap.size + 1)))
  have Qi := Lib.hid (Qh.out.quiet hal)
  clear ha hbb hal Qh
  generalize (wh.alloc (acO yA (.slice A4 1 c4))).alloc (acO yB (.slice A5 1 c5)) = wi at *
  generalize wh.heap.size + 1 = vb at *
  generalize wh.heap.size = va at *
  refine (tsevict_any Qi.out 5).mono ?_
  rintro e wj ⟨rfl, F3, hq, hF, hc⟩
  rw [y_ev.1]
  rw [y_ev.2] at hq
  have VAj := Lib.hid (hc.obj VA.out NF.out.1)
  have VBj := Lib.hid (hc.obj VB.out NF.out.2)
  have Qj := Lib.hid hq
  clear hq hF hc VA VB NF Qi
  obtain ⟨x0, x1, x2, x3, x4, x5, x6, x7, x8, x9, x10, x11, x12, xl⟩ := acO_facts VAj.out
  obtain ⟨z0, z1, z2, z3, z4, z5, z6, z7, z8, z9, z10, z11, z12, zl⟩ := acO_facts VBj.out
  clear x2 x3 x4 x5 x6 x7 x8 x9 x10 x11 x12 z2 z3 z4 z5 z6 z7 z8 z9 z10 z11 z12
  simp only [yA, yB] at x0 x1 z0 z1
  go_wp2_with fail
  refine (num_any _ _).mono ?_
  rintro e w' ⟨rfl, rfl⟩
  iterate 3 (
    go_wp2_with fail
    refine (num_any _ _).mono ?_
    rintro e w' ⟨rfl, rfl⟩)
  go_wp2_with fail
  refine (tsitems_any Qj.out).mono ?_
  rintro e wk ⟨v, rfl, how, hb⟩
  have Qk := Lib.hid (Qj.out.quiet hb)
  have OX := Lib.hid how
  obtain ⟨A6, c6, rfl, _⟩ := row_form how
  clear hb how Qj x0 x1 z0 z1 xl zl VAj VBj
  go_wp2_with fail
  refine (item19_any 0 5 1 2 _).mono ?_
  rintro e wl ⟨rfl, hb⟩
  have Ql := Lib.hid (Qk.out.quiet hb)
  replace OX := Lib.hid (OX.out.below hb)
  clear hb Qk
  go_wp2_with fail
  refine (item19_any 0 5 3 8 _).mono ?_
  rintro e wm ⟨rfl, hb⟩
  have Qm := Lib.hid (Ql.out.quiet hb)
  replace OX := Lib.hid (OX.out.below hb)
  clear hb Ql
  go_wp2_with fail
  show Calls _ _ _ (wm.alloc (.cells (flatX [y1, y3] ++ []).toArray 34)) _
  have hal : Below wm.heap.size wm (wm.alloc (.cells (flatX [y1, y3] ++ []).toArray 34)) := (Below.refl _ _).alloc (Nat.le_refl _) _
  have HX := Lib.hid (rdX_blk (heap_alloc_new wm (.cells (flatX [y1, y3] ++ []).toArray 34)))
  have Qn := Lib.hid (Qm.out.quiet hal)
  replace OX := Lib.hid (OX.out.below hal)
  clear hal Qm
  generalize wm.alloc (.cells (flatX [y1, y3] ++ []).toArray 34) = wn at *
  generalize wm.heap.size = ae at *
  obtain ⟨A7, c7, he, hc7, hr7⟩ := OX.out.reads
  injection he with he1 he2 he3
  subst he1 he3
  refine (xsame_any A6 (some ⟨ae, 0, none⟩) c6 2 [y1, y3] wn hr7 HX.out (by simp)).mono ?_
  rintro e wo ⟨rfl, hb⟩
  have Qo := Lib.hid (Qn.out.quiet hb)
  clear hb Qn
  go_wp2_with fail
  go_ret
  exact ⟨rfl, Qo.out.bel⟩
end Go.Proofs.Ytfgabafbcephaaa.My

namespace Go.Proofs.Ytfgabafbcephaaa.My
open Go.RowKit Pa Go.Proofs.YtfgabafbcephaaaW.PrintWords
set_option linter.unusedSimpArgs false
theorem imays_yes {s : Int} : ∀ {xs : List S34} {r : Int}, (r < 0 ∨ r = s) → (∀ x ∈ xs, imay x = true ∧ x.f0 = s) → imays r xs = true := by
  intro xs
  induction xs with
  | nil => intro r _ _; rfl
  | cons x xs ih =>
    intro r hr h
    have hx := h x (List.mem_cons_self ..)
    rw [imays, hx.1, ih (.inr hx.2) (fun y hy => h y (List.mem_cons_of_mem _ hy))]
    rcases hr with hr | hr
    · simp [hr]
    · simp [hr, hx.2]
theorem mayL_yes {L xs : List S34} (h : One1 (L ++ xs)) (hl : L.length + xs.length ≤ 8192) : mayL L xs = true := by
  obtain ⟨s, hs⟩ := h
  unfold mayL
  rw [Bool.and_eq_true_iff]
  refine ⟨imays_yes ?_ (fun x hx => hs x (List.mem_append_right _ hx)), decide_eq_true (by omega)⟩
  cases L with
  | nil => exact .inl (by show (-1 : Int) < 0; omega)
  | cons y r => exact .inr (hs y (by simp)).2
theorem seen_no {x : S34} {S : List S34} (h : ∀ y ∈ S, ord y x ≠ 0) : seen x S = false := by
  unfold seen
  refine List.any_eq_false.2 (fun y hy e => h y hy ?_)
  rw [Bool.and_eq_true_iff] at e
  exact ord_zero.2 ⟨by simpa using e.1, by simpa using e.2⟩
theorem twi_yes {L : List S34} : ∀ {xs S : List S34}, xs.Pairwise (fun a b => ord a b ≠ 0) → (∀ x ∈ xs, ∀ y ∈ L, ord x y ≠ 0) → (∀ x ∈ xs, ∀ y ∈ S, ord y x ≠ 0) → twi L S xs = false := by
  intro xs
  induction xs with
  | nil => intro S _ _ _; rfl
  | cons x r ih =>
    intro S hp hL hS
    obtain ⟨p1, p2⟩ := List.pairwise_cons.1 hp
    rw [twi, seen_no (hS x (List.mem_cons_self ..)), hasB_false (hL x (List.mem_cons_self ..)), ih p2 (fun y hy => hL y (List.mem_cons_of_mem _ hy)) (fun y hy z hz => ?_)]
    · rfl
    · rcases List.mem_append.1 hz with hz | hz
      · exact hS y (List.mem_cons_of_mem _ hy) z hz
      · rw [List.mem_singleton.1 hz]
        exact p1 y hy
theorem flt_parts {a m b : Int} (h1 : a ≤ m) (h2 : m ≤ b) : ∀ {L : List S34}, Srt L → flt a b L = flt a m L ++ flt m b L
  | [], _ => rfl
  | x :: L, hs => by
    obtain ⟨l1, l2⟩ := List.pairwise_cons.1 hs
    have ih := flt_parts h1 h2 l2
    unfold flt at ih ⊢
    have hd : ∀ (S E : Int), inS S E x = (decide (S ≤ x.f1) && decide (x.f1 < E)) := fun _ _ => rfl
    by_cases hx : x.f1 < m
    · have e2 : ¬ inS m b x = true := by rw [hd]; simp; omega
      rw [List.filter_cons_of_neg e2]
      by_cases ha : a ≤ x.f1
      · have e1 : inS a b x = true := by rw [hd]; simp; omega
        have e3 : inS a m x = true := by rw [hd]; simp; omega
        rw [List.filter_cons_of_pos e1, List.filter_cons_of_pos e3, ih]
        rfl
      · have e1 : ¬ inS a b x = true := by rw [hd]; simp; omega
        have e3 : ¬ inS a m x = true := by rw [hd]; simp; omega
        rw [List.filter_cons_of_neg e1, List.filter_cons_of_neg e3, ih]
    · have e0 : L.filter (inS a m) = [] := List.filter_eq_nil_iff.2 (fun y hy e => by
        have := ord_time (l1 y hy)
        unfold inS at e
        simp at e
        omega)
      have e3 : ¬ inS a m x = true := by rw [hd]; simp; omega
      rw [e0, List.nil_append] at ih
      rw [List.filter_cons_of_neg e3, e0, List.nil_append]
      by_cases hb : x.f1 < b
      · have e1 : inS a b x = true := by rw [hd]; simp; omega
        have e2 : inS m b x = true := by rw [hd]; simp; omega
        rw [List.filter_cons_of_pos e1, List.filter_cons_of_pos e2, ih]
      · have e1 : ¬ inS a b x = true := by rw [hd]; simp; omega
        have e2 : ¬ inS m b x = true := by rw [hd]; simp; omega
        rw [List.filter_cons_of_neg e1, List.filter_cons_of_neg e2, ih]
theorem flt_back {a b : Int} (h : a ≤ b) (L : List S34) : flt b a L = [] := List.filter_eq_nil_iff.2 (fun y _ e => by
  unfold inS at e
  simp at e
  omega)
end Go.Proofs.Ytfgabafbcephaaa.My

namespace Go.Proofs.Ytfgabafbcephaaa.My
open Go.RowKit Pa Go.Proofs.YtfgabafbcephaaaW.PrintWords
set_option linter.unusedSimpArgs false
theorem at_op {ops : Array Oper} {Q : Exit → Act → World → Prop} {o : Oper} {rest : List Oper} {a : Act} {w : World} (op : Op) (_ : o.op = op) (h : AtOp ops Q o rest a w) : wpList Try.prog ops Q (o :: rest) a w := h.out
end Go.Proofs.Ytfgabafbcephaaa.My

namespace Go.Proofs.Ytfgabafbcephaaa.My
open Go.RowKit Pa Go.Proofs.YtfgabafbcephaaaW.PrintWords Go.Proofs.YtfgabafbcephaaaW.PrintMore
set_option linter.unusedSimpArgs false
attribute [local go_sem] max2_int min2_int max_two min_two
theorem three_new (w : World) (a b c : Obj) : (((w.alloc a).alloc b).alloc c).heap[w.heap.size]? = some a ∧ (((w.alloc a).alloc b).alloc c).heap[w.heap.size + 1]? = some b ∧ (((w.alloc a).alloc b).alloc c).heap[w.heap.size + 2]? = some c ∧ Below w.heap.size w (((w.alloc a).alloc b).alloc c) := by
  obtain ⟨h1, h2, h3⟩ := two_new w a b
  have hb : Below ((w.alloc a).alloc b).heap.size ((w.alloc a).alloc b) (((w.alloc a).alloc b).alloc c) := (Below.refl _ _).alloc (Nat.le_refl _) _
  refine ⟨blk_below h1 hb, blk_below h2 hb, ?_, h3.trans (hb.mono h3.size)⟩
  have := heap_alloc_new ((w.alloc a).alloc b) c
  rw [show ((w.alloc a).alloc b).heap.size = w.heap.size + 2 from by simp] at this
  exact this
theorem bm09 : bmay [0, 9] = true := by kernel_rfl
set_option maxHeartbeats 16000000 in
set_option maxRecDepth 100000 in
theorem tparts_any (A : Option Addr) (l : List Int) (c : Nat) (fr sz ct : Int) (w : World) (hA : RdI w A l) (hc : l.length ≤ c) (hl : l.length ≤ 17592186044415) :
    Calls Try.prog 7 #[.slice A l.length c, .int .i64 fr, .int .i64 sz, .int .i64 ct] w fun e w' => e = .returned (.bool true) ∧ Below w.heap.size w w' := by
  have HA := Lib.hid (And.intro hA (And.intro hc hl))
  clear hA hc hl
  go_enter Try.func7, Try.ntmps7
  go_wp2_with fail
  refine (awake19_any _).mono ?_
  rintro e wa ⟨rfl, hb⟩
  have HW := Lib.hid hb
  clear hb
  go_wp2_with fail
  have hal : Below wa.heap.size wa (wa.alloc (.cells #[.int .i64 0, .int .i64 9] 3)) := (Below.refl wa.heap.size wa).alloc (Nat.le_refl _) _
  have RB := Lib.hid (rdI_blk (l := [0, 9]) (heap_alloc_new wa (.cells #[.int .i64 0, .int .i64 9] 3)) (by simp))
  replace HW := Lib.hid (HW.out.trans (hal.mono HW.out.size))
  clear hal
  generalize wa.alloc (.cells #[.int .i64 0, .int .i64 9] 3) = wb at *
  refine (tsnew_any (w0 := w) [0, 9] (some ⟨wa.heap.size, 0, none⟩) 2 HW.out RB.out (by simp)).mono ?_
  rintro e w1 (⟨h, _⟩ | ⟨_, g, F1, rfl, hq, -, -⟩)
  · exact absurd h (by rw [bm09]; simp)
  have Q1 := Lib.hid hq
  clear hq HW RB
  go_wp2_with fail
  refine (num_any _ _).mono ?_
  rintro e w' ⟨rfl, rfl⟩
  go_wp2_with fail
  go_loopw [11] (fun i wr => ∃ (k : Nat) (F : Nat → Prop) (L : List S34), i = .int .i64 k ∧ k ≤ l.length ∧ k ≤ 40 ∧ TS w wr F g [0, 9] L ∧ Rel (L.length = k ∧ ∀ x ∈ L, x.f0 = 2 ∧ imay x = true ∧ x.f2 ≤ k)) (fun i _ => l.length - (intOf i).toNat)
  case atStart => exact ⟨0, _, [], rfl, by omega, by omega, Q1.out, ⟨rfl, fun x hx => by cases hx⟩⟩
  case round =>
    clear Q1
    obtain ⟨k, F, L, rfl, hk, hk40, hq, hrl⟩ := hrel
    have HR := Lib.hid hrl
    have QQ := Lib.hid hq
    clear hrl hq
    by_cases hlt : k < l.length ∧ k < 40
    · obtain ⟨hk1, hk2⟩ := hlt
      have hd1 : decide ((k : Int) < l.length) = true := decide_eq_true (by omega)
      have hd2 : decide ((k : Int) < 40) = true := decide_eq_true (by omega)
      obtain ⟨ad, hA0, e0⟩ := RdI.at_ (RdI.below HA.out.1 QQ.out.bel) hk1
      subst hA0
      have HK := Lib.hid (And.intro hk1 hk2)
      have hw1 : wrap64 ((k : Int) + 1) = (k : Int) + 1 := by unfold wrap64; omega
      obtain ⟨nk, hnk⟩ : ∃ nk, nk = l.getD k 0 := ⟨_, rfl⟩
      rw [← hnk] at e0
      clear hnk
      go_wp2_with fail
      refine Txt3.wp_region_mix (V := [(17, .a)]) (S := fun _ => False) (by kernel_rfl) (by kernel_rfl) (fun HB => ?_)
      repeat (first
        | (refine Txt3.mix_p (by rfl) rfl (by decide +kernel) (fun K hK => ?_); go_big_quiet_op; refine hK _ ?_; clear hK K)
        | (refine Txt3.mix_re (by rfl) (by decide +kernel) (by rfl) (by rfl) (by go_simp) (by first | exact HS1.out | exact HS2.out | exact id) HB (fun K hK => ?_); go_big_quiet_op; refine hK _ ?_; clear hK K)
        | (refine Txt3.mix_r (by rfl) (by decide) (by decide +kernel) (fun K hK => ?_); go_big_quiet_op; refine hK _ ?_; clear hK K)
        | (refine Txt3.mix_pass (by rfl) (by rfl) ?_; simp only [List.set_cons_succ, List.set_cons_zero]))
      refine Txt3.mix_c (by rfl) (by decide +kernel) HB ?_
      intro w2 hw2 K hK
      have hb2 : Below wr.heap.size wr w2 := Txt.Bw.undrew hw2
      replace HB := HB.then_ hw2
      clear hw2
      go_wp2_with fail
      have hb63 : 0 ≤ bits .and .i64 nk 63 ∧ bits .and .i64 nk 63 ≤ 63 := and_bound nk 63 (by decide)
      have hb31 : 0 ≤ bits .and .i64 (nk / 64) 31 ∧ bits .and .i64 (nk / 64) 31 ≤ 31 := and_bound (nk / 64) 31 (by decide)
      obtain ⟨tm, htm⟩ : ∃ tm, tm = bits BinOp.and IntKind.i64 nk 63 := ⟨_, rfl⟩
      obtain ⟨vl, hvl⟩ : ∃ vl, vl = wrap64 (bits BinOp.and IntKind.i64 (nk / 64) 31 - 9) := ⟨_, rfl⟩
      have htv : 0 ≤ tm ∧ tm ≤ 63 ∧ -9 ≤ vl ∧ vl ≤ 22 := by
        refine ⟨by rw [htm]; exact hb63.1, by rw [htm]; exact hb63.2, ?_, ?_⟩
        · rw [hvl]; have := hb31.1; have := hb31.2; unfold wrap64; omega
        · rw [hvl]; have := hb31.1; have := hb31.2; unfold wrap64; omega
      rw [← htm, ← hvl]
      have HTV := Lib.hid htv
      clear hb63 hb31 htm hvl htv e0 hd1 hd2
      refine (item19_any 2 tm (k + 1) vl _).mono ?_
      rintro e w3 ⟨rfl, hb⟩
      refine hK _ _ ⟨hb, ?_⟩
      replace HB := HB.then_ hb
      have Q3 := Lib.hid ((QQ.out.quiet hb2).quiet hb)
      clear hK K hb hb2
      repeat (first
        | (refine Txt3.mix_p (by rfl) rfl (by decide +kernel) (fun K hK => ?_); go_big_quiet_op; refine hK _ ?_; clear hK K)
        | (refine Txt3.mix_re (by rfl) (by decide +kernel) (by rfl) (by rfl) (by go_simp) (by first | exact HS1.out | exact HS2.out | exact id) HB (fun K hK => ?_); go_big_quiet_op; refine hK _ ?_; clear hK K)
        | (refine Txt3.mix_r (by rfl) (by decide) (by decide +kernel) (fun K hK => ?_); go_big_quiet_op; refine hK _ ?_; clear hK K)
        | (refine Txt3.mix_pass (by rfl) (by rfl) ?_; simp only [List.set_cons_succ, List.set_cons_zero]))
      obtain ⟨x, hx⟩ : ∃ x : S34, x = ⟨2, tm, k + 1, vl⟩ := ⟨_, rfl⟩
      have HX := Lib.hid (show imay x = true ∧ x.f0 = 2 ∧ x.f2 = k + 1 from by
        have := HTV.out
        have := HK.out.2
        rw [hx]
        exact ⟨by unfold imay; simp; omega, rfl, rfl⟩)
      refine Txt3.mix_m (fun g => .slice (some ⟨g, 0, none⟩) 1 1) (.cells (flatX [x] ++ []).toArray 34) (by rfl) (by decide +kernel) (fun w1 => by rw [hx]; show _ = Result.ok (Next.value _) (World.alloc _ (.cells #[.int .i64 2, .int .i64 tm, .int .i64 (k + 1), .int .i64 vl] _)); go_simp) HB ?_
      intro pb w4 hb4 hg4 ho4
      replace HB := HB.then_ hb4
      have Q4 := Lib.hid (Q3.out.quiet (show Below w3.heap.size w3 w4 from hb4))
      have RX := Lib.hid (rdX_blk ho4)
      have NX := Lib.hid (show ¬ F pb from fun h => by have := (QQ.out.new pb h).2; have : wr.heap.size ≤ pb := hg4; omega)
      clear hb4 hg4 ho4 Q3 QQ
      simp only [Act.put, List.setIfInBounds_toArray, List.set_cons_succ, List.set_cons_zero]
      repeat (first
        | (refine Txt3.mix_p (by rfl) rfl (by decide +kernel) (fun K hK => ?_); go_big_quiet_op; refine hK _ ?_; clear hK K)
        | (refine Txt3.mix_re (by rfl) (by decide +kernel) (by rfl) (by rfl) (by go_simp) (by first | exact HS1.out | exact HS2.out | exact id) HB (fun K hK => ?_); go_big_quiet_op; refine hK _ ?_; clear hK K)
        | (refine Txt3.mix_r (by rfl) (by decide) (by decide +kernel) (fun K hK => ?_); go_big_quiet_op; refine hK _ ?_; clear hK K)
        | (refine Txt3.mix_pass (by rfl) (by rfl) ?_; simp only [List.set_cons_succ, List.set_cons_zero]))
      refine Txt3.mix_a (by rfl) (by decide +kernel) (fun K hK => ?_)
      go_wp2_with fail
      refine (tsins_any Q4.out [x] (some ⟨pb, 0, none⟩) 1 RX.out (by simp) (fun b o e hf => NX.out (by injection e with e; injection e with e; exact e ▸ hf))).mono ?_
      have hall : One1 (L ++ [x]) := ⟨2, fun y hy => by
        rcases List.mem_append.1 hy with hy | hy
        · exact ⟨(HR.out.2 y hy).2.1, (HR.out.2 y hy).1⟩
        · rw [List.mem_singleton.1 hy]
          exact ⟨HX.out.1, HX.out.2.1⟩⟩
      have hm := mayL_yes hall (by have := HR.out.1; have := HK.out.2; simp; omega)
      have ht : twi L [] [x] = false := twi_yes (by simp) (fun y hy z hz e => by
        rw [List.mem_singleton.1 hy] at e
        have h1 := (ord_zero.1 e).2
        have h2 := (HR.out.2 z hz).2.2
        rw [HX.out.2.2] at h1
        omega) (fun _ _ z hz => by cases hz)
      rintro e w5 (⟨h, _⟩ | ⟨_, h, _⟩ | ⟨-, -, rfl, F2, hq, -, -⟩)
      · exact absurd h (by rw [hm]; simp)
      · exact absurd h (by rw [ht]; simp)
      have hr2 : (insAll L [x]).length = k + 1 ∧ ∀ y ∈ insAll L [x], y.f0 = 2 ∧ imay y = true ∧ y.f2 ≤ ((k + 1 : Nat) : Int) := by
        refine ⟨by rw [insAll_len, HR.out.1]; rfl, fun y hy => ?_⟩
        rcases insAll_mem.1 hy with hy | hy
        · have := HR.out.2 y hy
          exact ⟨this.1, this.2.1, by omega⟩
        · rw [List.mem_singleton.1 hy]
          exact ⟨HX.out.2.1, HX.out.1, by rw [HX.out.2.2]; omega⟩
      have Q5 := Lib.hid hq
      have HR2 := Lib.hid hr2
      clear hall hm ht hq hr2 Q4 RX NX
      simp only
      refine hK _ _ ?_
      clear hK K
      repeat (first
        | (refine Txt3.mix_p (by rfl) rfl (by decide +kernel) (fun K hK => ?_); go_big_quiet_op; refine hK _ ?_; clear hK K)
        | (refine Txt3.mix_re (by rfl) (by decide +kernel) (by rfl) (by rfl) (by go_simp) (by first | exact HS1.out | exact HS2.out | exact id) HB (fun K hK => ?_); go_big_quiet_op; refine hK _ ?_; clear hK K)
        | (refine Txt3.mix_r (by rfl) (by decide) (by decide +kernel) (fun K hK => ?_); go_big_quiet_op; refine hK _ ?_; clear hK K)
        | (refine Txt3.mix_pass (by rfl) (by rfl) ?_; simp only [List.set_cons_succ, List.set_cons_zero]))
      refine Txt3.mix_nil ?_
      go_wp2_with fail
      refine (num_any _ _).mono ?_
      rintro e w' ⟨rfl, rfl⟩
      go_wp2_with fail
      exact ⟨⟨k + 1, F2, _, by go_num, by omega, by omega, Q5.out, HR2.out⟩, by simp [intOf]; omega⟩
    · have hd : decide (k < l.length) = false ∨ (decide (k < l.length) = true ∧ decide (k < 40) = false ∧ decide ((k : Int) < 40) = false) := by
        by_cases h : k < l.length
        · exact .inr ⟨decide_eq_true h, decide_eq_false (by omega), decide_eq_false (by omega)⟩
        · exact .inl (decide_eq_false h)
      have hp63 : 0 ≤ bits .and .i64 fr 63 ∧ bits .and .i64 fr 63 ≤ 63 := and_bound fr 63 (by decide)
      have hq63 : 0 ≤ bits .and .i64 sz 63 ∧ bits .and .i64 sz 63 ≤ 63 := and_bound sz 63 (by decide)
      rcases hd with hd | ⟨hd, hd2, hd3⟩
      all_goals (
        go_wp2_with (refine at_op (.convert 3 55 (.tmp 75)) rfl ?_)
        clear hd
        generalize bits .and .i64 fr 63 = p at *
        generalize bits .and .i64 sz 63 = q at *
        have h2 := Int.tmod_lt_of_pos (IntKind.u64.wrap ct) (show 0 < p - 5 + q - (p - 5) + 1 by omega)
        have h3 := Int.tmod_nonneg (p - 5 + q - (p - 5) + 1) (u64_nonneg ct)
        refine ⟨?_⟩
        go_wp2_with fail
        obtain ⟨a, ha⟩ : ∃ a, p - 5 = a := ⟨_, rfl⟩
        obtain ⟨b, hb⟩ : ∃ b, p - 5 + q = b := ⟨_, rfl⟩
        obtain ⟨m, hm⟩ : ∃ m, p - 5 + (IntKind.u64.wrap ct).tmod (p - 5 + q - (p - 5) + 1) = m := ⟨_, rfl⟩
        have HM := Lib.hid (show a ≤ m ∧ m ≤ b by omega)
        rw [hm, hb, ha]
        clear h2 h3 hp63 hq63 ha hb hm
        refine (tsrange_any QQ.out a b).mono ?_
        rintro e w2 ⟨v, rfl, how, hb⟩
        obtain ⟨X, hX⟩ : ∃ X, X = joinA [0, 9] (its [0, 9] (flt a b L)) := ⟨_, rfl⟩
        rw [← hX] at how ⊢
        obtain ⟨Ax, cx, rfl, hlx, hrx⟩ := how.reads
        have Q2 := Lib.hid (QQ.out.quiet hb)
        have HX := Lib.hid hX
        have RX := Lib.hid (And.intro hlx hrx)
        clear hb how hX hlx hrx
        simp only [acV]
        go_wp2_with fail
        refine (tsrange_any Q2.out a m).mono ?_
        rintro e w3 ⟨v, rfl, how, hb⟩
        obtain ⟨Y, hY⟩ : ∃ Y, Y = joinA [0, 9] (its [0, 9] (flt a m L)) := ⟨_, rfl⟩
        rw [← hY] at how ⊢
        obtain ⟨Ay, cy, rfl, hly, hry⟩ := how.reads
        have Q3 := Lib.hid (Q2.out.quiet hb)
        replace RX := Lib.hid (And.intro RX.out.1 (RdI.below RX.out.2 hb))
        have HY := Lib.hid hY
        have RY := Lib.hid (And.intro hly hry)
        clear hb how hY hly hry
        simp only [acV]
        go_wp2_with fail
        refine (tsrange_any Q3.out m b).mono ?_
        rintro e w4 ⟨v, rfl, how, hb⟩
        obtain ⟨Z, hZ⟩ : ∃ Z, Z = joinA [0, 9] (its [0, 9] (flt m b L)) := ⟨_, rfl⟩
        rw [← hZ] at how ⊢
        obtain ⟨Az, cz, rfl, hlz, hrz⟩ := how.reads
        have Q4 := Lib.hid (Q3.out.quiet hb)
        replace RX := Lib.hid (And.intro RX.out.1 (RdI.below RX.out.2 hb))
        replace RY := Lib.hid (And.intro RY.out.1 (RdI.below RY.out.2 hb))
        have HZ := Lib.hid hZ
        have RZ := Lib.hid (And.intro hlz hrz)
        clear hb how hZ hlz hrz
        simp only [acV]
        go_wp2_with (refine at_op (.buildSlice 22 2 #[(0, .const (.int .i64 0)), (1, .const (.int .i64 9))]) rfl ?_)
        show AtOp _ _ _ _ _ (((w4.alloc (acO X (.slice Ax X.f6.length cx))).alloc (acO Y (.slice Ay Y.f6.length cy))).alloc (acO Z (.slice Az Z.f6.length cz)))
        obtain ⟨n1, n2, n3, nb⟩ := three_new w4 (acO X (.slice Ax X.f6.length cx)) (acO Y (.slice Ay Y.f6.length cy)) (acO Z (.slice Az Z.f6.length cz))
        have VX := Lib.hid (show AVar _ _ X Ax cx from ⟨n1, RX.out.1, RdI.below RX.out.2 nb⟩)
        have VY := Lib.hid (show AVar _ _ Y Ay cy from ⟨n2, RY.out.1, RdI.below RY.out.2 nb⟩)
        have VZ := Lib.hid (show AVar _ _ Z Az cz from ⟨n3, RZ.out.1, RdI.below RZ.out.2 nb⟩)
        have Q5 := Lib.hid (Q4.out.quiet nb)
        clear n1 n2 n3 nb Q2 Q3 Q4 RX RY RZ
        generalize ((w4.alloc (acO X (.slice Ax X.f6.length cx))).alloc (acO Y (.slice Ay Y.f6.length cy))).alloc (acO Z (.slice Az Z.f6.length cz)) = w5 at *
        generalize w4.heap.size + 2 = zb at *
        generalize w4.heap.size + 1 = yb at *
        generalize w4.heap.size = xb at *
        refine ⟨?_⟩
        obtain ⟨b1, b2, b3⟩ := two_new w5 (.cells #[.int .i64 0, .int .i64 9] 3) (.cells (accC Y (.slice Ay Y.f6.length cy) ++ accC Z (.slice Az Z.f6.length cz)).toArray 36)
        obtain ⟨y0, y1, y2, y3, y4, y5, y6, y7, y8, y9, y10, y11, y12, yl⟩ := acO_facts (blk_below VY.out.1 ((Below.refl _ _).alloc (Nat.le_refl _) (.cells #[.int .i64 0, .int .i64 9] 3)))
        obtain ⟨z0, z1, z2, z3, z4, z5, z6, z7, z8, z9, z10, z11, z12, zl⟩ := acO_facts (blk_below VZ.out.1 ((Below.refl _ _).alloc (Nat.le_refl _) (.cells #[.int .i64 0, .int .i64 9] 3)))
        go_wp2_with fail
        change Calls _ _ _ ((w5.alloc (.cells #[.int .i64 0, .int .i64 9] 3)).alloc (.cells (accC Y (.slice Ay Y.f6.length cy) ++ accC Z (.slice Az Z.f6.length cz)).toArray 36)) _
        have HRI := Lib.hid (rdI_blk (l := [0, 9]) b1 (by simp))
        have HRA := Lib.hid (rdA_two (x := Y) (y := Z) (fr := (0, 0)) b2 VY.out.2.1 (RdI.below VY.out.2.2 b3) VZ.out.2.1 (RdI.below VZ.out.2.2 b3))
        have Q6 := Lib.hid (Q5.out.quiet b3)
        replace VX := Lib.hid (VX.out.below b3)
        clear b1 b2 b3 y0 y1 y2 y3 y4 y5 y6 y7 y8 y9 y10 y11 y12 yl z0 z1 z2 z3 z4 z5 z6 z7 z8 z9 z10 z11 z12 zl VY VZ Q5
        generalize (w5.alloc (.cells #[.int .i64 0, .int .i64 9] 3)).alloc (.cells (accC Y (.slice Ay Y.f6.length cy) ++ accC Z (.slice Az Z.f6.length cz)).toArray 36) = w6 at *
        refine (rjoin_any [0, 9] [Y, Z] (some ⟨w5.heap.size, 0, none⟩) 2 (some ⟨w5.heap.size + 1, 0, none⟩) 2 w6 HRI.out (by simp) HRA.out (by simp)).mono ?_
        rintro e w7 ⟨v, rfl, how, hb⟩
        obtain ⟨s, gd⟩ := Q6.out.one.gd Q6.out.bm Q6.out.len
        have hj : joinRes [0, 9] [Y, Z] = (X, 0) := by
          have e1 := flt_parts HM.out.1 HM.out.2 Q6.out.srt
          have g2 := flt_gd (S := a) (E := b) gd
          rw [e1, its_app] at g2
          rw [HX.out, HY.out, HZ.out, e1, its_app]
          exact g2.two
        rw [hj] at how ⊢
        have Q7 := Lib.hid (Q6.out.quiet hb)
        replace VX := Lib.hid (VX.out.below hb)
        obtain ⟨Aw, cw, rfl, hlw, hrw⟩ := how.reads
        have RW := Lib.hid (And.intro hlw hrw)
        have HXL := Lib.hid (show X.f6.length ≤ 9 from joinRes_len hj bm09)
        clear hb how hlw hrw hj gd Q6 HRI HRA HX HY HZ
        simp only [acV]
        go_wp2_with fail
        show Calls _ _ _ (w7.alloc (acO X (.slice Aw X.f6.length cw)))  _
        have hal : Below w7.heap.size w7 (w7.alloc (acO X (.slice Aw X.f6.length cw))) := (Below.refl _ _).alloc (Nat.le_refl _) _
        have VW := Lib.hid (AVar.new RW.out.1 RW.out.2)
        replace VX := Lib.hid (VX.out.below hal)
        have Q8 := Lib.hid (Q7.out.quiet hal)
        clear hal RW Q7
        generalize w7.alloc (acO X (.slice Aw X.f6.length cw)) = w8 at *
        generalize w7.heap.size = wb' at *
        refine (tsrange_any Q8.out b a).mono ?_
        rintro e w9 ⟨v, rfl, how, hb⟩
        rw [flt_back (show a ≤ b from Int.le_trans HM.out.1 HM.out.2), show joinA [0, 9] (its [0, 9] []) = ⟨0, 0, 0, 0, z34, z34, [0, 0, 0]⟩ from by kernel_rfl] at how ⊢
        have Q9 := Lib.hid (Q8.out.quiet hb)
        replace VX := Lib.hid (VX.out.below hb)
        replace VW := Lib.hid (VW.out.below hb)
        obtain ⟨An, cn, rfl, hln, hrn⟩ := how.reads
        clear hb how Q8 hln hrn
        simp only [acV, z34, List.length_cons, List.length_nil, Nat.zero_add, Nat.reduceAdd]
        have hal : Below w9.heap.size w9 (w9.alloc (acO ⟨0, 0, 0, 0, z34, z34, [0, 0, 0]⟩ (.slice An 3 cn))) := (Below.refl _ _).alloc (Nat.le_refl _) _
        have VN := Lib.hid (heap_alloc_new w9 (acO ⟨0, 0, 0, 0, z34, z34, [0, 0, 0]⟩ (.slice An 3 cn)))
        obtain ⟨x0, x1, x2, x3, x4, x5, x6, x7, x8, x9, x10, x11, x12, xl⟩ := acO_facts VX.out.1
        obtain ⟨y0, y1, y2, y3, y4, y5, y6, y7, y8, y9, y10, y11, y12, yl⟩ := acO_facts VW.out.1
        have hal2 := Lib.hid hal
        clear hal
        go_wp2_with fail
        show Calls _ _ #[acV X (.slice Ax X.f6.length cx), acV X (.slice Aw X.f6.length cw)] (w9.alloc (acO ⟨0, 0, 0, 0, z34, z34, [0, 0, 0]⟩ (.slice An 3 cn))) _
        replace VX := Lib.hid (VX.out.below hal2.out)
        replace VW := Lib.hid (VW.out.below hal2.out)
        have QA := Lib.hid (Q9.out.quiet hal2.out)
        clear x0 x1 x2 x3 x4 x5 x6 x7 x8 x9 x10 x11 x12 xl y0 y1 y2 y3 y4 y5 y6 y7 y8 y9 y10 y11 y12 yl hal2 Q9
        generalize w9.alloc (acO ⟨0, 0, 0, 0, z34, z34, [0, 0, 0]⟩ (.slice An 3 cn)) = wA at *
        generalize w9.heap.size = nb' at *
        refine (same_yes X Ax Aw cx cw wA VX.out.2.2 VX.out.2.1 VW.out.2.2 VW.out.2.1 (by have := HXL.out; omega)).mono ?_
        rintro e wB ⟨rfl, hb⟩
        have QB := Lib.hid (QA.out.quiet hb)
        obtain ⟨z0, z1, z2, z3, z4, z5, z6, z7, z8, z9, z10, z11, z12, zl⟩ := acO_facts (blk_below VN.out hb)
        clear hb QA VN
        go_wp2_with fail
        go_ret
        exact ⟨rfl, QB.out.bel⟩)
theorem tparts_walk (A : Option Addr) (l : List Int) (c : Nat) (fr sz ct : Int) (w : World) (hA : RdI w A l) (hc : l.length ≤ c) (hl : l.length * 8 ≤ 140737488351232) (_ : (Lit.int .i64 fr).wf = true) (_ : (Lit.int .i64 sz).wf = true) (_ : (Lit.int .i64 ct).wf = true) :
    Calls Try.prog 7 #[.slice A l.length c, .int .i64 fr, .int .i64 sz, .int .i64 ct] w fun e w' => e = .returned (.bool true) ∧ Below w.heap.size w w' := tparts_any A l c fr sz ct w hA hc (by omega)
end Go.Proofs.Ytfgabafbcephaaa.My

namespace Go.Proofs.Ytfgabafbcephaaa.My
open Go.RowKit Pa Go.Proofs.YtfgabafbcephaaaW.PrintWords

theorem rd_of_row {w : World} {x : Addr} {len cap : Nat} {zs : List Int} (hl : len ≤ cap) (hm : cap ≤ maxLen) (hz : zs.length = cap)
    (hc : ∀ i, i < zs.length → w.cell? (x.add i) = some (.int .i64 (zs.getD i 0))) (hw : ∀ n ∈ zs, (Lit.int .i64 n).wf = true) :
    ∃ l : List Int, len = l.length ∧ RdI w (some x) l ∧ ∀ n ∈ l, (Lit.int .i64 n).wf = true := by
  refine ⟨zs.take len, by rw [List.length_take]; omega, ⟨rfl, ?_, fun _ => ⟨x, rfl, fun j p hp => ⟨[.int .i64 p], rfl, rfl, fun i u hu => ?_⟩⟩⟩, fun n hn => hw n (List.mem_of_mem_take hn)⟩
  · rw [List.length_take]
    have h : maxLen = 9223372036854775807 := by simp [maxLen]
    omega
  · rw [show j * (Kd.int .i64).sz + i = j + i by rw [show (Kd.int .i64).sz = 1 from rfl, Nat.mul_one]]
    cases i with
    | zero =>
      simp at hu
      subst hu
      have hj := (List.getElem?_eq_some_iff.1 hp).1
      rw [List.length_take] at hj
      have h1 := hc j (by omega)
      rw [List.getElem?_take] at hp
      split at hp
      · rw [List.getD_eq_getElem?_getD, hp] at h1
        exact h1
      · cases hp
    | succ i => simp at hu
end Go.Proofs.Ytfgabafbcephaaa.My

namespace Go.Proofs.Ytfgabafbcephaaa.My
open Go.RowKit Go.ChangeShapes Go.WideShapes Go.Deep Go.Joins Pa Go.Proofs.YtfgabafbcephaaaW.PrintWords

section
variable {H : Type} {enc : TypeId × Value → H} {W : World} {fuel base : Nat} {spare : Nat → Bool} {held : Bool} {x : DataW H × List MemPlace}

theorem open_int {cs : List Value} (h : DataW.trod enc Try.prog W base spare held fuel 3 cs = some x) : ∃ n, cs = [.int .i64 n] ∧ (Lit.int .i64 n).wf = true := by
  obtain ⟨n, e, _, hw⟩ := DataW.trod_int Try.underlying3 h
  exact ⟨n, e, hw⟩
theorem open_row {A : Option Addr} {len cap : Nat} (h : DataW.trod enc Try.prog W base spare held fuel 22 [.slice A len cap] = some x) : ∃ l : List Int, len = l.length ∧ RdI W A l ∧ len ≤ cap ∧ ∀ n ∈ l, (Lit.int .i64 n).wf = true := by
  rcases open_ints Try.underlying22 Try.underlying3 (by kernel_rfl) h with ⟨hcs, _⟩ | ⟨x, l, c, zs, hcs, _, hl, hm, hz, _, hcell, hwz⟩
  · simp at hcs
    obtain ⟨rfl, rfl, rfl⟩ := hcs
    exact ⟨[], rfl, rdI_nil _, Nat.le_refl _, by simp⟩
  · simp at hcs
    obtain ⟨rfl, rfl, rfl⟩ := hcs
    have hzl : len ≤ zs.length := by rw [hz]; split <;> omega
    have hzc : zs.length ≤ cap := by rw [hz]; split <;> omega
    obtain ⟨l, e, hr, hw⟩ := rd_of_row hzl (Nat.le_trans hzc hm) rfl hcell hwz
    exact ⟨l, e, hr, hl, hw⟩
end
end Go.Proofs.Ytfgabafbcephaaa.My

namespace Go.Proofs.Ytfgabafbcephaaa.My
open Go.RowKit Pa Go.Proofs.YtfgabafbcephaaaW.PrintWords
set_option linter.unusedSimpArgs false

end Go.Proofs.Ytfgabafbcephaaa.My

namespace Go.Proofs.Ytfgabafbcephaaa.My
open Go.RowKit Go.ChangeShapes Go.WideShapes Go.Deep Go.Joins Pa Go.Proofs.YtfgabafbcephaaaW.PrintWords

section
variable {H : Type} {enc : TypeId × Value → H} {W : World} {fuel base : Nat} {spare : Nat → Bool} {held : Bool} {x : DataW H × List MemPlace}

end
end Go.Proofs.Ytfgabafbcephaaa.My
