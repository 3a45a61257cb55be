/- AccTies returns true: of like stamps the first argument's first, the last argument's last are told. No conditions. -/
import Derived.Test.YtggaefklcpbfnaaAccTiesP
import Derived.Test.YtggaefklcpbfnaaAccL
import Derived.Test.YtggaefklcpbfnaaAccFormsP
namespace Go.Proofs.Ytggaefklcpbfnaa
open Go.RowKit PAccs Go.Proofs.YtggaefklcpbfnaaW.PrintWords Go.Proofs.YtggaefklcpbfnaaW.PrintMore
attribute [local go_sem] max2_int min2_int max_two min_two
attribute [local go_sem high] eqA26
set_option linter.unusedSimpArgs false

def low8 (n : Int) : Int := bits .and .i64 n 255
theorem low8_b (n : Int) : 0 ≤ low8 n ∧ low8 n ≤ 255 := and_bound n 255 (by decide)
def tiesOf (l : List Int) : List S28 := (l.map low8).map tie
theorem ties_snoc {l : List Int} {k : Nat} (hk : k < l.length) : tiesOf (l.take (k + 1)) = tiesOf (l.take k) ++ [tie (low8 (l.getD k 0))] := by
  unfold tiesOf
  rw [List.take_succ_eq_append_getElem hk, List.map_append, List.map_append, List.getD_eq_getElem?_getD, List.getElem?_eq_getElem hk, Option.getD_some]
  rfl
theorem ties_len (l : List Int) : (tiesOf l).length = l.length := by simp [tiesOf]

theorem ties_get {l : List Int} {k i : Nat} (hk : k ≤ l.length) (hi : i < k) : (tiesOf (l.take k)).getD i z28 = tie (low8 (l.getD i 0)) := by
  unfold tiesOf
  rw [List.getD_eq_getElem?_getD, List.getElem?_map, List.getElem?_map, List.getElem?_take, if_pos hi, List.getD_eq_getElem?_getD, List.getElem?_eq_getElem (show i < l.length by omega)]
  rfl
/-- The first of so many, the others, the last one. -/
theorem ties_split {l : List Int} : ∀ {k : Nat}, 0 < k → k ≤ l.length → ∃ r : List Int, (l.take k).map low8 = low8 (l.getD 0 0) :: r ∧ r.getLastD (low8 (l.getD 0 0)) = low8 (l.getD (k - 1) 0) ∧ r.length + 1 = k
  | 0, h, _ => absurd h (by omega)
  | 1, _, hl => by
    refine ⟨[], ?_, rfl, rfl⟩
    cases l with
    | nil => simp at hl
    | cons a r => simp
  | k + 2, _, hl => by
    obtain ⟨r, h1, _, h3⟩ := ties_split (l := l) (k := k + 1) (by omega) (by omega)
    refine ⟨r ++ [low8 (l.getD (k + 1) 0)], ?_, ?_, by simp; omega⟩
    · rw [List.take_succ_eq_append_getElem (show k + 1 < l.length by omega), List.map_append, h1, List.getD_eq_getElem?_getD (i := k + 1), List.getElem?_eq_getElem (show k + 1 < l.length by omega), Option.getD_some]
      rfl
    · simp [List.getLastD_eq_getLast?]
theorem join_ties {l : List Int} {k : Nat} (h0 : 0 < k) (hk : k ≤ l.length) (h12 : k ≤ 12) : ∃ (s m1 m2 : Int) (hh : List Int), joinRes [] (tiesOf (l.take k)) = (⟨k, s, m1, m2, ⟨4, 7, 9, low8 (l.getD 0 0)⟩, ⟨4, 7, 9, low8 (l.getD (k - 1) 0)⟩, hh⟩, 0) := by
  obtain ⟨r, h1, h2, h3⟩ := ties_split h0 hk
  have hb : ∀ v ∈ (l.take k).map low8, 0 ≤ v ∧ v ≤ 255 := fun v hv => by
    obtain ⟨n, _, rfl⟩ := List.mem_map.1 hv
    exact low8_b n
  have ha := allm_tie hb (.inl rfl)
  have hc := cnt_tie ((l.take k).map low8)
  rw [List.length_map, List.length_take] at hc
  obtain ⟨t0, _, t4, t5⟩ := join_tie (low8 (l.getD 0 0)) r
  rw [← h1] at t0 t4 t5
  rw [h2] at t5
  unfold joinRes tiesOf
  rw [if_pos ha, if_neg (by omega)]
  generalize joinA [] (((l.take k).map low8).map tie) = o at *
  obtain ⟨o0, o1, o2, o3, o4, o5, o6⟩ := o
  simp only at t0 t4 t5
  subst t0 t4 t5
  exact ⟨o1, o2, o3, o6, by rw [show (1 : Int) + r.length = k by omega]⟩

theorem join_two {h l : Int} (hh : 0 ≤ h ∧ h ≤ 255) (hl : 0 ≤ l ∧ l ≤ 255) : ∃ (s m1 m2 : Int) (q : List Int), joinRes [] [tie h, tie l] = (⟨2, s, m1, m2, ⟨4, 7, 9, h⟩, ⟨4, 7, 9, l⟩, q⟩, 0) := by
  have hb : ∀ v ∈ [h, l], 0 ≤ v ∧ v ≤ 255 := fun v hv => by
    rcases List.mem_cons.1 hv with rfl | hv
    · exact hh
    · rw [List.mem_singleton.1 hv]
      exact hl
  have ha := allm_tie hb (.inl rfl)
  have hc := cnt_tie [h, l]
  obtain ⟨t0, _, t4, t5⟩ := join_tie h [l]
  have e : joinRes [] [tie h, tie l] = joinRes [] ([h, l].map tie) := rfl
  rw [e]
  unfold joinRes
  rw [if_pos ha, if_neg (by rw [hc]; simp)]
  generalize joinA [] ([h, l].map tie) = o at *
  obtain ⟨o0, o1, o2, o3, o4, o5, o6⟩ := o
  simp only at t0 t4 t5
  subst t0 t4 t5
  exact ⟨o1, o2, o3, o6, rfl⟩

set_option maxHeartbeats 8000000 in
set_option maxRecDepth 100000 in
theorem ties_any (A : Option Addr) (l : List Int) (c : Nat) (w : World) (hA : RdI w A l) (hl : l.length ≤ 140737488351232) :
    Calls Try.prog 15 #[.slice A l.length c] w fun e w' => e = .returned (.bool true) ∧ Below w.heap.size w w' := by
  have HA := Lib.hid hA
  clear hA
  go_enter Try.func15, Try.ntmps15
  go_wp2_with fail
  refine (awake_any _).mono ?_
  rintro e w1 ⟨rfl, hb⟩
  have HW := Lib.hid hb
  clear hb
  obtain ⟨kk, hmn, hkk, hk12⟩ : ∃ kk : Nat, (if (12 : Int) < (l.length : Int) then 12 else (l.length : Int)) = (kk : Int) ∧ kk ≤ l.length ∧ kk ≤ 12 := by
    by_cases h : (12 : Int) < l.length
    · exact ⟨12, by rw [if_pos h]; rfl, by omega, by omega⟩
    · exact ⟨l.length, by rw [if_neg h], by omega, by omega⟩
  go_wp2_with fail
  clear hmn
  go_loopw [3, 5] (fun v i wr => ∃ (k : Nat) (cs : List Value), i = .int .i64 k ∧ k ≤ kk ∧ Below w.heap.size w wr ∧ RowA wr v (tiesOf (l.take k)) cs ∧ Rel (∀ b, v.ownBlock = some b → w.heap.size ≤ b)) (fun _ i _ => kk - (intOf i).toNat)
  case atStart => exact ⟨0, [], rfl, by omega, HW.out, RowA.nil _, fun b hb => by simp [Value.ownBlock] at hb⟩
  case round =>
    obtain ⟨k, cs, rfl, hk, hb, hrow, hx⟩ := hrel
    have HB := Lib.hid hb
    have HRO := Lib.hid hrow
    have HX := Lib.hid hx
    clear hb hrow hx HW
    by_cases hlt : k < kk
    · have hd : decide ((k : Int) < kk) = true := decide_eq_true (by omega)
      obtain ⟨ad, rfl, e0⟩ := RdI.at_ (Kd.C_below HA.out HB.out) (show k < l.length by omega)
      have hsn := ties_snoc (show k < l.length by omega)
      have HSN := Lib.hid hsn
      have hlb := low8_b (l.getD k 0)
      have hle : bits .and .i64 (l.getD k 0) 255 = low8 (l.getD k 0) := rfl
      clear hsn
      generalize l.getD k 0 = n at *
      generalize low8 n = v8 at *
      obtain ⟨h81, h82⟩ := hlb
      go_wp2_with fail
      refine (item_any 4 7 9 v8 _).mono ?_
      rintro e w2 ⟨rfl, hb⟩
      replace HB := Lib.hid (HB.out.trans (hb.mono HB.out.size))
      replace HRO := Lib.hid (HRO.out.below hb)
      clear hb
      go_wp2_with fail
      refine (one_any ⟨4, 7, 9, v8⟩ [] none 0 _ (rdI_nil _) (by decide)).mono ?_
      rintro e w3 ⟨va, rfl, how, hb⟩
      rw [one_tie h81 h82] at how ⊢
      replace HB := Lib.hid (HB.out.trans (hb.mono HB.out.size))
      replace HRO := Lib.hid (HRO.out.below hb)
      obtain ⟨Aa, ca, rfl, hla, hra⟩ := how.reads
      have HOW := Lib.hid (own_weaken how (Nat.zero_le _))
      clear hb how
      have hb : Below w3.heap.size w3 (w3.alloc (acO (tie v8) (.slice Aa 1 ca))) := (Below.refl _ _).alloc (Nat.le_refl _) _
      have VA := Lib.hid (AVar.new (w := w3) (a := tie v8) hla hra)
      replace HOW := Lib.hid (Own.below HOW.out hb)
      replace HB := Lib.hid (HB.out.trans (hb.mono HB.out.size))
      replace HRO := Lib.hid (HRO.out.below hb)
      clear hb hla hra
      simp only [acV, tie, List.length_cons, List.length_nil, Nat.zero_add]
      go_wp2_with fail
      show Calls _ _ _ (w3.alloc (acO (tie v8) (.slice Aa 1 ca))) _
      change Hid (AVar (w3.alloc (acO (tie v8) (.slice Aa 1 ca))) _ _ _ _) at VA
      generalize w3.alloc (acO (tie v8) (.slice Aa 1 ca)) = w4 at *
      generalize w3.heap.size = ab at *
      refine (num_any _ _).mono ?_
      rintro e w' ⟨rfl, rfl⟩
      obtain ⟨a0, a1, a2, a3, a4, a5, a6, a7, a8, a9, a10, a11, a12, al⟩ := acO_facts VA.out.1
      simp only [tie, List.length_cons, List.length_nil, Nat.zero_add] at a0 a1 a2 a3 a4 a5 a6 a7 a8 a9 a10 a11 a12 al
      go_wp2_with (at_builtin; refine at_append _ _ _ rfl ?_)
      show AtAppend _ _ _ _ _ _ (w4.alloc (acO (tie v8) (.slice Aa 1 ca)))
      clear a0 a1 a2 a3 a4 a5 a6 a7 a8 a9 a10 a11 a12 al
      have hb : Below w4.heap.size w4 (w4.alloc (acO (tie v8) (.slice Aa 1 ca))) := (Below.refl _ _).alloc (Nat.le_refl _) _
      have hbk := heap_alloc_new w4 (acO (tie v8) (.slice Aa 1 ca))
      have hlen : (tiesOf (l.take k)).length ≤ 12 := by rw [ties_len, List.length_take]; omega
      refine RowA.append (.tmp 35) (.tmp 37) rfl rfl (HRO.out.below hb) rfl w4.heap.size (tie v8) (.slice Aa 1 ca) 1 rfl hbk (Own.below HOW.out hb) rfl (by omega) ?_
      rintro v1 w5 hr5 hg5 hat
      have hb5 : Below w.heap.size w w5 := (HB.out.trans (hb.mono HB.out.size)).grown hg5 (Nat.le_trans HB.out.size hb.size) (fun b hb' => HX.out b hb')
      have hx5 : ∀ b, v1.ownBlock = some b → w.heap.size ≤ b := fun b hb' => by
        rcases hat with h | h
        · exact HX.out b (h.symm.trans hb')
        · rw [hb'] at h
          have e1 : b = (w4.alloc (acO (tie v8) (.slice Aa 1 ca))).heap.size := by simpa using h
          have := HB.out.size
          have := hb.size
          omega
      have HR5 := Lib.hid hr5
      have HB5 := Lib.hid hb5
      have HX5 := Lib.hid hx5
      clear hr5 hb5 hx5 hg5 hat hb hbk hlen HRO HB HX HOW VA
      simp only [Act.put, List.setIfInBounds_toArray, List.set_cons_succ, List.set_cons_zero]
      go_wp2_with fail
      exact ⟨⟨k + 1, _, by go_num, by omega, HB5.out, by rw [HSN.out]; exact HR5.out, HX5.out⟩, by simp [intOf]; omega⟩
    · obtain rfl : k = kk := by omega
      have hd : decide ((k : Int) < k) = false := decide_eq_false (by omega)
      obtain ⟨A3, c3, rfl, hrd⟩ := HRO.out.reads
      have hlen : (tiesOf (l.take k)).length = k := by rw [ties_len, List.length_take]; omega
      by_cases hz : k = 0
      · subst hz
        go_wp2_with fail
        refine (join_any [] (tiesOf (l.take 0)) none 0 A3 c3 _ (rdI_nil _) (by decide) hrd (by omega)).mono ?_
        rintro e w2 ⟨vj, rfl, how, hb⟩
        have HB2 := Lib.hid (HB.out.trans (hb.mono HB.out.size))
        rw [show joinRes [] (tiesOf (l.take 0)) = ((⟨0, 0, 0, 0, ⟨0, 0, 0, 0⟩, ⟨0, 0, 0, 0⟩, [0]⟩ : S28), (0 : Int)) from by rw [List.take_zero]; rfl] at how ⊢
        obtain ⟨Aj, cj, rfl, hlj, hrj⟩ := how.reads
        have hal : Below w2.heap.size w2 (w2.alloc (acO ⟨0, 0, 0, 0, ⟨0, 0, 0, 0⟩, ⟨0, 0, 0, 0⟩, [0]⟩ (.slice Aj 1 cj))) := (Below.refl _ _).alloc (Nat.le_refl _) _
        have HB3 := Lib.hid (HB2.out.trans (hal.mono HB2.out.size))
        obtain ⟨a0, a1, a2, a3, a4, a5, a6, a7, a8, a9, a10, a11, a12, al⟩ := acO_facts (heap_alloc_new w2 (acO ⟨0, 0, 0, 0, ⟨0, 0, 0, 0⟩, ⟨0, 0, 0, 0⟩, [0]⟩ (.slice Aj 1 cj)))
        simp only [acO] at a0 a1 a2 a3 a4 a5 a6 a7 a8 a9 a10 a11 a12 al
        clear how hb hal hlj hrj HB HRO hrd
        simp only [acV, List.length_cons, List.length_nil, Nat.zero_add]
        go_wp2_with fail
        refine (num_any _ _).mono ?_
        rintro e w' ⟨rfl, rfl⟩
        go_wp2_with fail
        go_ret
        exact ⟨rfl, HB3.out⟩
      · obtain ⟨kp, hkp⟩ : ∃ kp, k = kp + 1 := ⟨k - 1, by omega⟩
        have HKP := Lib.hid hkp
        have hk1 : (k : Int) - 1 = (kp : Int) := by omega
        have hkb : ((k : Int) == 0) = false := beq_eq_false_iff_ne.2 (by omega)
        obtain ⟨s, m1, m2, hh, hj⟩ := join_ties (l := l) (k := k) (by omega) hkk hk12
        rw [show k - 1 = kp by omega] at hj
        have hg0 := ties_get (i := 0) hkk (by omega)
        have hgl := ties_get (i := kp) hkk (by omega)
        obtain ⟨h8, hh8⟩ : ∃ h8, low8 (l.getD 0 0) = h8 := ⟨_, rfl⟩
        obtain ⟨l8, hl8⟩ : ∃ l8, low8 (l.getD kp 0) = l8 := ⟨_, rfl⟩
        rw [hh8, hl8] at hj
        rw [hh8] at hg0
        rw [hl8] at hgl
        have HGET := Lib.hid (And.intro hg0 hgl)
        have HLOW := Lib.hid (And.intro hh8 hl8)
        have hp := join_any [] (tiesOf (l.take k)) none 0 A3 c3 wr (rdI_nil _) (by decide) hrd (by omega)
        rw [hj, hlen] at hp
        have HP := Lib.hid hp
        have HRD := Lib.hid hrd
        have HLEN := Lib.hid hlen
        have hkl : kp < k := by omega
        clear hrd hp hj hg0 hgl hh8 hl8 hz hkp
        go_wp2_with fail
        clear hlen
        refine HP.out.mono ?_
        rintro e w2 ⟨vj, rfl, how, hb⟩
        obtain ⟨Aj, cj, rfl, hlj, hrj⟩ := how.reads
        have hal : Below w2.heap.size w2 (w2.alloc (acO ⟨(k : Int), s, m1, m2, ⟨4, 7, 9, h8⟩, ⟨4, 7, 9, l8⟩, hh⟩ (.slice Aj hh.length cj))) := (Below.refl _ _).alloc (Nat.le_refl _) _
        have VO := Lib.hid (AVar.new (w := w2) (a := ⟨(k : Int), s, m1, m2, ⟨4, 7, 9, h8⟩, ⟨4, 7, 9, l8⟩, hh⟩) hlj hrj)
        have HB3 := Lib.hid ((HB.out.trans (hb.mono HB.out.size)).trans (hal.mono (Nat.le_trans HB.out.size hb.size)))
        have HR3 := Lib.hid ((HRD.out.below hb).below hal)
        clear how hb hal hlj hrj HB HRO HRD HP
        simp only [acV]
        go_wp2_with fail
        show Code.wp _ _ _ _ (w2.alloc (acO ⟨(k : Int), s, m1, m2, ⟨4, 7, 9, h8⟩, ⟨4, 7, 9, l8⟩, hh⟩ (.slice Aj hh.length cj)))
        change Hid (AVar (w2.alloc (acO ⟨(k : Int), s, m1, m2, ⟨4, 7, 9, h8⟩, ⟨4, 7, 9, l8⟩, hh⟩ (.slice Aj hh.length cj))) _ _ _ _) at VO
        generalize w2.alloc (acO ⟨(k : Int), s, m1, m2, ⟨4, 7, 9, h8⟩, ⟨4, 7, 9, l8⟩, hh⟩ (.slice Aj hh.length cj)) = w3 at *
        generalize w2.heap.size = ob at *
        obtain ⟨b, o, rfl, hbs, hcells⟩ := HR3.out (by rw [HLEN.out]; omega)
        have hc0 := hcells 0 (by rw [HLEN.out]; omega)
        have hcl := hcells kp (by rw [HLEN.out]; omega)
        rw [HGET.out.1] at hc0
        rw [HGET.out.2] at hcl
        obtain ⟨A0, c0, e0, e1, e2, e3, e4, e5, e6, e7, e8, e9, e10, e11, e12, hl0, hr0⟩ := hc0
        obtain ⟨A9, c9, f0, f1, f2, f3, f4, f5, f6, f7, f8, f9, f10, f11, f12, hl9, hr9⟩ := hcl
        simp only [tie, Nat.zero_mul, Nat.add_zero, List.length_cons, List.length_nil, Nat.zero_add] at e0 e1 e2 e3 e4 e5 e6 e7 e8 e9 e10 e11 e12 f0 f1 f2 f3 f4 f5 f6 f7 f8 f9 f10 f11 f12
        have HH0 := Lib.hid (And.intro hl0 hr0)
        have HH9 := Lib.hid (And.intro hl9 hr9)
        clear hcells hl0 hr0 hl9 hr9
        refine Txt.wp_region_mix (by kernel_rfl) (by kernel_rfl) (fun HB => ?_)
        repeat (first
          | (refine Txt.mix_p (by rfl) rfl rfl (fun K hK => ?_); go_big_quiet_op; refine hK _ ?_; clear hK K)
          | (refine Txt.mix_re (by rfl) (by decide +kernel) (by rfl) (by rfl) (by go_simp) HB (fun K hK => ?_); go_big_quiet_op; refine hK _ ?_; clear hK K)
          | (refine Txt.mix_rl (by rfl) (by decide +kernel) (by rfl) (by rfl) (by go_simp) HB (fun K hK => ?_); go_big_quiet_op; refine hK _ ?_; clear hK K)
          | (refine Txt.mix_pass (by rfl) (by rfl) ?_; simp only [List.set_cons_succ, List.set_cons_zero]))
        refine Txt.mix_m (fun g => .slice (some ⟨g, 0, none⟩) 2 2) (.cells #[.int .i64 1, .int .i64 h8, .int .i64 h8, .int .i64 h8, .int .i64 4, .int .i64 7, .int .i64 9, .int .i64 h8, .int .i64 4, .int .i64 7, .int .i64 9, .int .i64 h8, .slice A0 1 c0, .int .i64 1, .int .i64 l8, .int .i64 l8, .int .i64 l8, .int .i64 4, .int .i64 7, .int .i64 9, .int .i64 l8, .int .i64 4, .int .i64 7, .int .i64 9, .int .i64 l8, .slice A9 1 c9] 28) (by rfl) (by decide +kernel) (fun w1 => by go_simp) HB ?_
        intro pb w4 hb2 hg2 ho2
        replace HB := HB.trans hb2
        have hrd2 : RdA w4 (some ⟨pb, 0, none⟩) [tie h8, tie l8] := rdA_two (x := tie h8) (y := tie l8) ho2 HH0.out.1 (Kd.C_below HH0.out.2 HB.undrew) HH9.out.1 (Kd.C_below HH9.out.2 HB.undrew)
        have HRD2 := Lib.hid hrd2
        clear hrd2 hb2 hg2 ho2
        simp only [Act.put, List.setIfInBounds_toArray, List.set_cons_succ, List.set_cons_zero]
        repeat (first
          | (refine Txt.mix_p (by rfl) rfl rfl (fun K hK => ?_); go_big_quiet_op; refine hK _ ?_; clear hK K)
          | (refine Txt.mix_re (by rfl) (by decide +kernel) (by rfl) (by rfl) (by go_simp) HB (fun K hK => ?_); go_big_quiet_op; refine hK _ ?_; clear hK K)
          | (refine Txt.mix_rl (by rfl) (by decide +kernel) (by rfl) (by rfl) (by go_simp) HB (fun K hK => ?_); go_big_quiet_op; refine hK _ ?_; clear hK K)
          | (refine Txt.mix_pass (by rfl) (by rfl) ?_; simp only [List.set_cons_succ, List.set_cons_zero]))
        refine Txt.mix_c (by rfl) (by decide +kernel) HB ?_
        intro w5 hw5 K hK
        replace HRD2 := Lib.hid (HRD2.out.below hw5)
        replace HB := HB.trans hw5
        clear hw5
        go_wp2_with fail
        have hb8 := low8_b (l.getD 0 0)
        have hb9 := low8_b (l.getD kp 0)
        rw [HLOW.out.1] at hb8
        rw [HLOW.out.2] at hb9
        obtain ⟨s2, n1, n2, q2, hj2⟩ := join_two hb8 hb9
        have hp2 := join_any [] [tie h8, tie l8] none 0 (some ⟨pb, 0, none⟩) 2 w5 (rdI_nil _) (by decide) HRD2.out (by simp)
        rw [hj2] at hp2
        clear hb8 hb9 hj2
        refine hp2.mono ?_
        rintro e w6 ⟨vj2, rfl, how2, hb⟩
        obtain ⟨A2, c2, rfl, hl2, hr2⟩ := how2.reads
        refine hK _ _ ⟨hb, ?_⟩
        replace HB := HB.trans hb
        have HQ2 := Lib.hid (And.intro hl2 hr2)
        clear hK K hb how2 hp2 hl2 hr2
        simp only [acV]
        repeat (first
          | (refine Txt.mix_p (by rfl) rfl rfl (fun K hK => ?_); go_big_quiet_op; refine hK _ ?_; clear hK K)
          | (refine Txt.mix_re (by rfl) (by decide +kernel) (by rfl) (by rfl) (by go_simp) HB (fun K hK => ?_); go_big_quiet_op; refine hK _ ?_; clear hK K)
          | (refine Txt.mix_rl (by rfl) (by decide +kernel) (by rfl) (by rfl) (by go_simp) HB (fun K hK => ?_); go_big_quiet_op; refine hK _ ?_; clear hK K)
          | (refine Txt.mix_pass (by rfl) (by rfl) ?_; simp only [List.set_cons_succ, List.set_cons_zero]))
        refine Txt.mix_m (fun g => .pointer (some ⟨g, 0, none⟩)) (acO z28 (.slice none 0 0)) (by rfl) (by decide +kernel) (fun w1 => by unfold acO; go_simp; rfl) HB ?_
        intro rb w7 hb7 hg7 ho7
        replace HB := HB.trans hb7
        have hrb : w3.heap.size ≤ rb := hg7
        have hob := blk_lt VO.out.1
        simp only [Act.put, List.setIfInBounds_toArray, List.set_cons_succ, List.set_cons_zero]
        repeat (first
          | (refine Txt.mix_p (by rfl) rfl rfl (fun K hK => ?_); go_big_quiet_op; refine hK _ ?_; clear hK K)
          | (refine Txt.mix_re (by rfl) (by decide +kernel) (by rfl) (by rfl) (by go_simp) HB (fun K hK => ?_); go_big_quiet_op; refine hK _ ?_; clear hK K)
          | (refine Txt.mix_rl (by rfl) (by decide +kernel) (by rfl) (by rfl) (by go_simp) HB (fun K hK => ?_); go_big_quiet_op; refine hK _ ?_; clear hK K)
          | (refine Txt.mix_pass (by rfl) (by rfl) ?_; simp only [List.set_cons_succ, List.set_cons_zero]))
        refine Txt.mix_a (by rfl) (by decide +kernel) (fun K hK => ?_)
        obtain ⟨z0, z1, z2, z3, z4, z5, z6, z7, z8, z9, z10, z11, z12, zl⟩ := acO_facts ho7
        have hf := fun j => blk_free ho7 j
        go_wp2_with fail
        clear z0 z1 z2 z3 z4 z5 z6 z7 z8 z9 z10 z11 z12 zl hf
        show Txt.wpMix _ _ _ _ _ _ _ (putA w7 rb ⟨2, s2, n1, n2, ⟨4, 7, 9, h8⟩, ⟨4, 7, 9, l8⟩, q2⟩ (.slice A2 q2.length c2))
        have VR := Lib.hid (putA_blk (a := ⟨2, s2, n1, n2, ⟨4, 7, 9, h8⟩, ⟨4, 7, 9, l8⟩, q2⟩) (v := (.slice A2 q2.length c2)) ho7)
        have hch := putA_chg w7 rb ⟨2, s2, n1, n2, ⟨4, 7, 9, h8⟩, ⟨4, 7, 9, l8⟩, q2⟩ (.slice A2 q2.length c2)
        have VO8 := Lib.hid (hch.obj (blk_below VO.out.1 HB.undrew) (by omega))
        have HB8 := Lib.hid (Chg.base (HB3.out.trans (HB.undrew.mono HB3.out.size)) hch (Nat.le_trans HB3.out.size HB.undrew.size) (fun i hi => by have := HB3.out.size; omega))
        clear hch ho7 hb7 hg7 HB VO HQ2 HRD2 HH0 HH9 HB3 HR3
        generalize putA w7 rb ⟨2, s2, n1, n2, ⟨4, 7, 9, h8⟩, ⟨4, 7, 9, l8⟩, q2⟩ (.slice A2 q2.length c2) = w8 at *
        repeat (first
          | (refine Txt.mix_p (by rfl) rfl rfl (fun K hK => ?_); go_big_quiet_op; refine hK _ ?_; clear hK K)
          | (refine Txt.mix_re (by rfl) (by decide +kernel) (by rfl) (by rfl) (by go_simp) HB (fun K hK => ?_); go_big_quiet_op; refine hK _ ?_; clear hK K)
          | (refine Txt.mix_rl (by rfl) (by decide +kernel) (by rfl) (by rfl) (by go_simp) HB (fun K hK => ?_); go_big_quiet_op; refine hK _ ?_; clear hK K)
          | (refine Txt.mix_pass (by rfl) (by rfl) ?_; simp only [List.set_cons_succ, List.set_cons_zero]))
        refine Txt.mix_nil ?_
        go_wp2_with fail
        have HHB := HB8
        obtain ⟨ad, rfl, g0⟩ := RdI.at_ (Kd.C_below HA.out HB8.out) (show 0 < l.length by omega)
        obtain ⟨ad2, h2, g9⟩ := RdI.at_ (Kd.C_below HA.out HB8.out) (show kp < l.length by omega)
        injection h2 with h2
        subst h2
        have g00 : w8.cell? ad = some (.int .i64 (l.getD 0 0)) := by
          have e : ad.add 0 = ad := by unfold Addr.add; split <;> simp_all
          rwa [e] at g0
        have hl0 : bits .and .i64 (l.getD 0 0) 255 = h8 := HLOW.out.1
        have hl9 : bits .and .i64 (l.getD kp 0) 255 = l8 := HLOW.out.2
        have hlen9 : kp < l.length := by omega
        have hk1 : (k : Int) - 1 = (kp : Int) := by have := HKP.out; omega
        generalize l.getD 0 0 = x0 at *
        generalize l.getD kp 0 = x9 at *
        obtain ⟨a0, a1, a2, a3, a4, a5, a6, a7, a8, a9, a10, a11, a12, al⟩ := acO_facts VO8.out
        obtain ⟨b0, b1, b2, b3, b4, b5, b6, b7, b8, b9, b10, b11, b12, bl⟩ := acO_facts VR.out

        refine Txt.wp_region_mix (by kernel_rfl) (by kernel_rfl) (fun HB => ?_)
        repeat (first
          | (refine Txt.mix_p (by rfl) rfl rfl (fun K hK => ?_); go_big_quiet_op; refine hK _ ?_; clear hK K)
          | (refine Txt.mix_re (by rfl) (by decide +kernel) (by rfl) (by rfl) (by go_simp) HB (fun K hK => ?_); go_big_quiet_op; refine hK _ ?_; clear hK K)
          | (refine Txt.mix_rl (by rfl) (by decide +kernel) (by rfl) (by rfl) (by go_simp) HB (fun K hK => ?_); go_big_quiet_op; refine hK _ ?_; clear hK K)
          | (refine Txt.mix_pass (by rfl) (by rfl) ?_; simp only [List.set_cons_succ, List.set_cons_zero]))
        refine Txt.mix_c (by rfl) (by decide +kernel) HB ?_
        intro wN hw1 K hK
        replace HB := HB.trans hw1
        clear hw1
        go_wp2_with fail
        refine (num_any _ _).mono ?_
        rintro e w' ⟨rfl, rfl⟩
        refine hK _ _ ⟨Txt.Bw.refl _, ?_⟩
        clear hK K
        repeat (first
          | (refine Txt.mix_p (by rfl) rfl rfl (fun K hK => ?_); go_big_quiet_op; refine hK _ ?_; clear hK K)
          | (refine Txt.mix_re (by rfl) (by decide +kernel) (by rfl) (by rfl) (by go_simp) HB (fun K hK => ?_); go_big_quiet_op; refine hK _ ?_; clear hK K)
          | (refine Txt.mix_rl (by rfl) (by decide +kernel) (by rfl) (by rfl) (by go_simp) HB (fun K hK => ?_); go_big_quiet_op; refine hK _ ?_; clear hK K)
          | (refine Txt.mix_pass (by rfl) (by rfl) ?_; simp only [List.set_cons_succ, List.set_cons_zero]))
        refine Txt.mix_c (by rfl) (by decide +kernel) HB ?_
        intro wN hw1 K hK
        replace HB := HB.trans hw1
        clear hw1
        go_wp2_with fail
        refine (num_any _ _).mono ?_
        rintro e w' ⟨rfl, rfl⟩
        refine hK _ _ ⟨Txt.Bw.refl _, ?_⟩
        clear hK K
        repeat (first
          | (refine Txt.mix_p (by rfl) rfl rfl (fun K hK => ?_); go_big_quiet_op; refine hK _ ?_; clear hK K)
          | (refine Txt.mix_re (by rfl) (by decide +kernel) (by rfl) (by rfl) (by go_simp) HB (fun K hK => ?_); go_big_quiet_op; refine hK _ ?_; clear hK K)
          | (refine Txt.mix_rl (by rfl) (by decide +kernel) (by rfl) (by rfl) (by go_simp) HB (fun K hK => ?_); go_big_quiet_op; refine hK _ ?_; clear hK K)
          | (refine Txt.mix_pass (by rfl) (by rfl) ?_; simp only [List.set_cons_succ, List.set_cons_zero]))
        refine Txt.mix_nil ?_
        go_wp2_with fail
        go_ret
        exact ⟨rfl, HHB.out.trans (HB.undrew.mono HHB.out.size)⟩
end Go.Proofs.Ytggaefklcpbfnaa
