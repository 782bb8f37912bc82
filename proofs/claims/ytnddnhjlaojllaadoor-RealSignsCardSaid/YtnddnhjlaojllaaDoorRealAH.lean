/-
  float.Text whole.
-/
import Derived.Test.YtnddnhjlaojllaaDoorRealAG
namespace Go.Proofs.YtnddnhjlaojllaaDoor
open Go.RowKit
set_option linter.unusedVariables false

theorem repeat_zero : ∀ c, Lib.repeatL (⟨#[48]⟩ : ByteArray).data.toList c = List.replicate c 48
  | 0 => rfl
  | c + 1 => by
    show [48] ++ Lib.repeatL (⟨#[48]⟩ : ByteArray).data.toList c = _
    rw [repeat_zero c]
    rfl
/-- What Text hands back. -/
def TextPost (w : World) (l : Bt) (e : Ending) (w' : World) : Prop := ∃ T : ByteArray, e = .returned (.string T) ∧ T.data.toList = l ∧ Below w.heap.size w w'
theorem text_nan {x : Nat} (h : nanB x = true) : textF x = [110, 97, 110] := by unfold textF; rw [if_pos h]
theorem text_rest {x : Nat} (h : nanB x = false) (h1 : x ≠ 9218868437227405312) (h2 : x ≠ 18442240474082181120) (h3 : x ≠ 9223372036854775808) :
    textF x = if rung x < 4831355200913801216 ∧ wholeB (rung x) = true then Lib.itoa (sv (sgn x) (intR (rung x))) else [48, 120] ++ hexK 16 x := by
  unfold textF
  rw [if_neg (by rw [h]; decide), if_neg h1, if_neg h2, if_neg h3]
theorem zero_word {x : Nat} (hx : x < 18446744073709551616) (h : rung x = 0) (h3 : x ≠ 9223372036854775808) : sgn x = false := by
  cases hs : sgn x with
  | false => rfl
  | true =>
    have := word_eq hx
    rw [h, hs] at this
    exact absurd this.symm h3
set_option maxHeartbeats 16000000 in
theorem text_any (x : Nat) (hx : x < 18446744073709551616) (w : World) (htab : Tabs w) : Calls Tryd.prog 16 #[.int .u64 x] w (TextPost w (textF x)) := by
  have hf := run_from
  have HXX := Lib.hid hx
  obtain ⟨L, hL⟩ : ∃ L, L = textF x := ⟨_, rfl⟩
  rw [← hL]
  by_cases n : nanB x = true
  · have HN := Lib.hid n
    have HT := Lib.hid (show L = [110, 97, 110] from hL.trans (text_nan n))
    clear n hx hL
    go_enter Tryd.func16, Tryd.ntmps16
    go_wp2_with fail
    refine (isNaN_any x _).mono ?_
    rintro e w1 ⟨rfl, rfl⟩
    rw [HN.out]
    go_wp2_with fail
    go_ret
    refine ⟨_, rfl, ?_, Below.refl _ _⟩
    rw [HT.out]
  have n' : nanB x = false := by simpa using n
  have HN := Lib.hid n'
  by_cases c1 : x = 9218868437227405312
  · have H1 := Lib.hid (show gtB x 9218868437227405311 = true by rw [inf_up hx n']; exact decide_eq_true c1)
    have HT := Lib.hid (show L = [105, 110, 102] by rw [hL]; unfold textF; rw [if_neg n, if_pos c1])
    clear n n' hx hL c1
    go_enter Tryd.func16, Tryd.ntmps16
    go_wp2_with fail
    refine (isNaN_any x _).mono ?_
    rintro e w1 ⟨rfl, rfl⟩
    rw [HN.out]
    go_wp2_with fail
    refine (isInf_pos x _).mono ?_
    rintro e w1 ⟨rfl, rfl⟩
    rw [H1.out]
    go_wp2_with fail
    go_ret
    refine ⟨_, rfl, ?_, Below.refl _ _⟩
    rw [HT.out]
  have H1 := Lib.hid (show gtB x 9218868437227405311 = false by rw [inf_up hx n']; exact decide_eq_false c1)
  by_cases c2 : x = 18442240474082181120
  · have H2 := Lib.hid (show gtB (Op.negFloat .f64 x) 9218868437227405311 = true by rw [inf_low hx n']; exact decide_eq_true c2)
    have HT := Lib.hid (show L = [45, 105, 110, 102] by rw [hL]; unfold textF; rw [if_neg n, if_neg c1, if_pos c2])
    clear n n' hx hL c1 c2
    go_enter Tryd.func16, Tryd.ntmps16
    go_wp2_with fail
    refine (isNaN_any x _).mono ?_
    rintro e w1 ⟨rfl, rfl⟩
    rw [HN.out]
    go_wp2_with fail
    refine (isInf_pos x _).mono ?_
    rintro e w1 ⟨rfl, rfl⟩
    rw [H1.out]
    go_wp2_with fail
    refine (isInf_neg x _).mono ?_
    rintro e w1 ⟨rfl, rfl⟩
    rw [H2.out]
    go_wp2_with fail
    go_ret
    refine ⟨_, rfl, ?_, Below.refl _ _⟩
    rw [HT.out]
  have H2 := Lib.hid (show gtB (Op.negFloat .f64 x) 9218868437227405311 = false by rw [inf_low hx n']; exact decide_eq_false c2)
  by_cases c3 : x = 9223372036854775808
  · have e0 : (FloatKind.f64.format.order x 0 == some .eq) = true := (zero_test hx n').trans (by rw [c3]; decide +kernel)
    have HS := Lib.hid (show sgn x = true by rw [c3]; decide +kernel)
    have HT := Lib.hid (show L = [45, 48] by rw [hL]; unfold textF; rw [if_neg n, if_neg c1, if_neg c2, if_pos c3])
    clear n n' hx hL c1 c2 c3
    go_enter Tryd.func16, Tryd.ntmps16
    go_wp2_with fail
    refine (isNaN_any x _).mono ?_
    rintro e w1 ⟨rfl, rfl⟩
    rw [HN.out]
    go_wp2_with fail
    refine (isInf_pos x _).mono ?_
    rintro e w1 ⟨rfl, rfl⟩
    rw [H1.out]
    go_wp2_with fail
    refine (isInf_neg x _).mono ?_
    rintro e w1 ⟨rfl, rfl⟩
    rw [H2.out]
    go_wp2_with fail
    refine (signbit_any x _ HXX.out).mono ?_
    rintro e w1 ⟨rfl, rfl⟩
    rw [HS.out]
    go_wp2_with fail
    go_ret
    refine ⟨_, rfl, ?_, Below.refl _ _⟩
    rw [HT.out]
  have hrest := text_rest n' c1 c2 c3
  have hst := small_test n'
  by_cases c4 : rung x < 4831355200913801216
  · have HSM := Lib.hid c4
    have g1 : (FloatKind.f64.format.order x 14054727237768577024 == some .gt) = true := by
      rw [decide_eq_true c4, Bool.and_eq_true] at hst; exact hst.1
    have g2 : (FloatKind.f64.format.order x 4831355200913801216 == some .lt) = true := by
      rw [decide_eq_true c4, Bool.and_eq_true] at hst; exact hst.2
    by_cases c5 : wholeB (rung x) = true
    · have HW := Lib.hid c5
      obtain ⟨z, hz⟩ : ∃ z, z = sv (sgn x) (intR (rung x)) := ⟨_, rfl⟩
      have HT := Lib.hid (show L = Lib.itoa z by rw [hL, hrest, if_pos ⟨c4, c5⟩, hz])
      have HZ := Lib.hid (show z.natAbs < 9007199254740992 by rw [hz, sv_natAbs2]; exact intR_lt _)
      have hcv : ∀ w, (convert 47 2 (.float .f64 x)).run Tryd.prog w = .ok (.int .i64 z) w := fun w => run_convert_float_int w 47 2 .f64 .i64 x z (by kernel_rfl) (by kernel_rfl) (by rw [hz]; exact int_val c4)
      by_cases c6 : rung x = 0
      · have e0 : (FloatKind.f64.format.order x 0 == some .eq) = true := (zero_test hx n').trans (decide_eq_true c6)
        have HS := Lib.hid (zero_word hx c6 c3)
        clear n n' hx hL c1 c2 c3 c4 c5 c6 hrest hst hz
        go_enter Tryd.func16, Tryd.ntmps16
        go_wp2_with fail
        refine (isNaN_any x _).mono ?_
        rintro e w1 ⟨rfl, rfl⟩
        rw [HN.out]
        go_wp2_with fail
        refine (isInf_pos x _).mono ?_
        rintro e w1 ⟨rfl, rfl⟩
        rw [H1.out]
        go_wp2_with fail
        refine (isInf_neg x _).mono ?_
        rintro e w1 ⟨rfl, rfl⟩
        rw [H2.out]
        go_wp2_with fail
        refine (signbit_any x _ HXX.out).mono ?_
        rintro e w1 ⟨rfl, rfl⟩
        rw [HS.out]
        go_wp2_with fail
        refine (trunc_any x HSM.out _).mono ?_
        rintro e w1 ⟨rfl, rfl⟩
        have HTR := Lib.hid (show (FloatKind.f64.format.order x (truncA x) == some .eq) = true from (trunc_same HSM.out).trans HW.out)
        obtain ⟨tr, htr⟩ : ∃ tr, tr = truncA x := ⟨_, rfl⟩
        rw [← htr] at HTR ⊢
        have htq := HTR.out
        clear htr HTR
        go_wp2_with fail
        refine (formatInt_10 z HZ.out _ htab).mono ?_
        rintro e w1 ⟨rfl, hb⟩
        have HB := Lib.hid hb
        clear hb
        go_wp2_with fail
        go_ret
        refine ⟨_, rfl, ?_, HB.out⟩
        rw [HT.out]
      · have e0 : (FloatKind.f64.format.order x 0 == some .eq) = false := (zero_test hx n').trans (decide_eq_false c6)
        clear n n' hx hL c1 c2 c3 c4 c5 c6 hrest hst hz
        go_enter Tryd.func16, Tryd.ntmps16
        go_wp2_with fail
        refine (isNaN_any x _).mono ?_
        rintro e w1 ⟨rfl, rfl⟩
        rw [HN.out]
        go_wp2_with fail
        refine (isInf_pos x _).mono ?_
        rintro e w1 ⟨rfl, rfl⟩
        rw [H1.out]
        go_wp2_with fail
        refine (isInf_neg x _).mono ?_
        rintro e w1 ⟨rfl, rfl⟩
        rw [H2.out]
        go_wp2_with fail
        refine (trunc_any x HSM.out _).mono ?_
        rintro e w1 ⟨rfl, rfl⟩
        have HTR := Lib.hid (show (FloatKind.f64.format.order x (truncA x) == some .eq) = true from (trunc_same HSM.out).trans HW.out)
        obtain ⟨tr, htr⟩ : ∃ tr, tr = truncA x := ⟨_, rfl⟩
        rw [← htr] at HTR ⊢
        have htq := HTR.out
        clear htr HTR
        go_wp2_with fail
        refine (formatInt_10 z HZ.out _ htab).mono ?_
        rintro e w1 ⟨rfl, hb⟩
        have HB := Lib.hid hb
        clear hb
        go_wp2_with fail
        go_ret
        refine ⟨_, rfl, ?_, HB.out⟩
        rw [HT.out]
    · have HW := Lib.hid (show wholeB (rung x) = false by simpa using c5)
      have HT := Lib.hid (show L = [48, 120] ++ hexK 16 x by rw [hL, hrest, if_neg (fun h => c5 h.2)])
      have c6 : ¬ rung x = 0 := fun h => c5 (by rw [h]; decide +kernel)
      have e0 : (FloatKind.f64.format.order x 0 == some .eq) = false := (zero_test hx n').trans (decide_eq_false c6)
      clear n n' hx hL c1 c2 c3 c4 c5 c6 hrest hst
      go_enter Tryd.func16, Tryd.ntmps16
      go_wp2_with fail
      refine (isNaN_any x _).mono ?_
      rintro e w1 ⟨rfl, rfl⟩
      rw [HN.out]
      go_wp2_with fail
      refine (isInf_pos x _).mono ?_
      rintro e w1 ⟨rfl, rfl⟩
      rw [H1.out]
      go_wp2_with fail
      refine (isInf_neg x _).mono ?_
      rintro e w1 ⟨rfl, rfl⟩
      rw [H2.out]
      go_wp2_with fail
      refine (trunc_any x HSM.out _).mono ?_
      rintro e w1 ⟨rfl, rfl⟩
      have HTR := Lib.hid (show (FloatKind.f64.format.order x (truncA x) == some .eq) = false from (trunc_same HSM.out).trans HW.out)
      obtain ⟨tr, htr⟩ : ∃ tr, tr = truncA x := ⟨_, rfl⟩
      rw [← htr] at HTR ⊢
      have htq := HTR.out
      clear htr HTR
      go_wp2_with fail
      refine (formatUint_16 x HXX.out _ htab.tz).mono ?_
      rintro e w1 ⟨rfl, hb⟩
      have HB := Lib.hid hb
      obtain ⟨hpl, hpp⟩ := hex_pad 15 x (show x < 16 ^ 16 from HXX.out)
      obtain ⟨n, hn⟩ : ∃ n, n = (hexS x).length := ⟨_, rfl⟩
      rw [← hn] at hpl hpp
      obtain ⟨SB, hSB⟩ : ∃ SB : ByteArray, SB = ⟨(hexS x).toArray⟩ := ⟨_, rfl⟩
      rw [← hSB]
      have hsz : SB.size = n := by rw [hSB, hn]; simp [ByteArray.size]
      have HD := Lib.hid (show SB.data.toList = hexS x by rw [hSB])
      have HPP := Lib.hid hpp
      have HSZ := Lib.hid hsz
      have hn16 : n ≤ 16 := hpl
      have izs : (SB.size : Int) = (n : Int) := by omega
      have ew : IntKind.i64.wrap (16 - (n : Int)) = ((16 - n : Nat) : Int) := by rw [IntWalk.i64_in _ (by omega)]; omega
      clear hb hpl hpp hSB hn hsz
      go_wp2_with fail
      refine (Tryd.strings_Repeat ⟨#[48]⟩ (16 - n) _ (by omega) (by show 1 * (16 - n) ≤ _; omega)).mono ?_
      rintro e w2 ⟨rfl, hb⟩
      have HB2 := Lib.hid (HB.out.trans (hb.mono HB.out.size))
      obtain ⟨RB, hRB⟩ : ∃ RB : ByteArray, RB = ⟨(Lib.repeatL (⟨#[48]⟩ : ByteArray).data.toList (16 - n)).toArray⟩ := ⟨_, rfl⟩
      rw [← hRB]
      have hrd : RB.data.toList = List.replicate (16 - n) 48 := by rw [hRB]; exact repeat_zero _
      have hrs : RB.size ≤ 16 := by rw [Lib.size_eq, hrd, List.length_replicate]; omega
      have hss : SB.size ≤ 16 := by rw [HSZ.out]; omega
      have HRD := Lib.hid hrd
      clear hb hRB hrd
      go_wp2_with fail
      go_ret
      refine ⟨_, rfl, ?_, HB2.out⟩
      rw [HT.out, ← HPP.out, ba_app, ba_app, HRD.out, HD.out, List.append_assoc]
  · have HT := Lib.hid (show L = [48, 120] ++ hexK 16 x by rw [hL, hrest, if_neg (fun h => c4 h.1)])
    have c6 : ¬ rung x = 0 := fun h => c4 (by rw [h]; decide)
    have e0 : (FloatKind.f64.format.order x 0 == some .eq) = false := (zero_test hx n').trans (decide_eq_false c6)
    rw [decide_eq_false c4] at hst
    have hst2 : (FloatKind.f64.format.order x 14054727237768577024 == some .gt) = false ∨ (FloatKind.f64.format.order x 14054727237768577024 == some .gt) = true ∧ (FloatKind.f64.format.order x 4831355200913801216 == some .lt) = false := by
      cases h : (FloatKind.f64.format.order x 14054727237768577024 == some .gt) with
      | false => exact Or.inl rfl
      | true =>
        refine Or.inr ⟨rfl, ?_⟩
        have h1 : gtB x 14054727237768577024 = true := h
        rw [h1, Bool.true_and] at hst
        exact hst
    clear n n' hx hL c1 c2 c3 c4 c6 hrest hst
    rcases hst2 with g1 | ⟨g1, g2⟩
    · go_enter Tryd.func16, Tryd.ntmps16
      go_wp2_with fail
      refine (isNaN_any x _).mono ?_
      rintro e w1 ⟨rfl, rfl⟩
      rw [HN.out]
      go_wp2_with fail
      refine (isInf_pos x _).mono ?_
      rintro e w1 ⟨rfl, rfl⟩
      rw [H1.out]
      go_wp2_with fail
      refine (isInf_neg x _).mono ?_
      rintro e w1 ⟨rfl, rfl⟩
      rw [H2.out]
      go_wp2_with fail
      refine (formatUint_16 x HXX.out _ htab.tz).mono ?_
      rintro e w1 ⟨rfl, hb⟩
      have HB := Lib.hid hb
      obtain ⟨hpl, hpp⟩ := hex_pad 15 x (show x < 16 ^ 16 from HXX.out)
      obtain ⟨n, hn⟩ : ∃ n, n = (hexS x).length := ⟨_, rfl⟩
      rw [← hn] at hpl hpp
      obtain ⟨SB, hSB⟩ : ∃ SB : ByteArray, SB = ⟨(hexS x).toArray⟩ := ⟨_, rfl⟩
      rw [← hSB]
      have hsz : SB.size = n := by rw [hSB, hn]; simp [ByteArray.size]
      have HD := Lib.hid (show SB.data.toList = hexS x by rw [hSB])
      have HPP := Lib.hid hpp
      have HSZ := Lib.hid hsz
      have hn16 : n ≤ 16 := hpl
      have izs : (SB.size : Int) = (n : Int) := by omega
      have ew : IntKind.i64.wrap (16 - (n : Int)) = ((16 - n : Nat) : Int) := by rw [IntWalk.i64_in _ (by omega)]; omega
      clear hb hpl hpp hSB hn hsz
      go_wp2_with fail
      refine (Tryd.strings_Repeat ⟨#[48]⟩ (16 - n) _ (by omega) (by show 1 * (16 - n) ≤ _; omega)).mono ?_
      rintro e w2 ⟨rfl, hb⟩
      have HB2 := Lib.hid (HB.out.trans (hb.mono HB.out.size))
      obtain ⟨RB, hRB⟩ : ∃ RB : ByteArray, RB = ⟨(Lib.repeatL (⟨#[48]⟩ : ByteArray).data.toList (16 - n)).toArray⟩ := ⟨_, rfl⟩
      rw [← hRB]
      have hrd : RB.data.toList = List.replicate (16 - n) 48 := by rw [hRB]; exact repeat_zero _
      have hrs : RB.size ≤ 16 := by rw [Lib.size_eq, hrd, List.length_replicate]; omega
      have hss : SB.size ≤ 16 := by rw [HSZ.out]; omega
      have HRD := Lib.hid hrd
      clear hb hRB hrd
      go_wp2_with fail
      go_ret
      refine ⟨_, rfl, ?_, HB2.out⟩
      rw [HT.out, ← HPP.out, ba_app, ba_app, HRD.out, HD.out, List.append_assoc]
    · go_enter Tryd.func16, Tryd.ntmps16
      go_wp2_with fail
      refine (isNaN_any x _).mono ?_
      rintro e w1 ⟨rfl, rfl⟩
      rw [HN.out]
      go_wp2_with fail
      refine (isInf_pos x _).mono ?_
      rintro e w1 ⟨rfl, rfl⟩
      rw [H1.out]
      go_wp2_with fail
      refine (isInf_neg x _).mono ?_
      rintro e w1 ⟨rfl, rfl⟩
      rw [H2.out]
      go_wp2_with fail
      refine (formatUint_16 x HXX.out _ htab.tz).mono ?_
      rintro e w1 ⟨rfl, hb⟩
      have HB := Lib.hid hb
      obtain ⟨hpl, hpp⟩ := hex_pad 15 x (show x < 16 ^ 16 from HXX.out)
      obtain ⟨n, hn⟩ : ∃ n, n = (hexS x).length := ⟨_, rfl⟩
      rw [← hn] at hpl hpp
      obtain ⟨SB, hSB⟩ : ∃ SB : ByteArray, SB = ⟨(hexS x).toArray⟩ := ⟨_, rfl⟩
      rw [← hSB]
      have hsz : SB.size = n := by rw [hSB, hn]; simp [ByteArray.size]
      have HD := Lib.hid (show SB.data.toList = hexS x by rw [hSB])
      have HPP := Lib.hid hpp
      have HSZ := Lib.hid hsz
      have hn16 : n ≤ 16 := hpl
      have izs : (SB.size : Int) = (n : Int) := by omega
      have ew : IntKind.i64.wrap (16 - (n : Int)) = ((16 - n : Nat) : Int) := by rw [IntWalk.i64_in _ (by omega)]; omega
      clear hb hpl hpp hSB hn hsz
      go_wp2_with fail
      refine (Tryd.strings_Repeat ⟨#[48]⟩ (16 - n) _ (by omega) (by show 1 * (16 - n) ≤ _; omega)).mono ?_
      rintro e w2 ⟨rfl, hb⟩
      have HB2 := Lib.hid (HB.out.trans (hb.mono HB.out.size))
      obtain ⟨RB, hRB⟩ : ∃ RB : ByteArray, RB = ⟨(Lib.repeatL (⟨#[48]⟩ : ByteArray).data.toList (16 - n)).toArray⟩ := ⟨_, rfl⟩
      rw [← hRB]
      have hrd : RB.data.toList = List.replicate (16 - n) 48 := by rw [hRB]; exact repeat_zero _
      have hrs : RB.size ≤ 16 := by rw [Lib.size_eq, hrd, List.length_replicate]; omega
      have hss : SB.size ≤ 16 := by rw [HSZ.out]; omega
      have HRD := Lib.hid hrd
      clear hb hRB hrd
      go_wp2_with fail
      go_ret
      refine ⟨_, rfl, ?_, HB2.out⟩
      rw [HT.out, ← HPP.out, ba_app, ba_app, HRD.out, HD.out, List.append_assoc]
end Go.Proofs.YtnddnhjlaojllaaDoor
