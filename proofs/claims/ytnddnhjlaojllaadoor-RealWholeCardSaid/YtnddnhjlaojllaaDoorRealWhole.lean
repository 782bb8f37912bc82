/-
  The walk of the law RealWhole: whole numbers are reckoned as they are.
-/
import Derived.Test.YtnddnhjlaojllaaDoorRealAJ
namespace Go.Proofs.YtnddnhjlaojllaaDoor
open Go.RowKit
set_option linter.unusedVariables false

theorem realWhole_out (a b : Int) (w : World) (h : a < -33554432 ∨ 33554432 < a ∨ b < -33554432 ∨ 33554432 < b) :
    Calls Tryd.prog 8 #[.int .i64 a, .int .i64 b] w fun e w' => e = .returned (.bool true) ∧ Below w.heap.size w w' := by
  have h2 : a < -33554432 ∨ ¬ a < -33554432 ∧ (33554432 < a ∨ ¬ 33554432 < a ∧ (b < -33554432 ∨ ¬ b < -33554432 ∧ 33554432 < b)) := by omega
  clear h
  rcases h2 with h | ⟨h, h2 | ⟨h2, h3 | ⟨h3, h4⟩⟩⟩
  all_goals
    go_enter Tryd.func8, Tryd.ntmps8
    go_wp2_with fail
    refine (alive_any _).mono ?_
    rintro e w1 ⟨rfl, hb1⟩
    have HB1 := Lib.hid hb1; clear hb1
    go_wp2_with fail
    go_ret
    exact ⟨rfl, HB1.out⟩
set_option maxHeartbeats 16000000 in
theorem realWhole_in (a b : Int) (w : World) (htab : Tabs w) (ha : a.natAbs ≤ 33554432) (hb : b.natAbs ≤ 33554432) :
    Calls Tryd.prog 8 #[.int .i64 a, .int .i64 b] w fun e w' => e = .returned (.bool true) ∧ Below w.heap.size w w' := by
  have r1 : ¬ a < -33554432 := by omega
  have r2 : ¬ 33554432 < a := by omega
  have r3 : ¬ b < -33554432 := by omega
  have r4 : ¬ 33554432 < b := by omega
  obtain ⟨X, hX⟩ : ∃ X, X = bitsZ a := ⟨_, rfl⟩
  obtain ⟨Y, hY⟩ : ∃ Y, Y = bitsZ b := ⟨_, rfl⟩
  obtain ⟨sm, hsm⟩ : ∃ s, s = a + b := ⟨_, rfl⟩
  obtain ⟨df, hdf⟩ : ∃ s, s = a - b := ⟨_, rfl⟩
  obtain ⟨P, hP⟩ : ∃ P, P = a * b := ⟨_, rfl⟩
  obtain ⟨S, hS⟩ : ∃ S, S = bitsZ sm := ⟨_, rfl⟩
  obtain ⟨E, hE⟩ : ∃ E, E = bitsZ df := ⟨_, rfl⟩
  obtain ⟨M, hM⟩ : ∃ M, M = Ieee.double.word (decide (a < 0) ^^ decide (b < 0)) (FI (a.natAbs * b.natAbs)) := ⟨_, rfl⟩
  have HX := Lib.hid hX.symm
  have HY := Lib.hid hY.symm
  have hmb : a.natAbs * b.natAbs ≤ 33554432 * 33554432 := Nat.mul_le_mul ha hb
  have hPn : P.natAbs = a.natAbs * b.natAbs := by rw [hP, Int.natAbs_mul]
  have HX64 := Lib.hid (show X < 18446744073709551616 by rw [hX]; exact (bitsZ_parts (by omega)).2.2)
  have S64 := Lib.hid (show S < 18446744073709551616 by rw [hS]; exact (bitsZ_parts (by omega)).2.2)
  have E64 := Lib.hid (show E < 18446744073709551616 by rw [hE]; exact (bitsZ_parts (by omega)).2.2)
  have M64 := Lib.hid (show M < 18446744073709551616 by rw [hM]; exact (word_parts _ (Nat.lt_trans (FI_all (by omega)).1 (by decide))).2.2)
  have O1 := Lib.hid (show opF (⟨#[43]⟩ : ByteArray).toList X Y = (S, true) by rw [opv_add, hX, hY, whole_add ha hb, hS, hsm])
  have O2 := Lib.hid (show opF (⟨#[45]⟩ : ByteArray).toList X Y = (E, true) by rw [opv_sub, hX, hY, whole_sub ha hb, hE, hdf])
  have O3 := Lib.hid (show opF (⟨#[42]⟩ : ByteArray).toList X Y = (M, true) by rw [opv_mul, hX, hY, whole_mul ha hb, hM])
  have I1 := Lib.hid (show isF (⟨#[108, 116]⟩ : ByteArray).toList X Y = (decide (a < b), true) by rw [isv_lt, hX, hY, (whole_tests ha hb).1])
  have I2 := Lib.hid (show isF (⟨#[101, 113]⟩ : ByteArray).toList X Y = ((a == b), true) by
    rw [isv_eq, hX, hY, (whole_tests ha hb).2]
    by_cases h : a = b
    · rw [decide_eq_true h, beq_iff_eq.2 h]
    · rw [decide_eq_false h, beq_eq_false_iff_ne.2 h])
  have TS := Lib.hid (show textF S = Lib.itoa sm by rw [hS]; exact text_whole (by omega))
  have TE := Lib.hid (show textF E = Lib.itoa df by rw [hE]; exact text_whole (by omega))
  have HTM := Lib.hid (show P.natAbs ≤ 999999999999999 → textF M = if P = 0 ∧ (a < 0 ∨ b < 0) then [45, 48] else Lib.itoa P from fun h => by rw [hM, hP]; rw [hP] at h; exact mul_text h)
  have HPB := Lib.hid (show P.natAbs < 100000000000000000 by omega)
  have ewP : IntKind.i64.wrap (a * b) = P := by rw [← hP]; exact IntWalk.i64_in _ (by omega)
  have ewS : IntKind.i64.wrap (a + b) = sm := by rw [← hsm]; exact IntWalk.i64_in _ (by omega)
  have ewD : IntKind.i64.wrap (a - b) = df := by rw [← hdf]; exact IntWalk.i64_in _ (by omega)
  have hsb : sm.natAbs ≤ 67108864 := by omega
  have hdb : df.natAbs ≤ 67108864 := by omega
  by_cases k1 : 999999999999999 < P
  · have k0 : ¬ P = 0 := by omega
    clear hX hY hsm hdf hP hS hE hM hmb hPn
    go_enter Tryd.func8, Tryd.ntmps8
    go_wp2_with fail
    refine (alive_any _).mono ?_
    rintro e w1 ⟨rfl, hb1⟩
    have HB1 := Lib.hid hb1; clear hb1
    go_wp2_with fail
    refine (int_big a (by omega) _).mono ?_
    rintro e w2a ⟨D1, rfl, hD, hw⟩
    have hDs : D1.size ≤ 140737488351232 := by rw [Lib.size_eq, hD]; exact Nat.le_trans (itoa_len (by omega)) (by decide)
    have HD := Lib.hid hD
    rw [hw]
    clear hD hw
    go_wp2_with fail
    refine (of_any D1 _ hDs).mono ?_
    rintro e w2 ⟨rfl, hb⟩
    rw [HD.out, of_itoa (by omega), show ((bitsZ a, true) : Nat × Bool).1 = X from HX.out]
    have HB2 := Lib.hid (HB1.out.trans (hb.mono HB1.out.size))
    clear hb HD hDs
    go_wp2_with fail
    refine (int_big b (by omega) _).mono ?_
    rintro e w3a ⟨D2, rfl, hD, hw⟩
    have hDs : D2.size ≤ 140737488351232 := by rw [Lib.size_eq, hD]; exact Nat.le_trans (itoa_len (by omega)) (by decide)
    have HD := Lib.hid hD
    rw [hw]
    clear hD hw
    go_wp2_with fail
    refine (of_any D2 _ hDs).mono ?_
    rintro e w3 ⟨rfl, hb⟩
    rw [HD.out, of_itoa (by omega), show ((bitsZ b, true) : Nat × Bool).1 = Y from HY.out]
    have HB3 := Lib.hid (HB2.out.trans (hb.mono HB2.out.size))
    clear hb HD hDs
    go_wp2_with fail
    refine (op_any ⟨#[43]⟩ X Y _ HX64.out).mono ?_
    rintro e w4 ⟨rfl, q, hw⟩
    rw [O1.out]
    have HB4 := Lib.hid (show Below w.heap.size w w4 by rw [hw]; exact below_drewN3 HB3.out _)
    clear hw
    go_wp2_with fail
    refine (op_any ⟨#[45]⟩ X Y _ HX64.out).mono ?_
    rintro e w5 ⟨rfl, q, hw⟩
    rw [O2.out]
    have HB5 := Lib.hid (show Below w.heap.size w w5 by rw [hw]; exact below_drewN3 HB4.out _)
    clear hw
    go_wp2_with fail
    refine (op_any ⟨#[42]⟩ X Y _ HX64.out).mono ?_
    rintro e w6 ⟨rfl, q, hw⟩
    rw [O3.out]
    have HB6 := Lib.hid (show Below w.heap.size w w6 by rw [hw]; exact below_drewN3 HB5.out _)
    clear hw
    go_wp2_with fail
    refine (is_any ⟨#[108, 116]⟩ X Y _).mono ?_
    rintro e w7 ⟨rfl, q, hw⟩
    rw [I1.out]
    have HB7 := Lib.hid (show Below w.heap.size w w7 by rw [hw]; exact below_drewN3 HB6.out _)
    clear hw
    go_wp2_with fail
    refine (is_any ⟨#[101, 113]⟩ X Y _).mono ?_
    rintro e w8 ⟨rfl, q, hw⟩
    rw [I2.out]
    have HB8 := Lib.hid (show Below w.heap.size w w8 by rw [hw]; exact below_drewN3 HB7.out _)
    clear hw
    go_wp2_with fail
    refine (int_big _ HPB.out _).mono ?_
    rintro e w8a ⟨D3, rfl, hD3, hw⟩
    have HD3 := Lib.hid hD3
    rw [hw]
    clear hD3 hw
    go_wp2_with fail
    go_ret
    exact ⟨rfl, HB8.out⟩
  by_cases k2 : P < -999999999999999
  · have k0 : ¬ P = 0 := by omega
    clear hX hY hsm hdf hP hS hE hM hmb hPn
    go_enter Tryd.func8, Tryd.ntmps8
    go_wp2_with fail
    refine (alive_any _).mono ?_
    rintro e w1 ⟨rfl, hb1⟩
    have HB1 := Lib.hid hb1; clear hb1
    go_wp2_with fail
    refine (int_big a (by omega) _).mono ?_
    rintro e w2a ⟨D1, rfl, hD, hw⟩
    have hDs : D1.size ≤ 140737488351232 := by rw [Lib.size_eq, hD]; exact Nat.le_trans (itoa_len (by omega)) (by decide)
    have HD := Lib.hid hD
    rw [hw]
    clear hD hw
    go_wp2_with fail
    refine (of_any D1 _ hDs).mono ?_
    rintro e w2 ⟨rfl, hb⟩
    rw [HD.out, of_itoa (by omega), show ((bitsZ a, true) : Nat × Bool).1 = X from HX.out]
    have HB2 := Lib.hid (HB1.out.trans (hb.mono HB1.out.size))
    clear hb HD hDs
    go_wp2_with fail
    refine (int_big b (by omega) _).mono ?_
    rintro e w3a ⟨D2, rfl, hD, hw⟩
    have hDs : D2.size ≤ 140737488351232 := by rw [Lib.size_eq, hD]; exact Nat.le_trans (itoa_len (by omega)) (by decide)
    have HD := Lib.hid hD
    rw [hw]
    clear hD hw
    go_wp2_with fail
    refine (of_any D2 _ hDs).mono ?_
    rintro e w3 ⟨rfl, hb⟩
    rw [HD.out, of_itoa (by omega), show ((bitsZ b, true) : Nat × Bool).1 = Y from HY.out]
    have HB3 := Lib.hid (HB2.out.trans (hb.mono HB2.out.size))
    clear hb HD hDs
    go_wp2_with fail
    refine (op_any ⟨#[43]⟩ X Y _ HX64.out).mono ?_
    rintro e w4 ⟨rfl, q, hw⟩
    rw [O1.out]
    have HB4 := Lib.hid (show Below w.heap.size w w4 by rw [hw]; exact below_drewN3 HB3.out _)
    clear hw
    go_wp2_with fail
    refine (op_any ⟨#[45]⟩ X Y _ HX64.out).mono ?_
    rintro e w5 ⟨rfl, q, hw⟩
    rw [O2.out]
    have HB5 := Lib.hid (show Below w.heap.size w w5 by rw [hw]; exact below_drewN3 HB4.out _)
    clear hw
    go_wp2_with fail
    refine (op_any ⟨#[42]⟩ X Y _ HX64.out).mono ?_
    rintro e w6 ⟨rfl, q, hw⟩
    rw [O3.out]
    have HB6 := Lib.hid (show Below w.heap.size w w6 by rw [hw]; exact below_drewN3 HB5.out _)
    clear hw
    go_wp2_with fail
    refine (is_any ⟨#[108, 116]⟩ X Y _).mono ?_
    rintro e w7 ⟨rfl, q, hw⟩
    rw [I1.out]
    have HB7 := Lib.hid (show Below w.heap.size w w7 by rw [hw]; exact below_drewN3 HB6.out _)
    clear hw
    go_wp2_with fail
    refine (is_any ⟨#[101, 113]⟩ X Y _).mono ?_
    rintro e w8 ⟨rfl, q, hw⟩
    rw [I2.out]
    have HB8 := Lib.hid (show Below w.heap.size w w8 by rw [hw]; exact below_drewN3 HB7.out _)
    clear hw
    go_wp2_with fail
    refine (int_big _ HPB.out _).mono ?_
    rintro e w8a ⟨D3, rfl, hD3, hw⟩
    have HD3 := Lib.hid hD3
    rw [hw]
    clear hD3 hw
    go_wp2_with fail
    go_ret
    exact ⟨rfl, HB8.out⟩
  have hTM := HTM.out (by omega)
  by_cases k0 : P = 0
  · subst k0
    by_cases n1 : a < 0
    · rw [if_pos ⟨rfl, Or.inl n1⟩] at hTM
      have TM := Lib.hid hTM
      clear hX hY hsm hdf hP hS hE hM hmb hPn hTM k1 k2
      go_enter Tryd.func8, Tryd.ntmps8
      go_wp2_with fail
      refine (alive_any _).mono ?_
      rintro e w1 ⟨rfl, hb1⟩
      have HB1 := Lib.hid hb1; clear hb1
      go_wp2_with fail
      refine (int_big a (by omega) _).mono ?_
      rintro e w2a ⟨D1, rfl, hD, hw⟩
      have hDs : D1.size ≤ 140737488351232 := by rw [Lib.size_eq, hD]; exact Nat.le_trans (itoa_len (by omega)) (by decide)
      have HD := Lib.hid hD
      rw [hw]
      clear hD hw
      go_wp2_with fail
      refine (of_any D1 _ hDs).mono ?_
      rintro e w2 ⟨rfl, hb⟩
      rw [HD.out, of_itoa (by omega), show ((bitsZ a, true) : Nat × Bool).1 = X from HX.out]
      have HB2 := Lib.hid (HB1.out.trans (hb.mono HB1.out.size))
      clear hb HD hDs
      go_wp2_with fail
      refine (int_big b (by omega) _).mono ?_
      rintro e w3a ⟨D2, rfl, hD, hw⟩
      have hDs : D2.size ≤ 140737488351232 := by rw [Lib.size_eq, hD]; exact Nat.le_trans (itoa_len (by omega)) (by decide)
      have HD := Lib.hid hD
      rw [hw]
      clear hD hw
      go_wp2_with fail
      refine (of_any D2 _ hDs).mono ?_
      rintro e w3 ⟨rfl, hb⟩
      rw [HD.out, of_itoa (by omega), show ((bitsZ b, true) : Nat × Bool).1 = Y from HY.out]
      have HB3 := Lib.hid (HB2.out.trans (hb.mono HB2.out.size))
      clear hb HD hDs
      go_wp2_with fail
      refine (op_any ⟨#[43]⟩ X Y _ HX64.out).mono ?_
      rintro e w4 ⟨rfl, q, hw⟩
      rw [O1.out]
      have HB4 := Lib.hid (show Below w.heap.size w w4 by rw [hw]; exact below_drewN3 HB3.out _)
      clear hw
      go_wp2_with fail
      refine (op_any ⟨#[45]⟩ X Y _ HX64.out).mono ?_
      rintro e w5 ⟨rfl, q, hw⟩
      rw [O2.out]
      have HB5 := Lib.hid (show Below w.heap.size w w5 by rw [hw]; exact below_drewN3 HB4.out _)
      clear hw
      go_wp2_with fail
      refine (op_any ⟨#[42]⟩ X Y _ HX64.out).mono ?_
      rintro e w6 ⟨rfl, q, hw⟩
      rw [O3.out]
      have HB6 := Lib.hid (show Below w.heap.size w w6 by rw [hw]; exact below_drewN3 HB5.out _)
      clear hw
      go_wp2_with fail
      refine (is_any ⟨#[108, 116]⟩ X Y _).mono ?_
      rintro e w7 ⟨rfl, q, hw⟩
      rw [I1.out]
      have HB7 := Lib.hid (show Below w.heap.size w w7 by rw [hw]; exact below_drewN3 HB6.out _)
      clear hw
      go_wp2_with fail
      refine (is_any ⟨#[101, 113]⟩ X Y _).mono ?_
      rintro e w8 ⟨rfl, q, hw⟩
      rw [I2.out]
      have HB8 := Lib.hid (show Below w.heap.size w w8 by rw [hw]; exact below_drewN3 HB7.out _)
      clear hw
      go_wp2_with fail
      refine (int_big _ HPB.out _).mono ?_
      rintro e w8a ⟨D3, rfl, hD3, hw⟩
      have HD3 := Lib.hid hD3
      rw [hw]
      clear hD3 hw
      go_wp2_with fail
      refine (text_any S S64.out _ (htab.keep HB8.out)).mono ?_
      rintro e w9 ⟨T1, rfl, hT, hb⟩
      have HB9 := Lib.hid (HB8.out.trans (hb.mono HB8.out.size))
      have HT1 := Lib.hid (hT.trans TS.out)
      clear hb hT
      go_wp2_with fail
      refine (int_big sm (by omega) _).mono ?_
      rintro e w9a ⟨E1, rfl, hD, hw⟩
      obtain rfl : E1 = T1 := ba_ext (hD.trans HT1.out.symm)
      rw [hw]
      clear hD hw
      have hbqE1 : (E1.toList == E1.toList) = true := beq_self_eq_true _
      go_wp2_with fail
      refine (text_any E E64.out _ (htab.keep HB9.out)).mono ?_
      rintro e w10 ⟨T2, rfl, hT, hb⟩
      have HB10 := Lib.hid (HB9.out.trans (hb.mono HB9.out.size))
      have HT2 := Lib.hid (hT.trans TE.out)
      clear hb hT
      go_wp2_with fail
      refine (int_big df (by omega) _).mono ?_
      rintro e w10a ⟨E2, rfl, hD, hw⟩
      obtain rfl : E2 = T2 := ba_ext (hD.trans HT2.out.symm)
      rw [hw]
      clear hD hw
      have hbqE2 : (E2.toList == E2.toList) = true := beq_self_eq_true _
      go_wp2_with fail
      refine (text_any M M64.out _ (htab.keep HB10.out)).mono ?_
      rintro e w11 ⟨T3, rfl, hT, hb⟩
      have HB11 := Lib.hid (HB10.out.trans (hb.mono HB10.out.size))
      have HT3 := Lib.hid (hT.trans TM.out)
      clear hb hT
      obtain rfl : T3 = ⟨#[45, 48]⟩ := ba_ext HT3.out
      have hbq3 : ((⟨#[45, 48]⟩ : ByteArray).toList == (⟨#[45, 48]⟩ : ByteArray).toList) = true := beq_self_eq_true _
      go_wp2_with fail
      all_goals (go_ret; exact ⟨by first | rfl | simp, HB11.out⟩)
    · by_cases n2 : b < 0
      · rw [if_pos ⟨rfl, Or.inr n2⟩] at hTM
        have TM := Lib.hid hTM
        clear hX hY hsm hdf hP hS hE hM hmb hPn hTM k1 k2
        go_enter Tryd.func8, Tryd.ntmps8
        go_wp2_with fail
        refine (alive_any _).mono ?_
        rintro e w1 ⟨rfl, hb1⟩
        have HB1 := Lib.hid hb1; clear hb1
        go_wp2_with fail
        refine (int_big a (by omega) _).mono ?_
        rintro e w2a ⟨D1, rfl, hD, hw⟩
        have hDs : D1.size ≤ 140737488351232 := by rw [Lib.size_eq, hD]; exact Nat.le_trans (itoa_len (by omega)) (by decide)
        have HD := Lib.hid hD
        rw [hw]
        clear hD hw
        go_wp2_with fail
        refine (of_any D1 _ hDs).mono ?_
        rintro e w2 ⟨rfl, hb⟩
        rw [HD.out, of_itoa (by omega), show ((bitsZ a, true) : Nat × Bool).1 = X from HX.out]
        have HB2 := Lib.hid (HB1.out.trans (hb.mono HB1.out.size))
        clear hb HD hDs
        go_wp2_with fail
        refine (int_big b (by omega) _).mono ?_
        rintro e w3a ⟨D2, rfl, hD, hw⟩
        have hDs : D2.size ≤ 140737488351232 := by rw [Lib.size_eq, hD]; exact Nat.le_trans (itoa_len (by omega)) (by decide)
        have HD := Lib.hid hD
        rw [hw]
        clear hD hw
        go_wp2_with fail
        refine (of_any D2 _ hDs).mono ?_
        rintro e w3 ⟨rfl, hb⟩
        rw [HD.out, of_itoa (by omega), show ((bitsZ b, true) : Nat × Bool).1 = Y from HY.out]
        have HB3 := Lib.hid (HB2.out.trans (hb.mono HB2.out.size))
        clear hb HD hDs
        go_wp2_with fail
        refine (op_any ⟨#[43]⟩ X Y _ HX64.out).mono ?_
        rintro e w4 ⟨rfl, q, hw⟩
        rw [O1.out]
        have HB4 := Lib.hid (show Below w.heap.size w w4 by rw [hw]; exact below_drewN3 HB3.out _)
        clear hw
        go_wp2_with fail
        refine (op_any ⟨#[45]⟩ X Y _ HX64.out).mono ?_
        rintro e w5 ⟨rfl, q, hw⟩
        rw [O2.out]
        have HB5 := Lib.hid (show Below w.heap.size w w5 by rw [hw]; exact below_drewN3 HB4.out _)
        clear hw
        go_wp2_with fail
        refine (op_any ⟨#[42]⟩ X Y _ HX64.out).mono ?_
        rintro e w6 ⟨rfl, q, hw⟩
        rw [O3.out]
        have HB6 := Lib.hid (show Below w.heap.size w w6 by rw [hw]; exact below_drewN3 HB5.out _)
        clear hw
        go_wp2_with fail
        refine (is_any ⟨#[108, 116]⟩ X Y _).mono ?_
        rintro e w7 ⟨rfl, q, hw⟩
        rw [I1.out]
        have HB7 := Lib.hid (show Below w.heap.size w w7 by rw [hw]; exact below_drewN3 HB6.out _)
        clear hw
        go_wp2_with fail
        refine (is_any ⟨#[101, 113]⟩ X Y _).mono ?_
        rintro e w8 ⟨rfl, q, hw⟩
        rw [I2.out]
        have HB8 := Lib.hid (show Below w.heap.size w w8 by rw [hw]; exact below_drewN3 HB7.out _)
        clear hw
        go_wp2_with fail
        refine (int_big _ HPB.out _).mono ?_
        rintro e w8a ⟨D3, rfl, hD3, hw⟩
        have HD3 := Lib.hid hD3
        rw [hw]
        clear hD3 hw
        go_wp2_with fail
        refine (text_any S S64.out _ (htab.keep HB8.out)).mono ?_
        rintro e w9 ⟨T1, rfl, hT, hb⟩
        have HB9 := Lib.hid (HB8.out.trans (hb.mono HB8.out.size))
        have HT1 := Lib.hid (hT.trans TS.out)
        clear hb hT
        go_wp2_with fail
        refine (int_big sm (by omega) _).mono ?_
        rintro e w9a ⟨E1, rfl, hD, hw⟩
        obtain rfl : E1 = T1 := ba_ext (hD.trans HT1.out.symm)
        rw [hw]
        clear hD hw
        have hbqE1 : (E1.toList == E1.toList) = true := beq_self_eq_true _
        go_wp2_with fail
        refine (text_any E E64.out _ (htab.keep HB9.out)).mono ?_
        rintro e w10 ⟨T2, rfl, hT, hb⟩
        have HB10 := Lib.hid (HB9.out.trans (hb.mono HB9.out.size))
        have HT2 := Lib.hid (hT.trans TE.out)
        clear hb hT
        go_wp2_with fail
        refine (int_big df (by omega) _).mono ?_
        rintro e w10a ⟨E2, rfl, hD, hw⟩
        obtain rfl : E2 = T2 := ba_ext (hD.trans HT2.out.symm)
        rw [hw]
        clear hD hw
        have hbqE2 : (E2.toList == E2.toList) = true := beq_self_eq_true _
        go_wp2_with fail
        refine (text_any M M64.out _ (htab.keep HB10.out)).mono ?_
        rintro e w11 ⟨T3, rfl, hT, hb⟩
        have HB11 := Lib.hid (HB10.out.trans (hb.mono HB10.out.size))
        have HT3 := Lib.hid (hT.trans TM.out)
        clear hb hT
        obtain rfl : T3 = ⟨#[45, 48]⟩ := ba_ext HT3.out
        have hbq3 : ((⟨#[45, 48]⟩ : ByteArray).toList == (⟨#[45, 48]⟩ : ByteArray).toList) = true := beq_self_eq_true _
        go_wp2_with fail
        all_goals (go_ret; exact ⟨by first | rfl | simp, HB11.out⟩)
      · rw [if_neg (fun h => by rcases h.2 with h | h; exact n1 h; exact n2 h)] at hTM
        have TM := Lib.hid hTM
        clear hX hY hsm hdf hP hS hE hM hmb hPn hTM k1 k2
        go_enter Tryd.func8, Tryd.ntmps8
        go_wp2_with fail
        refine (alive_any _).mono ?_
        rintro e w1 ⟨rfl, hb1⟩
        have HB1 := Lib.hid hb1; clear hb1
        go_wp2_with fail
        refine (int_big a (by omega) _).mono ?_
        rintro e w2a ⟨D1, rfl, hD, hw⟩
        have hDs : D1.size ≤ 140737488351232 := by rw [Lib.size_eq, hD]; exact Nat.le_trans (itoa_len (by omega)) (by decide)
        have HD := Lib.hid hD
        rw [hw]
        clear hD hw
        go_wp2_with fail
        refine (of_any D1 _ hDs).mono ?_
        rintro e w2 ⟨rfl, hb⟩
        rw [HD.out, of_itoa (by omega), show ((bitsZ a, true) : Nat × Bool).1 = X from HX.out]
        have HB2 := Lib.hid (HB1.out.trans (hb.mono HB1.out.size))
        clear hb HD hDs
        go_wp2_with fail
        refine (int_big b (by omega) _).mono ?_
        rintro e w3a ⟨D2, rfl, hD, hw⟩
        have hDs : D2.size ≤ 140737488351232 := by rw [Lib.size_eq, hD]; exact Nat.le_trans (itoa_len (by omega)) (by decide)
        have HD := Lib.hid hD
        rw [hw]
        clear hD hw
        go_wp2_with fail
        refine (of_any D2 _ hDs).mono ?_
        rintro e w3 ⟨rfl, hb⟩
        rw [HD.out, of_itoa (by omega), show ((bitsZ b, true) : Nat × Bool).1 = Y from HY.out]
        have HB3 := Lib.hid (HB2.out.trans (hb.mono HB2.out.size))
        clear hb HD hDs
        go_wp2_with fail
        refine (op_any ⟨#[43]⟩ X Y _ HX64.out).mono ?_
        rintro e w4 ⟨rfl, q, hw⟩
        rw [O1.out]
        have HB4 := Lib.hid (show Below w.heap.size w w4 by rw [hw]; exact below_drewN3 HB3.out _)
        clear hw
        go_wp2_with fail
        refine (op_any ⟨#[45]⟩ X Y _ HX64.out).mono ?_
        rintro e w5 ⟨rfl, q, hw⟩
        rw [O2.out]
        have HB5 := Lib.hid (show Below w.heap.size w w5 by rw [hw]; exact below_drewN3 HB4.out _)
        clear hw
        go_wp2_with fail
        refine (op_any ⟨#[42]⟩ X Y _ HX64.out).mono ?_
        rintro e w6 ⟨rfl, q, hw⟩
        rw [O3.out]
        have HB6 := Lib.hid (show Below w.heap.size w w6 by rw [hw]; exact below_drewN3 HB5.out _)
        clear hw
        go_wp2_with fail
        refine (is_any ⟨#[108, 116]⟩ X Y _).mono ?_
        rintro e w7 ⟨rfl, q, hw⟩
        rw [I1.out]
        have HB7 := Lib.hid (show Below w.heap.size w w7 by rw [hw]; exact below_drewN3 HB6.out _)
        clear hw
        go_wp2_with fail
        refine (is_any ⟨#[101, 113]⟩ X Y _).mono ?_
        rintro e w8 ⟨rfl, q, hw⟩
        rw [I2.out]
        have HB8 := Lib.hid (show Below w.heap.size w w8 by rw [hw]; exact below_drewN3 HB7.out _)
        clear hw
        go_wp2_with fail
        refine (int_big _ HPB.out _).mono ?_
        rintro e w8a ⟨D3, rfl, hD3, hw⟩
        have HD3 := Lib.hid hD3
        rw [hw]
        clear hD3 hw
        go_wp2_with fail
        refine (text_any S S64.out _ (htab.keep HB8.out)).mono ?_
        rintro e w9 ⟨T1, rfl, hT, hb⟩
        have HB9 := Lib.hid (HB8.out.trans (hb.mono HB8.out.size))
        have HT1 := Lib.hid (hT.trans TS.out)
        clear hb hT
        go_wp2_with fail
        refine (int_big sm (by omega) _).mono ?_
        rintro e w9a ⟨E1, rfl, hD, hw⟩
        obtain rfl : E1 = T1 := ba_ext (hD.trans HT1.out.symm)
        rw [hw]
        clear hD hw
        have hbqE1 : (E1.toList == E1.toList) = true := beq_self_eq_true _
        go_wp2_with fail
        refine (text_any E E64.out _ (htab.keep HB9.out)).mono ?_
        rintro e w10 ⟨T2, rfl, hT, hb⟩
        have HB10 := Lib.hid (HB9.out.trans (hb.mono HB9.out.size))
        have HT2 := Lib.hid (hT.trans TE.out)
        clear hb hT
        go_wp2_with fail
        refine (int_big df (by omega) _).mono ?_
        rintro e w10a ⟨E2, rfl, hD, hw⟩
        obtain rfl : E2 = T2 := ba_ext (hD.trans HT2.out.symm)
        rw [hw]
        clear hD hw
        have hbqE2 : (E2.toList == E2.toList) = true := beq_self_eq_true _
        go_wp2_with fail
        refine (text_any M M64.out _ (htab.keep HB10.out)).mono ?_
        rintro e w11 ⟨T3, rfl, hT, hb⟩
        have HB11 := Lib.hid (HB10.out.trans (hb.mono HB10.out.size))
        have HT3 := Lib.hid (hT.trans TM.out)
        clear hb hT
        obtain rfl : D3 = T3 := ba_ext (HD3.out.trans HT3.out.symm)
        have hbq3 : (D3.toList == D3.toList) = true := beq_self_eq_true _
        go_wp2_with fail
        all_goals (go_ret; exact ⟨by first | rfl | simp, HB11.out⟩)
  · rw [if_neg (fun h => k0 h.1)] at hTM
    have TM := Lib.hid hTM
    clear hX hY hsm hdf hP hS hE hM hmb hPn hTM
    go_enter Tryd.func8, Tryd.ntmps8
    go_wp2_with fail
    refine (alive_any _).mono ?_
    rintro e w1 ⟨rfl, hb1⟩
    have HB1 := Lib.hid hb1; clear hb1
    go_wp2_with fail
    refine (int_big a (by omega) _).mono ?_
    rintro e w2a ⟨D1, rfl, hD, hw⟩
    have hDs : D1.size ≤ 140737488351232 := by rw [Lib.size_eq, hD]; exact Nat.le_trans (itoa_len (by omega)) (by decide)
    have HD := Lib.hid hD
    rw [hw]
    clear hD hw
    go_wp2_with fail
    refine (of_any D1 _ hDs).mono ?_
    rintro e w2 ⟨rfl, hb⟩
    rw [HD.out, of_itoa (by omega), show ((bitsZ a, true) : Nat × Bool).1 = X from HX.out]
    have HB2 := Lib.hid (HB1.out.trans (hb.mono HB1.out.size))
    clear hb HD hDs
    go_wp2_with fail
    refine (int_big b (by omega) _).mono ?_
    rintro e w3a ⟨D2, rfl, hD, hw⟩
    have hDs : D2.size ≤ 140737488351232 := by rw [Lib.size_eq, hD]; exact Nat.le_trans (itoa_len (by omega)) (by decide)
    have HD := Lib.hid hD
    rw [hw]
    clear hD hw
    go_wp2_with fail
    refine (of_any D2 _ hDs).mono ?_
    rintro e w3 ⟨rfl, hb⟩
    rw [HD.out, of_itoa (by omega), show ((bitsZ b, true) : Nat × Bool).1 = Y from HY.out]
    have HB3 := Lib.hid (HB2.out.trans (hb.mono HB2.out.size))
    clear hb HD hDs
    go_wp2_with fail
    refine (op_any ⟨#[43]⟩ X Y _ HX64.out).mono ?_
    rintro e w4 ⟨rfl, q, hw⟩
    rw [O1.out]
    have HB4 := Lib.hid (show Below w.heap.size w w4 by rw [hw]; exact below_drewN3 HB3.out _)
    clear hw
    go_wp2_with fail
    refine (op_any ⟨#[45]⟩ X Y _ HX64.out).mono ?_
    rintro e w5 ⟨rfl, q, hw⟩
    rw [O2.out]
    have HB5 := Lib.hid (show Below w.heap.size w w5 by rw [hw]; exact below_drewN3 HB4.out _)
    clear hw
    go_wp2_with fail
    refine (op_any ⟨#[42]⟩ X Y _ HX64.out).mono ?_
    rintro e w6 ⟨rfl, q, hw⟩
    rw [O3.out]
    have HB6 := Lib.hid (show Below w.heap.size w w6 by rw [hw]; exact below_drewN3 HB5.out _)
    clear hw
    go_wp2_with fail
    refine (is_any ⟨#[108, 116]⟩ X Y _).mono ?_
    rintro e w7 ⟨rfl, q, hw⟩
    rw [I1.out]
    have HB7 := Lib.hid (show Below w.heap.size w w7 by rw [hw]; exact below_drewN3 HB6.out _)
    clear hw
    go_wp2_with fail
    refine (is_any ⟨#[101, 113]⟩ X Y _).mono ?_
    rintro e w8 ⟨rfl, q, hw⟩
    rw [I2.out]
    have HB8 := Lib.hid (show Below w.heap.size w w8 by rw [hw]; exact below_drewN3 HB7.out _)
    clear hw
    go_wp2_with fail
    refine (int_big _ HPB.out _).mono ?_
    rintro e w8a ⟨D3, rfl, hD3, hw⟩
    have HD3 := Lib.hid hD3
    rw [hw]
    clear hD3 hw
    go_wp2_with fail
    refine (text_any S S64.out _ (htab.keep HB8.out)).mono ?_
    rintro e w9 ⟨T1, rfl, hT, hb⟩
    have HB9 := Lib.hid (HB8.out.trans (hb.mono HB8.out.size))
    have HT1 := Lib.hid (hT.trans TS.out)
    clear hb hT
    go_wp2_with fail
    refine (int_big sm (by omega) _).mono ?_
    rintro e w9a ⟨E1, rfl, hD, hw⟩
    obtain rfl : E1 = T1 := ba_ext (hD.trans HT1.out.symm)
    rw [hw]
    clear hD hw
    have hbqE1 : (E1.toList == E1.toList) = true := beq_self_eq_true _
    go_wp2_with fail
    refine (text_any E E64.out _ (htab.keep HB9.out)).mono ?_
    rintro e w10 ⟨T2, rfl, hT, hb⟩
    have HB10 := Lib.hid (HB9.out.trans (hb.mono HB9.out.size))
    have HT2 := Lib.hid (hT.trans TE.out)
    clear hb hT
    go_wp2_with fail
    refine (int_big df (by omega) _).mono ?_
    rintro e w10a ⟨E2, rfl, hD, hw⟩
    obtain rfl : E2 = T2 := ba_ext (hD.trans HT2.out.symm)
    rw [hw]
    clear hD hw
    have hbqE2 : (E2.toList == E2.toList) = true := beq_self_eq_true _
    go_wp2_with fail
    refine (text_any M M64.out _ (htab.keep HB10.out)).mono ?_
    rintro e w11 ⟨T3, rfl, hT, hb⟩
    have HB11 := Lib.hid (HB10.out.trans (hb.mono HB10.out.size))
    have HT3 := Lib.hid (hT.trans TM.out)
    clear hb hT
    obtain rfl : D3 = T3 := ba_ext (HD3.out.trans HT3.out.symm)
    have hbq3 : (D3.toList == D3.toList) = true := beq_self_eq_true _
    go_wp2_with fail
    all_goals (go_ret; exact ⟨by first | rfl | simp, HB11.out⟩)
theorem realWhole_walk (a0 a1 : Int) (w : World) (w1 : (Lit.int .i64 a0).wf = true) (w2 : (Lit.int .i64 a1).wf = true) (_ : w.ShapedOpen Tryd.prog) (hL : laidMetH Tryd.prog Rows.realWholeRow.laid w) :
    Calls Tryd.prog 8 #[.int .i64 a0, .int .i64 a1] w fun e w' => e = .returned (.bool true) ∧ Below w.heap.size w w' := by
  by_cases h : a0 < -33554432 ∨ 33554432 < a0 ∨ a1 < -33554432 ∨ 33554432 < a1
  · exact realWhole_out a0 a1 w h
  · exact realWhole_in a0 a1 w (tabs_of rfl hL) (by omega) (by omega)
end Go.Proofs.YtnddnhjlaojllaaDoor
