/-
  The walk of the law RealSigns: opposites.
-/
import Derived.Test.YtnddnhjlaojllaaDoorRealAK
namespace Go.Proofs.YtnddnhjlaojllaaDoor
open Go.RowKit
set_option linter.unusedVariables false

theorem no_minus {l : Bt} (h : ∀ t, l ≠ 45 :: t) : Lib.hasPrefix l [45] = false := by
  cases l with
  | nil => rfl
  | cons c t =>
    rw [pre_one]
    refine beq_eq_false_iff_ne.2 fun e => h t (by rw [← e])
theorem xor_u64 (a b : Nat) (ha : a < 18446744073709551616) (hb : b < 18446744073709551616) : bits .xor .u64 (a : Int) (b : Int) = ((a ^^^ b : Nat) : Int) := by
  show IntKind.u64.wrap ((BitVec.ofInt 64 (a : Int) ^^^ BitVec.ofInt 64 (b : Int)).toNat : Int) = _
  rw [BitVec.toNat_xor, BitVec.ofInt_natCast, BitVec.ofInt_natCast, BitVec.toNat_ofNat, BitVec.toNat_ofNat, Nat.mod_eq_of_lt ha, Nat.mod_eq_of_lt hb]
  have : a ^^^ b < 2 ^ 64 := Nat.xor_lt_two_pow ha hb
  show ((a ^^^ b : Nat) : Int) % (2 ^ 64 : Int) = _
  omega
theorem realSigns_nan (x y : Nat) (w : World) (hx : x < 18446744073709551616) (hy : y < 18446744073709551616) (h : nanB x = true ∨ nanB x = false ∧ nanB y = true) :
    Calls Tryd.prog 5 #[.int .u64 x, .int .u64 y] w fun e w' => e = .returned (.bool true) ∧ Below w.heap.size w w' := by
  have HX := Lib.hid hx
  have HY := Lib.hid hy
  clear hx hy
  rcases h with h | ⟨h, h2⟩
  · have NX := Lib.hid h
    clear h
    go_enter Tryd.func5, Tryd.ntmps5
    go_wp2_with fail
    refine (alive_any _).mono ?_
    rintro e w1 ⟨rfl, hb1⟩
    have HB1 := Lib.hid hb1; clear hb1
    go_wp2_with fail
    refine (noNumber_any x HX.out _).mono ?_
    rintro e w2 ⟨rfl, rfl⟩
    rw [NX.out]
    go_wp2_with fail
    go_ret
    exact ⟨rfl, HB1.out⟩
  · have NX := Lib.hid h
    have NY := Lib.hid h2
    clear h h2
    go_enter Tryd.func5, Tryd.ntmps5
    go_wp2_with fail
    refine (alive_any _).mono ?_
    rintro e w1 ⟨rfl, hb1⟩
    have HB1 := Lib.hid hb1; clear hb1
    go_wp2_with fail
    refine (noNumber_any x HX.out _).mono ?_
    rintro e w2 ⟨rfl, rfl⟩
    rw [NX.out]
    go_wp2_with fail
    refine (noNumber_any y HY.out _).mono ?_
    rintro e w2 ⟨rfl, rfl⟩
    rw [NY.out]
    go_wp2_with fail
    go_ret
    exact ⟨rfl, HB1.out⟩
set_option maxHeartbeats 16000000 in
theorem realSigns_in (x y : Nat) (w : World) (htab : Tabs w) (hx : x < 18446744073709551616) (hy : y < 18446744073709551616) (nx : nanB x = false) (ny : nanB y = false) :
    Calls Tryd.prog 5 #[.int .u64 x, .int .u64 y] w fun e w' => e = .returned (.bool true) ∧ Below w.heap.size w w' := by
  have hf := flip_parts hx
  obtain ⟨F, hF⟩ : ∃ F, F = flipB x := ⟨_, rfl⟩
  obtain ⟨A, hA⟩ : ∃ A, A = arithF .sub x y := ⟨_, rfl⟩
  obtain ⟨B, hB⟩ : ∃ B, B = arithF .sub y x := ⟨_, rfl⟩
  obtain ⟨L1, hL1⟩ : ∃ L, L = textF x := ⟨_, rfl⟩
  obtain ⟨L2, hL2⟩ : ∃ L, L = textF F := ⟨_, rfl⟩
  have HX := Lib.hid hx
  have HY := Lib.hid hy
  have NX := Lib.hid nx
  have NY := Lib.hid ny
  have HF := Lib.hid (show F < 18446744073709551616 by rw [hF]; exact hf.2.2)
  have E1 := Lib.hid hL1.symm
  have E2 := Lib.hid hL2.symm
  have O1 := Lib.hid (show opF (⟨#[45]⟩ : ByteArray).toList x y = (A, true) by rw [opv_sub, hA])
  have O2 := Lib.hid (show opF (⟨#[45]⟩ : ByteArray).toList y x = (B, true) by rw [opv_sub, hB])
  have O3 := Lib.hid (show opF (⟨#[42]⟩ : ByteArray).toList x 13830554455654793216 = (F, true) by rw [opv_mul, mul_neg hx nx, hF])
  have ex : bits .xor .u64 (x : Int) 9223372036854775808 = (F : Int) := by rw [hF]; exact xor_u64 x 9223372036854775808 hx (by decide)
  have ht := sub_turned hx hy nx ny
  rw [← hA, ← hB] at ht
  have hb := text_turned hx nx
  rw [← hF, ← hL1, ← hL2] at hb
  clear hF hA hB hL1 hL2 hf hx hy nx ny
  rcases ht with ⟨rfl, rfl⟩ | ⟨na, nb, hr, ha64, hb64, h0⟩
  · rcases hb with t | ⟨t1, t2 | ⟨t2, t3⟩⟩
    · have HL := Lib.hid (show L1.length = 18 from t)
      clear t
      go_enter Tryd.func5, Tryd.ntmps5
      go_wp2_with fail
      refine (alive_any _).mono ?_
      rintro e w1 ⟨rfl, hb1⟩
      have HB1 := Lib.hid hb1; clear hb1
      go_wp2_with fail
      refine (noNumber_any x HX.out _).mono ?_
      rintro e w2 ⟨rfl, rfl⟩
      rw [NX.out]
      go_wp2_with fail
      refine (noNumber_any y HY.out _).mono ?_
      rintro e w2 ⟨rfl, rfl⟩
      rw [NY.out]
      go_wp2_with fail
      refine (op_any ⟨#[45]⟩ x y _ HX.out).mono ?_
      rintro e w2 ⟨rfl, q, hw⟩
      rw [O1.out]
      have HB2 := Lib.hid (show Below w.heap.size w w2 by rw [hw]; exact below_drewN3 HB1.out _)
      clear hw
      go_wp2_with fail
      refine (op_any ⟨#[45]⟩ y x _ HY.out).mono ?_
      rintro e w3 ⟨rfl, q, hw⟩
      rw [O2.out]
      have HB3 := Lib.hid (show Below w.heap.size w w3 by rw [hw]; exact below_drewN3 HB2.out _)
      clear hw
      go_wp2_with fail
      refine (op_any ⟨#[42]⟩ x 13830554455654793216 _ HX.out).mono ?_
      rintro e w4 ⟨rfl, q, hw⟩
      rw [O3.out]
      have HB4 := Lib.hid (show Below w.heap.size w w4 by rw [hw]; exact below_drewN3 HB3.out _)
      clear hw
      go_wp2_with fail
      refine (text_any x HX.out _ (htab.keep HB4.out)).mono ?_
      rintro e w5 ⟨T1, rfl, hT, hb⟩
      have HB5 := Lib.hid (HB4.out.trans (hb.mono HB4.out.size))
      have HT1 := Lib.hid (hT.trans E1.out)
      clear hb hT
      go_wp2_with fail
      refine (text_any F HF.out _ (htab.keep HB5.out)).mono ?_
      rintro e w6 ⟨T2, rfl, hT, hb⟩
      have HB6 := Lib.hid (HB5.out.trans (hb.mono HB5.out.size))
      have HT2 := Lib.hid (hT.trans E2.out)
      clear hb hT
      have e18 : (T1.size : Int) = 18 := by rw [Lib.size_eq, HT1.out]; have := HL.out; omega
      go_wp2_with fail
      refine (noNumber_any _ (by decide) _).mono ?_
      rintro e w8 ⟨rfl, rfl⟩
      rw [show nanB 9221120237041090560 = true by decide +kernel]
      go_wp2_with fail
      refine (noNumber_any _ (by decide) _).mono ?_
      rintro e w8 ⟨rfl, rfl⟩
      rw [show nanB 9221120237041090560 = true by decide +kernel]
      go_wp2_with fail
      all_goals (go_ret; exact ⟨by first | rfl | simp, HB6.out⟩)
    · have t := And.intro t1 t2
      have HL := Lib.hid (show L1.length ≠ 18 ∧ L1 = 45 :: L2 from t)
      clear t t1 t2
      go_enter Tryd.func5, Tryd.ntmps5
      go_wp2_with fail
      refine (alive_any _).mono ?_
      rintro e w1 ⟨rfl, hb1⟩
      have HB1 := Lib.hid hb1; clear hb1
      go_wp2_with fail
      refine (noNumber_any x HX.out _).mono ?_
      rintro e w2 ⟨rfl, rfl⟩
      rw [NX.out]
      go_wp2_with fail
      refine (noNumber_any y HY.out _).mono ?_
      rintro e w2 ⟨rfl, rfl⟩
      rw [NY.out]
      go_wp2_with fail
      refine (op_any ⟨#[45]⟩ x y _ HX.out).mono ?_
      rintro e w2 ⟨rfl, q, hw⟩
      rw [O1.out]
      have HB2 := Lib.hid (show Below w.heap.size w w2 by rw [hw]; exact below_drewN3 HB1.out _)
      clear hw
      go_wp2_with fail
      refine (op_any ⟨#[45]⟩ y x _ HY.out).mono ?_
      rintro e w3 ⟨rfl, q, hw⟩
      rw [O2.out]
      have HB3 := Lib.hid (show Below w.heap.size w w3 by rw [hw]; exact below_drewN3 HB2.out _)
      clear hw
      go_wp2_with fail
      refine (op_any ⟨#[42]⟩ x 13830554455654793216 _ HX.out).mono ?_
      rintro e w4 ⟨rfl, q, hw⟩
      rw [O3.out]
      have HB4 := Lib.hid (show Below w.heap.size w w4 by rw [hw]; exact below_drewN3 HB3.out _)
      clear hw
      go_wp2_with fail
      refine (text_any x HX.out _ (htab.keep HB4.out)).mono ?_
      rintro e w5 ⟨T1, rfl, hT, hb⟩
      have HB5 := Lib.hid (HB4.out.trans (hb.mono HB4.out.size))
      have HT1 := Lib.hid (hT.trans E1.out)
      clear hb hT
      go_wp2_with fail
      refine (text_any F HF.out _ (htab.keep HB5.out)).mono ?_
      rintro e w6 ⟨T2, rfl, hT, hb⟩
      have HB6 := Lib.hid (HB5.out.trans (hb.mono HB5.out.size))
      have HT2 := Lib.hid (hT.trans E2.out)
      clear hb hT
      have e18 : ¬ (T1.size : Int) = 18 := by rw [Lib.size_eq, HT1.out]; have := HL.out.1; omega
      have ln1 : (1 : Int) ≤ (T1.size : Int) := by rw [Lib.size_eq, HT1.out, HL.out.2, List.length_cons]; omega
      have hsl : ((T1.extract 1 T1.size).toList == T2.toList) = true ∧ (T2.toList == (T1.extract 1 T1.size).toList) = true := by
        have e : (T1.extract 1 T1.size).data.toList = T2.data.toList := by rw [Lib.extract_to_end, HT1.out, HT2.out, HL.out.2]; rfl
        rw [Lib.toList_data, Lib.toList_data, e]
        exact ⟨beq_self_eq_true _, beq_self_eq_true _⟩
      obtain ⟨hq1, hq2⟩ := hsl
      go_wp2_with fail
      refine (begins_any T1 _ _).mono ?_
      rintro e w7 ⟨rfl, rfl⟩
      rw [show (⟨#[45]⟩ : ByteArray).data.toList = [45] from rfl, show Lib.hasPrefix T1.data.toList [45] = true by rw [HT1.out, HL.out.2, pre_one]; rfl]
      go_wp2_with fail
      refine (noNumber_any _ (by decide) _).mono ?_
      rintro e w8 ⟨rfl, rfl⟩
      rw [show nanB 9221120237041090560 = true by decide +kernel]
      go_wp2_with fail
      refine (noNumber_any _ (by decide) _).mono ?_
      rintro e w8 ⟨rfl, rfl⟩
      rw [show nanB 9221120237041090560 = true by decide +kernel]
      go_wp2_with fail
      all_goals (go_ret; exact ⟨by first | rfl | simp, HB6.out⟩)
    · have t := And.intro t1 (And.intro t2 t3)
      have HL := Lib.hid (show L1.length ≠ 18 ∧ (∀ t, L1 ≠ 45 :: t) ∧ L2 = 45 :: L1 from t)
      clear t t1 t2 t3
      go_enter Tryd.func5, Tryd.ntmps5
      go_wp2_with fail
      refine (alive_any _).mono ?_
      rintro e w1 ⟨rfl, hb1⟩
      have HB1 := Lib.hid hb1; clear hb1
      go_wp2_with fail
      refine (noNumber_any x HX.out _).mono ?_
      rintro e w2 ⟨rfl, rfl⟩
      rw [NX.out]
      go_wp2_with fail
      refine (noNumber_any y HY.out _).mono ?_
      rintro e w2 ⟨rfl, rfl⟩
      rw [NY.out]
      go_wp2_with fail
      refine (op_any ⟨#[45]⟩ x y _ HX.out).mono ?_
      rintro e w2 ⟨rfl, q, hw⟩
      rw [O1.out]
      have HB2 := Lib.hid (show Below w.heap.size w w2 by rw [hw]; exact below_drewN3 HB1.out _)
      clear hw
      go_wp2_with fail
      refine (op_any ⟨#[45]⟩ y x _ HY.out).mono ?_
      rintro e w3 ⟨rfl, q, hw⟩
      rw [O2.out]
      have HB3 := Lib.hid (show Below w.heap.size w w3 by rw [hw]; exact below_drewN3 HB2.out _)
      clear hw
      go_wp2_with fail
      refine (op_any ⟨#[42]⟩ x 13830554455654793216 _ HX.out).mono ?_
      rintro e w4 ⟨rfl, q, hw⟩
      rw [O3.out]
      have HB4 := Lib.hid (show Below w.heap.size w w4 by rw [hw]; exact below_drewN3 HB3.out _)
      clear hw
      go_wp2_with fail
      refine (text_any x HX.out _ (htab.keep HB4.out)).mono ?_
      rintro e w5 ⟨T1, rfl, hT, hb⟩
      have HB5 := Lib.hid (HB4.out.trans (hb.mono HB4.out.size))
      have HT1 := Lib.hid (hT.trans E1.out)
      clear hb hT
      go_wp2_with fail
      refine (text_any F HF.out _ (htab.keep HB5.out)).mono ?_
      rintro e w6 ⟨T2, rfl, hT, hb⟩
      have HB6 := Lib.hid (HB5.out.trans (hb.mono HB5.out.size))
      have HT2 := Lib.hid (hT.trans E2.out)
      clear hb hT
      have e18 : ¬ (T1.size : Int) = 18 := by rw [Lib.size_eq, HT1.out]; have := HL.out.1; omega
      have ln1 : (1 : Int) ≤ (T2.size : Int) := by rw [Lib.size_eq, HT2.out, HL.out.2.2, List.length_cons]; omega
      have hsl : ((T2.extract 1 T2.size).toList == T1.toList) = true ∧ (T1.toList == (T2.extract 1 T2.size).toList) = true := by
        have e : (T2.extract 1 T2.size).data.toList = T1.data.toList := by rw [Lib.extract_to_end, HT1.out, HT2.out, HL.out.2.2]; rfl
        rw [Lib.toList_data, Lib.toList_data, e]
        exact ⟨beq_self_eq_true _, beq_self_eq_true _⟩
      obtain ⟨hq1, hq2⟩ := hsl
      go_wp2_with fail
      refine (begins_any T1 _ _).mono ?_
      rintro e w7 ⟨rfl, rfl⟩
      rw [show (⟨#[45]⟩ : ByteArray).data.toList = [45] from rfl, show Lib.hasPrefix T1.data.toList [45] = false by rw [HT1.out]; exact no_minus HL.out.2.1]
      go_wp2_with fail
      refine (begins_any T2 _ _).mono ?_
      rintro e w7 ⟨rfl, rfl⟩
      rw [show (⟨#[45]⟩ : ByteArray).data.toList = [45] from rfl, show Lib.hasPrefix T2.data.toList [45] = true by rw [HT2.out, HL.out.2.2, pre_one]; rfl]
      go_wp2_with fail
      refine (noNumber_any _ (by decide) _).mono ?_
      rintro e w8 ⟨rfl, rfl⟩
      rw [show nanB 9221120237041090560 = true by decide +kernel]
      go_wp2_with fail
      refine (noNumber_any _ (by decide) _).mono ?_
      rintro e w8 ⟨rfl, rfl⟩
      rw [show nanB 9221120237041090560 = true by decide +kernel]
      go_wp2_with fail
      all_goals (go_ret; exact ⟨by first | rfl | simp, HB6.out⟩)
  · have HA64 := Lib.hid ha64
    have NA := Lib.hid na
    by_cases hz : rung A = 0
    · have zA : (IntKind.u64.wrap ((A : Int) * 2) == 0) = true := by rw [shl_one, hz]; rfl
      have zB : (IntKind.u64.wrap ((B : Int) * 2) == 0) = true := by rw [shl_one, ← hr, hz]; rfl
      clear na nb hr ha64 hb64 h0 hz
      rcases hb with t | ⟨t1, t2 | ⟨t2, t3⟩⟩
      · have HL := Lib.hid (show L1.length = 18 from t)
        clear t
        go_enter Tryd.func5, Tryd.ntmps5
        go_wp2_with fail
        refine (alive_any _).mono ?_
        rintro e w1 ⟨rfl, hb1⟩
        have HB1 := Lib.hid hb1; clear hb1
        go_wp2_with fail
        refine (noNumber_any x HX.out _).mono ?_
        rintro e w2 ⟨rfl, rfl⟩
        rw [NX.out]
        go_wp2_with fail
        refine (noNumber_any y HY.out _).mono ?_
        rintro e w2 ⟨rfl, rfl⟩
        rw [NY.out]
        go_wp2_with fail
        refine (op_any ⟨#[45]⟩ x y _ HX.out).mono ?_
        rintro e w2 ⟨rfl, q, hw⟩
        rw [O1.out]
        have HB2 := Lib.hid (show Below w.heap.size w w2 by rw [hw]; exact below_drewN3 HB1.out _)
        clear hw
        go_wp2_with fail
        refine (op_any ⟨#[45]⟩ y x _ HY.out).mono ?_
        rintro e w3 ⟨rfl, q, hw⟩
        rw [O2.out]
        have HB3 := Lib.hid (show Below w.heap.size w w3 by rw [hw]; exact below_drewN3 HB2.out _)
        clear hw
        go_wp2_with fail
        refine (op_any ⟨#[42]⟩ x 13830554455654793216 _ HX.out).mono ?_
        rintro e w4 ⟨rfl, q, hw⟩
        rw [O3.out]
        have HB4 := Lib.hid (show Below w.heap.size w w4 by rw [hw]; exact below_drewN3 HB3.out _)
        clear hw
        go_wp2_with fail
        refine (text_any x HX.out _ (htab.keep HB4.out)).mono ?_
        rintro e w5 ⟨T1, rfl, hT, hb⟩
        have HB5 := Lib.hid (HB4.out.trans (hb.mono HB4.out.size))
        have HT1 := Lib.hid (hT.trans E1.out)
        clear hb hT
        go_wp2_with fail
        refine (text_any F HF.out _ (htab.keep HB5.out)).mono ?_
        rintro e w6 ⟨T2, rfl, hT, hb⟩
        have HB6 := Lib.hid (HB5.out.trans (hb.mono HB5.out.size))
        have HT2 := Lib.hid (hT.trans E2.out)
        clear hb hT
        have e18 : (T1.size : Int) = 18 := by rw [Lib.size_eq, HT1.out]; have := HL.out; omega
        go_wp2_with fail
        refine (noNumber_any A HA64.out _).mono ?_
        rintro e w8 ⟨rfl, rfl⟩
        rw [NA.out]
        go_wp2_with fail
        all_goals (go_ret; exact ⟨by first | rfl | simp, HB6.out⟩)
      · have t := And.intro t1 t2
        have HL := Lib.hid (show L1.length ≠ 18 ∧ L1 = 45 :: L2 from t)
        clear t t1 t2
        go_enter Tryd.func5, Tryd.ntmps5
        go_wp2_with fail
        refine (alive_any _).mono ?_
        rintro e w1 ⟨rfl, hb1⟩
        have HB1 := Lib.hid hb1; clear hb1
        go_wp2_with fail
        refine (noNumber_any x HX.out _).mono ?_
        rintro e w2 ⟨rfl, rfl⟩
        rw [NX.out]
        go_wp2_with fail
        refine (noNumber_any y HY.out _).mono ?_
        rintro e w2 ⟨rfl, rfl⟩
        rw [NY.out]
        go_wp2_with fail
        refine (op_any ⟨#[45]⟩ x y _ HX.out).mono ?_
        rintro e w2 ⟨rfl, q, hw⟩
        rw [O1.out]
        have HB2 := Lib.hid (show Below w.heap.size w w2 by rw [hw]; exact below_drewN3 HB1.out _)
        clear hw
        go_wp2_with fail
        refine (op_any ⟨#[45]⟩ y x _ HY.out).mono ?_
        rintro e w3 ⟨rfl, q, hw⟩
        rw [O2.out]
        have HB3 := Lib.hid (show Below w.heap.size w w3 by rw [hw]; exact below_drewN3 HB2.out _)
        clear hw
        go_wp2_with fail
        refine (op_any ⟨#[42]⟩ x 13830554455654793216 _ HX.out).mono ?_
        rintro e w4 ⟨rfl, q, hw⟩
        rw [O3.out]
        have HB4 := Lib.hid (show Below w.heap.size w w4 by rw [hw]; exact below_drewN3 HB3.out _)
        clear hw
        go_wp2_with fail
        refine (text_any x HX.out _ (htab.keep HB4.out)).mono ?_
        rintro e w5 ⟨T1, rfl, hT, hb⟩
        have HB5 := Lib.hid (HB4.out.trans (hb.mono HB4.out.size))
        have HT1 := Lib.hid (hT.trans E1.out)
        clear hb hT
        go_wp2_with fail
        refine (text_any F HF.out _ (htab.keep HB5.out)).mono ?_
        rintro e w6 ⟨T2, rfl, hT, hb⟩
        have HB6 := Lib.hid (HB5.out.trans (hb.mono HB5.out.size))
        have HT2 := Lib.hid (hT.trans E2.out)
        clear hb hT
        have e18 : ¬ (T1.size : Int) = 18 := by rw [Lib.size_eq, HT1.out]; have := HL.out.1; omega
        have ln1 : (1 : Int) ≤ (T1.size : Int) := by rw [Lib.size_eq, HT1.out, HL.out.2, List.length_cons]; omega
        have hsl : ((T1.extract 1 T1.size).toList == T2.toList) = true ∧ (T2.toList == (T1.extract 1 T1.size).toList) = true := by
          have e : (T1.extract 1 T1.size).data.toList = T2.data.toList := by rw [Lib.extract_to_end, HT1.out, HT2.out, HL.out.2]; rfl
          rw [Lib.toList_data, Lib.toList_data, e]
          exact ⟨beq_self_eq_true _, beq_self_eq_true _⟩
        obtain ⟨hq1, hq2⟩ := hsl
        go_wp2_with fail
        refine (begins_any T1 _ _).mono ?_
        rintro e w7 ⟨rfl, rfl⟩
        rw [show (⟨#[45]⟩ : ByteArray).data.toList = [45] from rfl, show Lib.hasPrefix T1.data.toList [45] = true by rw [HT1.out, HL.out.2, pre_one]; rfl]
        go_wp2_with fail
        refine (noNumber_any A HA64.out _).mono ?_
        rintro e w8 ⟨rfl, rfl⟩
        rw [NA.out]
        go_wp2_with fail
        all_goals (go_ret; exact ⟨by first | rfl | simp, HB6.out⟩)
      · have t := And.intro t1 (And.intro t2 t3)
        have HL := Lib.hid (show L1.length ≠ 18 ∧ (∀ t, L1 ≠ 45 :: t) ∧ L2 = 45 :: L1 from t)
        clear t t1 t2 t3
        go_enter Tryd.func5, Tryd.ntmps5
        go_wp2_with fail
        refine (alive_any _).mono ?_
        rintro e w1 ⟨rfl, hb1⟩
        have HB1 := Lib.hid hb1; clear hb1
        go_wp2_with fail
        refine (noNumber_any x HX.out _).mono ?_
        rintro e w2 ⟨rfl, rfl⟩
        rw [NX.out]
        go_wp2_with fail
        refine (noNumber_any y HY.out _).mono ?_
        rintro e w2 ⟨rfl, rfl⟩
        rw [NY.out]
        go_wp2_with fail
        refine (op_any ⟨#[45]⟩ x y _ HX.out).mono ?_
        rintro e w2 ⟨rfl, q, hw⟩
        rw [O1.out]
        have HB2 := Lib.hid (show Below w.heap.size w w2 by rw [hw]; exact below_drewN3 HB1.out _)
        clear hw
        go_wp2_with fail
        refine (op_any ⟨#[45]⟩ y x _ HY.out).mono ?_
        rintro e w3 ⟨rfl, q, hw⟩
        rw [O2.out]
        have HB3 := Lib.hid (show Below w.heap.size w w3 by rw [hw]; exact below_drewN3 HB2.out _)
        clear hw
        go_wp2_with fail
        refine (op_any ⟨#[42]⟩ x 13830554455654793216 _ HX.out).mono ?_
        rintro e w4 ⟨rfl, q, hw⟩
        rw [O3.out]
        have HB4 := Lib.hid (show Below w.heap.size w w4 by rw [hw]; exact below_drewN3 HB3.out _)
        clear hw
        go_wp2_with fail
        refine (text_any x HX.out _ (htab.keep HB4.out)).mono ?_
        rintro e w5 ⟨T1, rfl, hT, hb⟩
        have HB5 := Lib.hid (HB4.out.trans (hb.mono HB4.out.size))
        have HT1 := Lib.hid (hT.trans E1.out)
        clear hb hT
        go_wp2_with fail
        refine (text_any F HF.out _ (htab.keep HB5.out)).mono ?_
        rintro e w6 ⟨T2, rfl, hT, hb⟩
        have HB6 := Lib.hid (HB5.out.trans (hb.mono HB5.out.size))
        have HT2 := Lib.hid (hT.trans E2.out)
        clear hb hT
        have e18 : ¬ (T1.size : Int) = 18 := by rw [Lib.size_eq, HT1.out]; have := HL.out.1; omega
        have ln1 : (1 : Int) ≤ (T2.size : Int) := by rw [Lib.size_eq, HT2.out, HL.out.2.2, List.length_cons]; omega
        have hsl : ((T2.extract 1 T2.size).toList == T1.toList) = true ∧ (T1.toList == (T2.extract 1 T2.size).toList) = true := by
          have e : (T2.extract 1 T2.size).data.toList = T1.data.toList := by rw [Lib.extract_to_end, HT1.out, HT2.out, HL.out.2.2]; rfl
          rw [Lib.toList_data, Lib.toList_data, e]
          exact ⟨beq_self_eq_true _, beq_self_eq_true _⟩
        obtain ⟨hq1, hq2⟩ := hsl
        go_wp2_with fail
        refine (begins_any T1 _ _).mono ?_
        rintro e w7 ⟨rfl, rfl⟩
        rw [show (⟨#[45]⟩ : ByteArray).data.toList = [45] from rfl, show Lib.hasPrefix T1.data.toList [45] = false by rw [HT1.out]; exact no_minus HL.out.2.1]
        go_wp2_with fail
        refine (begins_any T2 _ _).mono ?_
        rintro e w7 ⟨rfl, rfl⟩
        rw [show (⟨#[45]⟩ : ByteArray).data.toList = [45] from rfl, show Lib.hasPrefix T2.data.toList [45] = true by rw [HT2.out, HL.out.2.2, pre_one]; rfl]
        go_wp2_with fail
        refine (noNumber_any A HA64.out _).mono ?_
        rintro e w8 ⟨rfl, rfl⟩
        rw [NA.out]
        go_wp2_with fail
        all_goals (go_ret; exact ⟨by first | rfl | simp, HB6.out⟩)
    · have zA : (IntKind.u64.wrap ((A : Int) * 2) == 0) = false := by rw [shl_one]; exact beq_eq_false_iff_ne.2 (by omega)
      have hfl : A = flipB B := by
        rcases h0 with h | h
        · exact absurd h hz
        · exact h
      have eB : bits .xor .u64 (B : Int) 9223372036854775808 = (A : Int) := by rw [hfl]; exact xor_u64 B 9223372036854775808 hb64 (by decide)
      clear na nb hr ha64 hb64 h0 hz hfl
      rcases hb with t | ⟨t1, t2 | ⟨t2, t3⟩⟩
      · have HL := Lib.hid (show L1.length = 18 from t)
        clear t
        go_enter Tryd.func5, Tryd.ntmps5
        go_wp2_with fail
        refine (alive_any _).mono ?_
        rintro e w1 ⟨rfl, hb1⟩
        have HB1 := Lib.hid hb1; clear hb1
        go_wp2_with fail
        refine (noNumber_any x HX.out _).mono ?_
        rintro e w2 ⟨rfl, rfl⟩
        rw [NX.out]
        go_wp2_with fail
        refine (noNumber_any y HY.out _).mono ?_
        rintro e w2 ⟨rfl, rfl⟩
        rw [NY.out]
        go_wp2_with fail
        refine (op_any ⟨#[45]⟩ x y _ HX.out).mono ?_
        rintro e w2 ⟨rfl, q, hw⟩
        rw [O1.out]
        have HB2 := Lib.hid (show Below w.heap.size w w2 by rw [hw]; exact below_drewN3 HB1.out _)
        clear hw
        go_wp2_with fail
        refine (op_any ⟨#[45]⟩ y x _ HY.out).mono ?_
        rintro e w3 ⟨rfl, q, hw⟩
        rw [O2.out]
        have HB3 := Lib.hid (show Below w.heap.size w w3 by rw [hw]; exact below_drewN3 HB2.out _)
        clear hw
        go_wp2_with fail
        refine (op_any ⟨#[42]⟩ x 13830554455654793216 _ HX.out).mono ?_
        rintro e w4 ⟨rfl, q, hw⟩
        rw [O3.out]
        have HB4 := Lib.hid (show Below w.heap.size w w4 by rw [hw]; exact below_drewN3 HB3.out _)
        clear hw
        go_wp2_with fail
        refine (text_any x HX.out _ (htab.keep HB4.out)).mono ?_
        rintro e w5 ⟨T1, rfl, hT, hb⟩
        have HB5 := Lib.hid (HB4.out.trans (hb.mono HB4.out.size))
        have HT1 := Lib.hid (hT.trans E1.out)
        clear hb hT
        go_wp2_with fail
        refine (text_any F HF.out _ (htab.keep HB5.out)).mono ?_
        rintro e w6 ⟨T2, rfl, hT, hb⟩
        have HB6 := Lib.hid (HB5.out.trans (hb.mono HB5.out.size))
        have HT2 := Lib.hid (hT.trans E2.out)
        clear hb hT
        have e18 : (T1.size : Int) = 18 := by rw [Lib.size_eq, HT1.out]; have := HL.out; omega
        go_wp2_with fail
        refine (noNumber_any A HA64.out _).mono ?_
        rintro e w8 ⟨rfl, rfl⟩
        rw [NA.out]
        go_wp2_with fail
        all_goals (go_ret; exact ⟨by first | rfl | simp, HB6.out⟩)
      · have t := And.intro t1 t2
        have HL := Lib.hid (show L1.length ≠ 18 ∧ L1 = 45 :: L2 from t)
        clear t t1 t2
        go_enter Tryd.func5, Tryd.ntmps5
        go_wp2_with fail
        refine (alive_any _).mono ?_
        rintro e w1 ⟨rfl, hb1⟩
        have HB1 := Lib.hid hb1; clear hb1
        go_wp2_with fail
        refine (noNumber_any x HX.out _).mono ?_
        rintro e w2 ⟨rfl, rfl⟩
        rw [NX.out]
        go_wp2_with fail
        refine (noNumber_any y HY.out _).mono ?_
        rintro e w2 ⟨rfl, rfl⟩
        rw [NY.out]
        go_wp2_with fail
        refine (op_any ⟨#[45]⟩ x y _ HX.out).mono ?_
        rintro e w2 ⟨rfl, q, hw⟩
        rw [O1.out]
        have HB2 := Lib.hid (show Below w.heap.size w w2 by rw [hw]; exact below_drewN3 HB1.out _)
        clear hw
        go_wp2_with fail
        refine (op_any ⟨#[45]⟩ y x _ HY.out).mono ?_
        rintro e w3 ⟨rfl, q, hw⟩
        rw [O2.out]
        have HB3 := Lib.hid (show Below w.heap.size w w3 by rw [hw]; exact below_drewN3 HB2.out _)
        clear hw
        go_wp2_with fail
        refine (op_any ⟨#[42]⟩ x 13830554455654793216 _ HX.out).mono ?_
        rintro e w4 ⟨rfl, q, hw⟩
        rw [O3.out]
        have HB4 := Lib.hid (show Below w.heap.size w w4 by rw [hw]; exact below_drewN3 HB3.out _)
        clear hw
        go_wp2_with fail
        refine (text_any x HX.out _ (htab.keep HB4.out)).mono ?_
        rintro e w5 ⟨T1, rfl, hT, hb⟩
        have HB5 := Lib.hid (HB4.out.trans (hb.mono HB4.out.size))
        have HT1 := Lib.hid (hT.trans E1.out)
        clear hb hT
        go_wp2_with fail
        refine (text_any F HF.out _ (htab.keep HB5.out)).mono ?_
        rintro e w6 ⟨T2, rfl, hT, hb⟩
        have HB6 := Lib.hid (HB5.out.trans (hb.mono HB5.out.size))
        have HT2 := Lib.hid (hT.trans E2.out)
        clear hb hT
        have e18 : ¬ (T1.size : Int) = 18 := by rw [Lib.size_eq, HT1.out]; have := HL.out.1; omega
        have ln1 : (1 : Int) ≤ (T1.size : Int) := by rw [Lib.size_eq, HT1.out, HL.out.2, List.length_cons]; omega
        have hsl : ((T1.extract 1 T1.size).toList == T2.toList) = true ∧ (T2.toList == (T1.extract 1 T1.size).toList) = true := by
          have e : (T1.extract 1 T1.size).data.toList = T2.data.toList := by rw [Lib.extract_to_end, HT1.out, HT2.out, HL.out.2]; rfl
          rw [Lib.toList_data, Lib.toList_data, e]
          exact ⟨beq_self_eq_true _, beq_self_eq_true _⟩
        obtain ⟨hq1, hq2⟩ := hsl
        go_wp2_with fail
        refine (begins_any T1 _ _).mono ?_
        rintro e w7 ⟨rfl, rfl⟩
        rw [show (⟨#[45]⟩ : ByteArray).data.toList = [45] from rfl, show Lib.hasPrefix T1.data.toList [45] = true by rw [HT1.out, HL.out.2, pre_one]; rfl]
        go_wp2_with fail
        refine (noNumber_any A HA64.out _).mono ?_
        rintro e w8 ⟨rfl, rfl⟩
        rw [NA.out]
        go_wp2_with fail
        all_goals (go_ret; exact ⟨by first | rfl | simp, HB6.out⟩)
      · have t := And.intro t1 (And.intro t2 t3)
        have HL := Lib.hid (show L1.length ≠ 18 ∧ (∀ t, L1 ≠ 45 :: t) ∧ L2 = 45 :: L1 from t)
        clear t t1 t2 t3
        go_enter Tryd.func5, Tryd.ntmps5
        go_wp2_with fail
        refine (alive_any _).mono ?_
        rintro e w1 ⟨rfl, hb1⟩
        have HB1 := Lib.hid hb1; clear hb1
        go_wp2_with fail
        refine (noNumber_any x HX.out _).mono ?_
        rintro e w2 ⟨rfl, rfl⟩
        rw [NX.out]
        go_wp2_with fail
        refine (noNumber_any y HY.out _).mono ?_
        rintro e w2 ⟨rfl, rfl⟩
        rw [NY.out]
        go_wp2_with fail
        refine (op_any ⟨#[45]⟩ x y _ HX.out).mono ?_
        rintro e w2 ⟨rfl, q, hw⟩
        rw [O1.out]
        have HB2 := Lib.hid (show Below w.heap.size w w2 by rw [hw]; exact below_drewN3 HB1.out _)
        clear hw
        go_wp2_with fail
        refine (op_any ⟨#[45]⟩ y x _ HY.out).mono ?_
        rintro e w3 ⟨rfl, q, hw⟩
        rw [O2.out]
        have HB3 := Lib.hid (show Below w.heap.size w w3 by rw [hw]; exact below_drewN3 HB2.out _)
        clear hw
        go_wp2_with fail
        refine (op_any ⟨#[42]⟩ x 13830554455654793216 _ HX.out).mono ?_
        rintro e w4 ⟨rfl, q, hw⟩
        rw [O3.out]
        have HB4 := Lib.hid (show Below w.heap.size w w4 by rw [hw]; exact below_drewN3 HB3.out _)
        clear hw
        go_wp2_with fail
        refine (text_any x HX.out _ (htab.keep HB4.out)).mono ?_
        rintro e w5 ⟨T1, rfl, hT, hb⟩
        have HB5 := Lib.hid (HB4.out.trans (hb.mono HB4.out.size))
        have HT1 := Lib.hid (hT.trans E1.out)
        clear hb hT
        go_wp2_with fail
        refine (text_any F HF.out _ (htab.keep HB5.out)).mono ?_
        rintro e w6 ⟨T2, rfl, hT, hb⟩
        have HB6 := Lib.hid (HB5.out.trans (hb.mono HB5.out.size))
        have HT2 := Lib.hid (hT.trans E2.out)
        clear hb hT
        have e18 : ¬ (T1.size : Int) = 18 := by rw [Lib.size_eq, HT1.out]; have := HL.out.1; omega
        have ln1 : (1 : Int) ≤ (T2.size : Int) := by rw [Lib.size_eq, HT2.out, HL.out.2.2, List.length_cons]; omega
        have hsl : ((T2.extract 1 T2.size).toList == T1.toList) = true ∧ (T1.toList == (T2.extract 1 T2.size).toList) = true := by
          have e : (T2.extract 1 T2.size).data.toList = T1.data.toList := by rw [Lib.extract_to_end, HT1.out, HT2.out, HL.out.2.2]; rfl
          rw [Lib.toList_data, Lib.toList_data, e]
          exact ⟨beq_self_eq_true _, beq_self_eq_true _⟩
        obtain ⟨hq1, hq2⟩ := hsl
        go_wp2_with fail
        refine (begins_any T1 _ _).mono ?_
        rintro e w7 ⟨rfl, rfl⟩
        rw [show (⟨#[45]⟩ : ByteArray).data.toList = [45] from rfl, show Lib.hasPrefix T1.data.toList [45] = false by rw [HT1.out]; exact no_minus HL.out.2.1]
        go_wp2_with fail
        refine (begins_any T2 _ _).mono ?_
        rintro e w7 ⟨rfl, rfl⟩
        rw [show (⟨#[45]⟩ : ByteArray).data.toList = [45] from rfl, show Lib.hasPrefix T2.data.toList [45] = true by rw [HT2.out, HL.out.2.2, pre_one]; rfl]
        go_wp2_with fail
        refine (noNumber_any A HA64.out _).mono ?_
        rintro e w8 ⟨rfl, rfl⟩
        rw [NA.out]
        go_wp2_with fail
        all_goals (go_ret; exact ⟨by first | rfl | simp, HB6.out⟩)
theorem realSigns_walk (a0 a1 : Int) (w : World) (w1 : (Lit.int .u64 a0).wf = true) (w2 : (Lit.int .u64 a1).wf = true) (_ : w.ShapedOpen Tryd.prog) (hL : laidMetH Tryd.prog Rows.realSignsRow.laid w) :
    Calls Tryd.prog 5 #[.int .u64 a0, .int .u64 a1] w fun e w' => e = .returned (.bool true) ∧ Below w.heap.size w w' := by
  have htab := tabs_of rfl hL
  obtain ⟨x, rfl, hx⟩ := u64_nat w1
  obtain ⟨y, rfl, hy⟩ := u64_nat w2
  cases nx : nanB x with
  | true => exact realSigns_nan x y w hx hy (Or.inl nx)
  | false =>
    cases ny : nanB y with
    | true => exact realSigns_nan x y w hx hy (Or.inr ⟨nx, ny⟩)
    | false => exact realSigns_in x y w htab hx hy nx ny
end Go.Proofs.YtnddnhjlaojllaaDoor
