/-
  The contracts of math.Copysign, math.Inf.
-/
import Derived.Test.YtnddnhjlaojllaaDoorRealG
import Derived.Lib.SmallJoins
namespace Go.Proofs.YtnddnhjlaojllaaDoor
open Go.RowKit

theorem or_u64 (a b : Nat) (ha : a < 18446744073709551616) (hb : b < 18446744073709551616) (hr : a ||| b < 18446744073709551616) : bits .or .u64 (a : Int) (b : Int) = ((a ||| b : Nat) : Int) := by
  show IntKind.u64.wrap ((BitVec.ofInt 64 (a : Int) ||| BitVec.ofInt 64 (b : Int)).toNat : Int) = _
  rw [BitVec.toNat_or, BitVec.ofInt_natCast, BitVec.ofInt_natCast, BitVec.toNat_ofNat, BitVec.toNat_ofNat, Nat.mod_eq_of_lt ha, Nat.mod_eq_of_lt hb]
  show ((a ||| b : Nat) : Int) % (2 ^ 64 : Int) = _
  omega
theorem or_top (f : Nat) (h : f < 9223372036854775808) : f ||| 9223372036854775808 = f + 9223372036854775808 := by
  have e := Nat.two_pow_add_eq_or_of_lt (i := 63) (b := f) (by simpa using h) 1
  rw [Nat.or_comm]
  have e2 : (2 : Nat) ^ 63 * 1 = 9223372036854775808 := by decide
  rw [e2] at e
  omega

theorem not_top (f : Nat) (h : f < 9223372036854775808) : bits .andNot .u64 (f : Int) 9223372036854775808 = (f : Int) := by
  show IntKind.u64.wrap ((BitVec.ofInt 64 (f : Int) &&& ~~~ BitVec.ofInt 64 9223372036854775808).toNat : Int) = _
  rw [BitVec.toNat_and, BitVec.ofInt_natCast, BitVec.toNat_ofNat, Nat.mod_eq_of_lt (by omega : f < 2 ^ 64)]
  rw [show (~~~ BitVec.ofInt 64 9223372036854775808).toNat = 2 ^ 63 - 1 by decide, Nat.and_two_pow_sub_one_eq_mod, Nat.mod_eq_of_lt (by omega : f < 2 ^ 63)]
  show (f : Int) % (2 ^ 64 : Int) = _
  omega
theorem sign_pos (f : Nat) (h : f < 9223372036854775808) : (bits .or .u64 (bits .andNot .u64 (f : Int) 9223372036854775808) (bits .and .u64 4607182418800017408 9223372036854775808)).toNat = f := by
  rw [not_top f h, show bits .and .u64 4607182418800017408 9223372036854775808 = ((0 : Nat) : Int) by decide, or_u64 f 0 (by omega) (by omega) (by simp; omega)]
  simp
theorem sign_neg (f : Nat) (h : f < 9223372036854775808) : (bits .or .u64 (bits .andNot .u64 (f : Int) 9223372036854775808) (bits .and .u64 13830554455654793216 9223372036854775808)).toNat = f + 9223372036854775808 := by
  rw [not_top f h, show bits .and .u64 13830554455654793216 9223372036854775808 = ((9223372036854775808 : Nat) : Int) by decide, or_u64 f 9223372036854775808 (by omega) (by omega) (by rw [or_top f h]; omega), or_top f h]
  simp only [Int.toNat_natCast]
theorem copysign_pos (f : Nat) (h : f < 9223372036854775808) (w : World) :
    Calls Tryd.prog 32 #[.float .f64 f, .float .f64 4607182418800017408] w fun e w' => e = .returned (.float .f64 f) ∧ w = w' := by
  have hf := run_from
  have hd := run_to
  have HS := Lib.hid (sign_pos f h)
  go_enter Tryd.func32, Tryd.ntmps32
  go_wp2_with fail
  go_ret
  exact ⟨congrArg (fun x => Ending.returned (.float .f64 x)) HS.out, rfl⟩
theorem copysign_neg (f : Nat) (h : f < 9223372036854775808) (w : World) :
    Calls Tryd.prog 32 #[.float .f64 f, .float .f64 13830554455654793216] w fun e w' => e = .returned (.float .f64 (f + 9223372036854775808)) ∧ w = w' := by
  have hf := run_from
  have hd := run_to
  have HS := Lib.hid (sign_neg f h)
  go_enter Tryd.func32, Tryd.ntmps32
  go_wp2_with fail
  go_ret
  exact ⟨congrArg (fun x => Ending.returned (.float .f64 x)) HS.out, rfl⟩
theorem inf_any (s : Int) (w : World) :
    Calls Tryd.prog 31 #[.int .i64 s] w fun e w' => e = .returned (.float .f64 (if 0 ≤ s then 9218868437227405312 else 18442240474082181120)) ∧ w = w' := by
  have hf := run_from
  by_cases h : 0 ≤ s
  · rw [if_pos h]
    go_enter Tryd.func31, Tryd.ntmps31
    go_wp2_with fail
    go_ret
    exact ⟨rfl, rfl⟩
  · rw [if_neg h]
    go_enter Tryd.func31, Tryd.ntmps31
    go_wp2_with fail
    go_ret
    exact ⟨rfl, rfl⟩

/-- Digits, fifteen at the most, that read u. -/
structure Digs (s : ByteArray) (u : Nat) : Prop where
  some : s.toList.isEmpty = false
  few : s.size ≤ 15
  inf : (s.toList == [105, 110, 102]) = false
  nan : (s.toList == [110, 97, 110]) = false
  all : (s.data.toList.all fun c => decide (0 ≤ Lib.indexByte [48, 49, 50, 51, 52, 53, 54, 55, 56, 57] c)) = true
  reads : Lib.parseUintB 64 s.data.toList = .ok u
  flt : floatOfInt .f64 u < 9223372036854775808
  num : nanB (floatOfInt .f64 u) = false
  neg : nanB (floatOfInt .f64 u + 9223372036854775808) = false

theorem bytes_below (s : ByteArray) {w w' : World} (h : w' = w ∨ w' = Lib.bytesWorld w 5 s) : Below w.heap.size w w' := by
  rcases h with rfl | rfl
  · exact Below.refl _ _
  · exact Go.Joins.below_bytesWorld _ _ _ _ (Nat.le_refl _)

theorem int_neg (w : World) : (convert 47 3 (.float .f64 13830554455654793216)).run Tryd.prog w = .ok (.int .i64 (-1)) w :=
  run_convert_float_int w 47 3 .f64 .i64 13830554455654793216 (-1) (by kernel_rfl) (by kernel_rfl) (by decide +kernel)
theorem int_pos (w : World) : (convert 47 3 (.float .f64 4607182418800017408)).run Tryd.prog w = .ok (.int .i64 1) w :=
  run_convert_float_int w 47 3 .f64 .i64 4607182418800017408 1 (by kernel_rfl) (by kernel_rfl) (by decide +kernel)

set_option maxHeartbeats 1000000 in
theorem of_plain (s : ByteArray) (u : Nat) (w : World) (h0 : Lib.hasPrefix s.data.toList [48, 120] = false) (hm : Lib.hasPrefix s.data.toList [45] = false) (hp : Lib.hasPrefix s.data.toList [43] = false) (hd : Digs s u) :
    Calls Tryd.prog 14 #[.string s] w fun e w' => e = .returned (.tuple #[.int .u64 (floatOfInt .f64 u), .bool true]) ∧ Below w.heap.size w w' := by
  have HD := Lib.hid run_from
  have H0 := Lib.hid h0; have HM := Lib.hid hm; have HP := Lib.hid hp; clear h0 hm hp
  obtain ⟨d1, d2, d3, d4, d5, d6, d7, d8, d9⟩ := hd
  have A5 := Lib.hid d5; have A6 := Lib.hid d6; have A7 := Lib.hid d7; have A8 := Lib.hid d8
  obtain ⟨F, hF⟩ : ∃ F, F = floatOfInt .f64 u := ⟨_, rfl⟩
  rw [← hF]
  rw [← hF] at A7 A8
  have HF := Lib.hid hF
  clear d5 d6 d7 d8 d9 hF
  go_enter Tryd.func14, Tryd.ntmps14
  go_wp2_with fail
  refine (Tryd.strings_CutPrefix s _ _).mono ?_
  rintro e w1 ⟨rfl, hw⟩
  subst hw
  rw [show (⟨#[48, 120]⟩ : ByteArray).data.toList = [48, 120] from rfl, H0.out]
  obtain ⟨T, hT⟩ : ∃ T : ByteArray, T = ⟨(Lib.trimPrefix s.data.toList [48, 120]).toArray⟩ := ⟨_, rfl⟩
  rw [← hT]
  clear hT
  go_wp2_with fail
  refine (Tryd.strings_HasPrefix s _ _).mono ?_
  rintro e w1 ⟨rfl, hw⟩
  subst hw
  rw [show (⟨#[45]⟩ : ByteArray).data.toList = [45] from rfl, HM.out]
  go_wp2_with fail
  refine (Tryd.strings_HasPrefix s _ _).mono ?_
  rintro e w1 ⟨rfl, hw⟩
  subst hw
  rw [show (⟨#[45]⟩ : ByteArray).data.toList = [45] from rfl, HM.out]
  go_wp2_with fail
  refine (Tryd.strings_HasPrefix s _ _).mono ?_
  rintro e w1 ⟨rfl, hw⟩
  subst hw
  rw [show (⟨#[43]⟩ : ByteArray).data.toList = [43] from rfl, HP.out]
  go_wp2_with fail
  refine (all_any s _ _ (by omega)).mono ?_
  rintro e w1 ⟨rfl, rfl⟩
  rw [show (⟨#[48, 49, 50, 51, 52, 53, 54, 55, 56, 57]⟩ : ByteArray).data.toList = [48, 49, 50, 51, 52, 53, 54, 55, 56, 57] from rfl, A5.out]
  go_wp2_with fail
  refine (Tryd.strconv_ParseUint_10_at64_ok s (by omega) u A6.out _).mono ?_
  rintro e w2 ⟨rfl, hw⟩
  have hb := bytes_below s hw
  have HB := Lib.hid hb; clear hb hw
  go_wp2_with fail
  rw [← HF.out]
  refine (copysign_pos F A7.out _).mono ?_
  rintro e w3 ⟨rfl, rfl⟩
  go_wp2_with fail
  refine (bits_any _ _).mono ?_
  rintro e w4 ⟨rfl, rfl⟩
  rw [clean_same A8.out]
  go_wp2_with fail
  go_ret2
  exact ⟨rfl, HB.out⟩
set_option maxHeartbeats 1000000 in
theorem of_minus (s d : ByteArray) (u : Nat) (w : World) (h0 : Lib.hasPrefix s.data.toList [48, 120] = false) (hm : Lib.hasPrefix s.data.toList [45] = true) (h1 : 1 ≤ s.size) (hx : s.extract 1 s.size = d) (hd : Digs d u) :
    Calls Tryd.prog 14 #[.string s] w fun e w' => e = .returned (.tuple #[.int .u64 ((floatOfInt .f64 u + 9223372036854775808 : Nat)), .bool true]) ∧ Below w.heap.size w w' := by
  have HD := Lib.hid run_from
  have H0 := Lib.hid h0; have HM := Lib.hid hm; clear h0 hm
  have HXX := Lib.hid hx; clear hx
  obtain ⟨d1, d2, d3, d4, d5, d6, d7, d8, d9⟩ := hd
  have A5 := Lib.hid d5; have A6 := Lib.hid d6; have A7 := Lib.hid d7; have A8 := Lib.hid d9
  obtain ⟨F, hF⟩ : ∃ F, F = floatOfInt .f64 u := ⟨_, rfl⟩
  rw [← hF]
  rw [← hF] at A7 A8
  have HF := Lib.hid hF
  clear d5 d6 d7 d8 d9 hF
  go_enter Tryd.func14, Tryd.ntmps14
  go_wp2_with fail
  refine (Tryd.strings_CutPrefix s _ _).mono ?_
  rintro e w1 ⟨rfl, hw⟩
  subst hw
  rw [show (⟨#[48, 120]⟩ : ByteArray).data.toList = [48, 120] from rfl, H0.out]
  obtain ⟨T, hT⟩ : ∃ T : ByteArray, T = ⟨(Lib.trimPrefix s.data.toList [48, 120]).toArray⟩ := ⟨_, rfl⟩
  rw [← hT]
  clear hT
  go_wp2_with fail
  refine (Tryd.strings_HasPrefix s _ _).mono ?_
  rintro e w1 ⟨rfl, hw⟩
  subst hw
  rw [show (⟨#[45]⟩ : ByteArray).data.toList = [45] from rfl, HM.out]
  go_wp2_with fail
  refine (Tryd.strings_HasPrefix s _ _).mono ?_
  rintro e w1 ⟨rfl, hw⟩
  subst hw
  rw [show (⟨#[45]⟩ : ByteArray).data.toList = [45] from rfl, HM.out]
  go_upto_region 10 with (fail)
  rw [HXX.out]
  clear h1 H0 HM HXX
  have e15 : ¬ ((15 : Int) < (d.size : Int)) := by omega
  go_wp2_with fail
  refine (all_any d _ _ (by omega)).mono ?_
  rintro e w1 ⟨rfl, rfl⟩
  rw [show (⟨#[48, 49, 50, 51, 52, 53, 54, 55, 56, 57]⟩ : ByteArray).data.toList = [48, 49, 50, 51, 52, 53, 54, 55, 56, 57] from rfl, A5.out]
  go_wp2_with fail
  refine (Tryd.strconv_ParseUint_10_at64_ok d (by omega) u A6.out _).mono ?_
  rintro e w2 ⟨rfl, hw⟩
  have hb := bytes_below d hw
  have HB := Lib.hid hb; clear hb hw
  go_wp2_with fail
  rw [← HF.out]
  refine (copysign_neg F A7.out _).mono ?_
  rintro e w3 ⟨rfl, rfl⟩
  go_wp2_with fail
  refine (bits_any _ _).mono ?_
  rintro e w4 ⟨rfl, rfl⟩
  rw [clean_same A8.out]
  go_wp2_with fail
  go_ret2
  exact ⟨rfl, HB.out⟩
end Go.Proofs.YtnddnhjlaojllaaDoor
