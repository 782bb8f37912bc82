/-
  Plain laws: what one, nought and infinity do to any number.
-/
import Derived.Test.YtnddnhjlaojllaaDoorRealP
namespace Go.Proofs.YtnddnhjlaojllaaDoor
open Go.RowKit

theorem mag_lt (r : Nat) : mag r < 9007199254740992 := by
  unfold mag; split <;> omega
theorem read_one : Ieee.double.read 4607182418800017408 = .number false 4503599627370496 (-52) := by decide +kernel
theorem read_zero : Ieee.double.read 0 = .number false 0 (-1074) := by decide +kernel
theorem read_negz : Ieee.double.read 9223372036854775808 = .number true 0 (-1074) := by decide +kernel
theorem read_neg1 : Ieee.double.read 13830554455654793216 = .number true 4503599627370496 (-52) := by decide +kernel

/-- A number of so many digits. -/
theorem mul_one (s t : Bool) (m : Nat) (i : Int) : ((Ieee.Datum.number s m i).product (.number t 4503599627370496 (-52))).map Ieee.double.write = some (Ieee.double.nearest (s ^^ t) m i) := by
  show some (Ieee.double.nearest (s ^^ t) (m * 4503599627370496) (i + -52)) = _
  have h := nearest_scale (s ^^ t) m 52 i
  rw [show (2 : Nat) ^ 52 = 4503599627370496 by decide, show i - ((52 : Nat) : Int) = i + -52 by omega] at h
  rw [h]
theorem quo_one (s t : Bool) (m : Nat) (i : Int) (hm : m < 9007199254740992) : ((Ieee.Datum.number s m i).quotient 54 (.number t 4503599627370496 (-52))).map Ieee.double.write = some (Ieee.double.nearest (s ^^ t) m i) := by
  have hl : m.log2 ≤ 52 := by
    by_cases h0 : m = 0
    · subst h0; decide
    · have := (Nat.log2_lt (k := 53) h0).2 (by simpa using hm); omega
  have hn : (4503599627370496 : Nat).log2 = 52 := log2_norm (by omega) (by omega)
  unfold Ieee.Datum.quotient
  dsimp only
  rw [if_neg (by decide), hn]
  obtain ⟨k, hk⟩ : ∃ k, 54 + 52 - m.log2 = k + 52 := ⟨54 - m.log2, by omega⟩
  rw [hk, Nat.shiftLeft_eq, Nat.pow_add, ← Nat.mul_assoc, show (2 : Nat) ^ 52 = 4503599627370496 by decide, Nat.mul_div_cancel _ (by omega), Nat.mul_mod_left]
  show some (Ieee.double.nearest (s ^^ t) (2 * (m * 2 ^ k) + 0) (i - -52 - ((k + 52 : Nat) : Int) - 1)) = _
  have h := nearest_scale (s ^^ t) m (k + 1) i
  rw [show 2 * (m * 2 ^ k) + 0 = m * 2 ^ (k + 1) by rw [Nat.pow_succ, Nat.add_zero, Nat.mul_comm, Nat.mul_assoc], show (i - -52 - ((k + 52 : Nat) : Int) - 1) = i - ((k + 1 : Nat) : Int) by omega, h]

theorem sv_natAbs (s : Bool) (n : Nat) : (sv s n).natAbs = n := by cases s <;> simp [sv]
theorem sv_sign (s : Bool) (n : Nat) : (if sv s n = 0 then s && true else decide (sv s n < 0)) = s ∨ n = 0 := by
  by_cases h : n = 0
  · exact .inr h
  · left
    have : sv s n ≠ 0 := by cases s <;> simp [sv] <;> omega
    rw [if_neg this]
    cases s
    · simp [sv]
    · simp [sv]; omega
theorem sum_negz (s : Bool) (m u : Nat) : ((Ieee.Datum.number s m (-1074 + (u : Int))).sum (.number true 0 (-1074))).map Ieee.double.write = some (Ieee.double.nearest s m (-1074 + (u : Int))) := by
  simp only [Ieee.Datum.sum]
  rw [show min (-1074 + (u : Int)) (-1074) = -1074 by omega, show (-1074 + (u : Int) - -1074).toNat = u by omega, signed_eq, signed_eq]
  rw [show sv true (0 * 2 ^ (-1074 - -1074 : Int).toNat) = 0 by simp [sv], Int.add_zero]
  show some (Ieee.double.nearest (if sv s (m * 2 ^ u) = 0 then s && true else decide (sv s (m * 2 ^ u) < 0)) (sv s (m * 2 ^ u)).natAbs (-1074)) = _
  rw [sv_natAbs]
  have h := nearest_scale s m u (-1074 + (u : Int))
  rw [show (-1074 + (u : Int) - (u : Int)) = -1074 by omega] at h
  rw [← h]
  rcases sv_sign s (m * 2 ^ u) with e | e
  · rw [e]
  · rw [e]
    have : sv s 0 = 0 := by cases s <;> rfl
    rw [this, if_pos rfl, Bool.and_true]
theorem sum_self (s : Bool) (m : Nat) (i : Int) : ((Ieee.Datum.number s m i).sum (.number (!s) m i)).map Ieee.double.write = some 0 := by
  simp only [Ieee.Datum.sum]
  rw [Int.min_self, signed_eq, signed_eq]
  have : sv s (m * 2 ^ (i - i).toNat) + sv (!s) (m * 2 ^ (i - i).toNat) = 0 := by
    cases s <;> simp [sv] <;> omega
  rw [this, if_pos rfl, Bool.and_not_self]
  show some (Ieee.double.nearest false (Int.natAbs 0) i) = _
  unfold Ieee.Format.nearest
  rw [if_pos (by rfl)]
  rfl

theorem fin_nearest {x : Nat} (hx : x < 18446744073709551616) (h : rung x < 9218868437227405312) : Ieee.double.nearest (sgn x) (mag (rung x)) (-1074 + (up (rung x) : Int)) = x := by
  rw [nearest_rung _ h, word_eq hx]
theorem inf_word {x : Nat} (hx : x < 18446744073709551616) (h : rung x = 9218868437227405312) : Ieee.double.write (.infinity (sgn x)) = x := by
  show Ieee.double.word _ _ = _
  rw [inf_eq, ← h, word_eq hx]

/-- An operation that gives a number. -/
theorem arith_of {op : BinOp} {a b r : Nat} (h : (opD op (Ieee.double.read a) (Ieee.double.read b)).map Ieee.double.write = some r) (hr : nanB r = false) : arithF op a b = r := by
  unfold arithF
  rw [floatBits_opD, h]
  exact clean_same hr
theorem arith_bad {op : BinOp} {a b : Nat} (h : opD op (Ieee.double.read a) (Ieee.double.read b) = none) : arithF op a b = 9221120237041090560 := by
  unfold arithF
  rw [floatBits_opD, h]
  rfl
theorem nan_no {a : Nat} (na : nanB a = false) : rung a ≤ 9218868437227405312 := by
  rw [nanB_eq, decide_eq_false_iff_not] at na; omega

theorem opD_mul (x y : Ieee.Datum) : opD .mul x y = x.product y := rfl
theorem opD_quo (x y : Ieee.Datum) : opD .quo x y = x.quotient 54 y := rfl
theorem opD_add (x y : Ieee.Datum) : opD .add x y = x.sum y := rfl
theorem opD_sub (x y : Ieee.Datum) : opD .sub x y = x.sum y.opposite := rfl
theorem opp_num (s : Bool) (m : Nat) (i : Int) : (Ieee.Datum.number s m i).opposite = .number (!s) m i := rfl
theorem ones {x : Nat} (hx : x < 18446744073709551616) (na : nanB x = false) :
    arithF .mul x 4607182418800017408 = x ∧ arithF .quo x 4607182418800017408 = x ∧ arithF .sub x 0 = x ∧ arithF .add x 9223372036854775808 = x ∧
    arithF .sub x x = if rung x = 9218868437227405312 then 9221120237041090560 else 0 := by
  rcases Nat.lt_or_eq_of_le (nan_no na) with h | h
  · refine ⟨arith_of ?_ na, arith_of ?_ na, arith_of ?_ na, arith_of ?_ na, ?_⟩
    · rw [read_fin h, read_one]
      rw [opD_mul, mul_one, Bool.xor_false, fin_nearest hx h]
    · rw [read_fin h, read_one]
      rw [opD_quo, quo_one _ _ _ _ (mag_lt _), Bool.xor_false, fin_nearest hx h]
    · rw [read_fin h, read_zero, opD_sub, opp_num, Bool.not_false, sum_negz, fin_nearest hx h]
    · rw [read_fin h, read_negz, opD_add, sum_negz, fin_nearest hx h]
    · rw [if_neg (by omega)]
      refine arith_of ?_ (by rw [nanB_eq]; decide)
      rw [read_fin h, opD_sub, opp_num, sum_self]
  · have hw := inf_word hx h
    refine ⟨arith_of ?_ na, arith_of ?_ na, arith_of ?_ na, arith_of ?_ na, ?_⟩
    · rw [read_inf h, read_one]
      show some (Ieee.double.write (.infinity (sgn x ^^ false))) = _
      rw [Bool.xor_false, hw]
    · rw [read_inf h, read_one]
      show some (Ieee.double.write (.infinity (sgn x ^^ false))) = _
      rw [Bool.xor_false, hw]
    · rw [read_inf h, read_zero]
      show some (Ieee.double.write (.infinity (sgn x))) = _
      rw [hw]
    · rw [read_inf h, read_negz]
      show some (Ieee.double.write (.infinity (sgn x))) = _
      rw [hw]
    · rw [if_pos h]
      refine arith_bad ?_
      rw [read_inf h]
      show (if sgn x = !sgn x then _ else none) = _
      rw [if_neg (by cases sgn x <;> simp)]
end Go.Proofs.YtnddnhjlaojllaaDoor
