/-
  The contracts of the law's noNumber, of float.canon, math.Copysign, math.Inf.
-/
import Derived.Test.YtnddnhjlaojllaaDoorRealF
namespace Go.Proofs.YtnddnhjlaojllaaDoor
open Go.RowKit

theorem and_u64 (a b : Nat) (ha : a < 18446744073709551616) (hb : b < 18446744073709551616) : bits .and .u64 (a : Int) (b : Int) = ((a &&& b : Nat) : Int) := by
  show IntKind.u64.wrap ((BitVec.ofInt 64 (a : Int) &&& BitVec.ofInt 64 (b : Int)).toNat : Int) = _
  rw [BitVec.toNat_and, BitVec.ofInt_natCast, BitVec.ofInt_natCast, BitVec.toNat_ofNat, BitVec.toNat_ofNat, Nat.mod_eq_of_lt ha, Nat.mod_eq_of_lt hb]
  have : a &&& b < 18446744073709551616 := Nat.lt_of_le_of_lt Nat.and_le_left ha
  show ((a &&& b : Nat) : Int) % (2 ^ 64 : Int) = _
  omega
theorem and_low (a : Nat) : a &&& 4503599627370495 = a % 4503599627370496 := by
  have := Nat.and_two_pow_sub_one_eq_mod a 52
  simpa using this
theorem and_exp (a : Nat) : a &&& 9218868437227405312 = (a % 9223372036854775808) / 4503599627370496 * 4503599627370496 := by
  have h1 : (a &&& 9218868437227405312) % 2 ^ 52 = 0 := by
    rw [Nat.and_mod_two_pow]
    simp
  have h2 : (a &&& 9218868437227405312) / 2 ^ 52 = a / 2 ^ 52 % 2 ^ 11 := by
    rw [Nat.and_div_two_pow]
    have := Nat.and_two_pow_sub_one_eq_mod (a / 2 ^ 52) 11
    simpa using this
  omega

def noNum (a : Nat) : Bool := decide (9218868437227405312 < rung a)

theorem noNumber_any (a : Nat) (ha : a < 18446744073709551616) (w : World) :
    Calls Tryd.prog 18 #[.int .u64 a] w fun e w' => e = .returned (.bool (nanB a)) ∧ w = w' := by
  have e1 : bits .and .u64 (a : Int) 9218868437227405312 = ((a % 9223372036854775808 / 4503599627370496 * 4503599627370496 : Nat) : Int) := by
    rw [← and_exp]; exact and_u64 a 9218868437227405312 ha (by decide)
  have e2 : bits .and .u64 (a : Int) 4503599627370495 = ((a % 4503599627370496 : Nat) : Int) := by
    rw [← and_low]; exact and_u64 a 4503599627370495 ha (by decide)
  have hn : nanB a = decide (9218868437227405312 < a % 9223372036854775808) := nanB_eq a
  have HN := Lib.hid hn; clear hn
  obtain ⟨x, hx⟩ : ∃ x, x = a % 9223372036854775808 / 4503599627370496 * 4503599627370496 := ⟨_, rfl⟩
  obtain ⟨y, hy⟩ : ∃ y, y = a % 4503599627370496 := ⟨_, rfl⟩
  rw [← hx] at e1
  rw [← hy] at e2
  have HX := Lib.hid hx; have HY := Lib.hid hy; clear hx hy
  by_cases h1 : x = 9218868437227405312
  · by_cases h2 : y = 0
    · have hr : nanB a = false := by rw [HN.out, decide_eq_false_iff_not]; have := HX.out; have := HY.out; omega
      subst h1 h2
      rw [hr]
      clear hr
      go_enter Tryd.func18, Tryd.ntmps18
      go_wp2_with fail
      go_ret
      exact ⟨rfl, rfl⟩
    · have hr : nanB a = true := by rw [HN.out, decide_eq_true_iff]; have := HX.out; have := HY.out; omega
      have h3 : ((y : Int) != 0) = true := by simp; exact h2
      subst h1
      rw [hr]
      clear hr h2
      go_enter Tryd.func18, Tryd.ntmps18
      go_wp2_with fail
      go_ret
      exact ⟨rfl, rfl⟩
  · have hr : nanB a = false := by rw [HN.out, decide_eq_false_iff_not]; have := HX.out; omega
    have h3 : ((x : Int) == 9218868437227405312) = false := by simp; omega
    rw [hr]
    clear hr h1
    go_enter Tryd.func18, Tryd.ntmps18
    go_wp2_with fail
    go_ret
    exact ⟨rfl, rfl⟩

theorem canon_any (a : Nat) (w : World) :
    Calls Tryd.prog 28 #[.int .u64 a] w fun e w' => e = .returned (.int .u64 (cleanB a)) ∧ w = w' := by
  have hf := run_from
  obtain ⟨c, hc⟩ : ∃ c, c = cleanB a := ⟨_, rfl⟩
  rw [← hc]
  have HC := Lib.hid hc; clear hc
  go_enter Tryd.func28, Tryd.ntmps28
  go_wp2_with fail
  refine (bits_any _ _).mono ?_
  rintro e w1 ⟨rfl, rfl⟩
  rw [← HC.out]
  go_wp2_with fail
  go_ret
  exact ⟨rfl, rfl⟩
end Go.Proofs.YtnddnhjlaojllaaDoor
