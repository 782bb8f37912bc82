/-
  Plain laws: NaN goes through; one, nought and infinity; from both sides.
-/
import Derived.Test.YtnddnhjlaojllaaDoorRealO
namespace Go.Proofs.YtnddnhjlaojllaaDoor
open Go.RowKit

/-- The four operations, by what the words read. -/
def opD (op : BinOp) (x y : Ieee.Datum) : Option Ieee.Datum := match op with
  | .add => x.sum y
  | .sub => x.sum y.opposite
  | .mul => x.product y
  | .quo => x.quotient 54 y
  | _ => none

theorem floatBits_opD (op : BinOp) (a b : Nat) : floatBits op .f64 a b = (opD op (Ieee.double.read a) (Ieee.double.read b)).map Ieee.double.write := by
  cases op <;> rfl

theorem opD_nan_l (op : BinOp) (s : Bool) (t : Nat) (d : Ieee.Datum) : opD op (.nan s t) d = none := by
  cases op <;> cases d <;> rfl
theorem opD_nan_r (op : BinOp) (s : Bool) (t : Nat) (d : Ieee.Datum) : opD op d (.nan s t) = none := by
  cases op <;> cases d <;> rfl

theorem arith_nan (op : BinOp) {a b : Nat} (h : nanB a = true ∨ nanB b = true) : arithF op a b = 9221120237041090560 := by
  unfold arithF
  rw [floatBits_opD]
  rcases h with h | h
  · rw [nanB_eq, decide_eq_true_iff] at h
    obtain ⟨s, t, e⟩ := read_nan h
    rw [e, opD_nan_l]; rfl
  · rw [nanB_eq, decide_eq_true_iff] at h
    obtain ⟨s, t, e⟩ := read_nan h
    rw [e, opD_nan_r]; rfl
theorem end_nan (l : Bool) {a b : Nat} (h : nanB a = true ∨ nanB b = true) : endF l a b = 9221120237041090560 := by
  unfold endF
  rcases h with h | h <;> rw [h] <;> simp
theorem tests_nan {a b : Nat} (h : nanB a = true ∨ nanB b = true) : ltB a b = false ∧ eqB a b = false ∧ gtB a b = false := by
  have e : FloatKind.f64.format.order a b = none := order_nan (by
    rcases h with h | h
    · rw [nanB_eq, decide_eq_true_iff] at h; exact .inl h
    · rw [nanB_eq, decide_eq_true_iff] at h; exact .inr h)
  unfold ltB eqB gtB
  rw [e]
  exact ⟨rfl, rfl, rfl⟩
theorem clean_nan {a : Nat} (h : nanB a = true) : cleanB a = 9221120237041090560 := by unfold cleanB; rw [h]; rfl

/-- The NaN that a law makes of any word. -/
theorem made_nan (y : Nat) (hy : y < 18446744073709551616) : ∃ n : Nat, bits .or .u64 9221120237041090560 (bits .and .u64 (y : Int) 9223653511831486463) = (n : Int) ∧ n < 18446744073709551616 ∧ nanB n = true := by
  have e1 := and_u64 y 9223653511831486463 hy (by decide)
  have l1 : y &&& 9223653511831486463 < 18446744073709551616 := Nat.lt_of_le_of_lt Nat.and_le_left hy
  obtain ⟨m, hm⟩ : ∃ m, m = y &&& 9223653511831486463 := ⟨_, rfl⟩
  rw [← hm] at e1 l1
  have l2 : 9221120237041090560 ||| m < 18446744073709551616 := Nat.or_lt_two_pow (n := 64) (by decide) (by simpa using l1)
  have e2 := or_u64 9221120237041090560 m (by decide) l1 l2
  refine ⟨9221120237041090560 ||| m, ?_, l2, ?_⟩
  · rw [show (9223653511831486463 : Int) = ((9223653511831486463 : Nat) : Int) from rfl, e1, show (9221120237041090560 : Int) = ((9221120237041090560 : Nat) : Int) from rfl, e2]
  · rw [nanB_eq, decide_eq_true_iff]
    unfold rung
    have h3 : (9221120237041090560 ||| m) % 2 ^ 63 = (9221120237041090560 % 2 ^ 63) ||| (m % 2 ^ 63) := Nat.or_mod_two_pow
    have h4 : 9221120237041090560 % 2 ^ 63 ≤ (9221120237041090560 % 2 ^ 63) ||| (m % 2 ^ 63) := Nat.left_le_or
    rw [← h3] at h4
    have h5 : (9221120237041090560 : Nat) % 2 ^ 63 = 9221120237041090560 := by decide
    have h6 : (2 : Nat) ^ 63 = 9223372036854775808 := by decide
    rw [h5, h6] at h4
    omega

theorem order_swap (a b : Nat) : FloatKind.f64.format.order b a = (FloatKind.f64.format.order a b).map Ordering.swap := by
  by_cases na : 9218868437227405312 < rung a
  · rw [show FloatKind.f64.format.order b a = none from order_nan (.inr na), show FloatKind.f64.format.order a b = none from order_nan (.inl na)]; rfl
  by_cases nb : 9218868437227405312 < rung b
  · rw [show FloatKind.f64.format.order b a = none from order_nan (.inl nb), show FloatKind.f64.format.order a b = none from order_nan (.inr nb)]; rfl
  rw [show FloatKind.f64.format.order b a = _ from order_key (by omega) (by omega), show FloatKind.f64.format.order a b = _ from order_key (by omega) (by omega)]
  show some (compareOfLessAndEq _ _) = some (Ordering.swap (compareOfLessAndEq _ _))
  unfold compareOfLessAndEq
  rcases Int.lt_trichotomy (key a) (key b) with h | h | h
  · rw [if_neg (by omega), if_neg (by omega), if_pos h]; rfl
  · rw [h, if_neg (by omega), if_pos rfl]; rfl
  · rw [if_pos h, if_neg (by omega), if_neg (by omega)]; rfl
theorem lt_gt (a b : Nat) : gtB b a = ltB a b ∧ eqB b a = eqB a b := by
  unfold gtB ltB eqB
  rw [order_swap a b]
  cases FloatKind.f64.format.order a b with
  | none => exact ⟨rfl, rfl⟩
  | some o => cases o <;> exact ⟨rfl, rfl⟩

theorem end_comm {a b : Nat} (l : Bool) (ha : a < 18446744073709551616) (hb : b < 18446744073709551616) : endF l a b = endF l b a := by
  cases na : nanB a
  · cases nb : nanB b
    · rcases order_cases na nb with ⟨h1, h2, h3⟩ | ⟨h1, h2, h3⟩ | ⟨h1, h2, h3⟩
      all_goals
        have k1 := lt_gt a b; have k2 := lt_gt b a
        rw [h1, h2] at k1; rw [h2] at k2; rw [h3] at k2
      · unfold endF lessB
        rw [na, nb, h1, h2, k1.2, ← k2.1]
        cases l <;> rfl
      · by_cases hs : sgn a = sgn b
        · rw [eq_same ha hb na nb h2 hs]
        · unfold endF lessB
          rw [na, nb, h1, h2, k1.2, ← k2.1]
          cases hsa : sgn a <;> cases hsb : sgn b <;> rw [hsa, hsb] at hs <;> cases l <;> first | rfl | exact absurd rfl hs
      · unfold endF lessB
        rw [na, nb, h1, h2, k1.2, ← k2.1]
        cases l <;> rfl
    · rw [end_nan l (.inr nb), end_nan l (.inl nb)]
  · rw [end_nan l (.inl na), end_nan l (.inr na)]

theorem end_one {a b : Nat} (na : nanB a = false) (nb : nanB b = false) : endF true a b = a ∧ endF false a b = b ∨ endF true a b = b ∧ endF false a b = a := by
  unfold endF
  rw [na, nb]
  cases lessB a b
  · exact .inr ⟨rfl, rfl⟩
  · exact .inl ⟨rfl, rfl⟩
end Go.Proofs.YtnddnhjlaojllaaDoor
