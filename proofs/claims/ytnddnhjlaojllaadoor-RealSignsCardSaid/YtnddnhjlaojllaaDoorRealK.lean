/-
  Plain laws of the binary64 format: how the words stand in order.
-/
import Derived.Laws.FloatArith
namespace Go.Proofs.YtnddnhjlaojllaaDoor

def sgn (x : Nat) : Bool := x / 9223372036854775808 % 2 == 1
def rung (x : Nat) : Nat := x % 9223372036854775808
def mag (r : Nat) : Nat := if r < 4503599627370496 then r else 4503599627370496 + r % 4503599627370496
def up (r : Nat) : Nat := if r < 4503599627370496 then 0 else r / 4503599627370496 - 1
def val (r : Nat) : Nat := mag r * 2 ^ up r
/-- The word's place in the order. -/
def key (x : Nat) : Int := if sgn x then -(rung x : Int) else rung x

theorem binade_eq : Ieee.double.binade = 4503599627370496 := by decide
theorem sign_eq : Ieee.double.signWeight = 9223372036854775808 := by decide
theorem inf_eq : Ieee.double.infRung = 9218868437227405312 := by decide
theorem least_eq : Ieee.double.leastPlace = -1074 := by decide

theorem read_fin {x : Nat} (h : rung x < 9218868437227405312) : Ieee.double.read x = .number (sgn x) (mag (rung x)) (-1074 + (up (rung x) : Int)) := by
  unfold Ieee.Format.read
  simp only [binade_eq, sign_eq, inf_eq, least_eq]
  unfold mag up
  by_cases h1 : rung x < 4503599627370496
  · rw [if_pos h1, if_pos h1, if_pos (show x % 9223372036854775808 < 4503599627370496 from h1)]
    simp [sgn, rung]
  · rw [if_neg h1, if_neg h1, if_neg (show ¬ x % 9223372036854775808 < 4503599627370496 from h1), if_pos (show x % 9223372036854775808 < 9218868437227405312 from h)]
    rfl
theorem read_inf {x : Nat} (h : rung x = 9218868437227405312) : Ieee.double.read x = .infinity (sgn x) := by
  unfold Ieee.Format.read
  simp only [binade_eq, sign_eq, inf_eq, least_eq]
  have h' : x % 9223372036854775808 = 9218868437227405312 := h
  rw [if_neg (by omega), if_neg (by omega), if_pos h']
  rfl
theorem read_nan {x : Nat} (h : 9218868437227405312 < rung x) : ∃ s t, Ieee.double.read x = .nan s t := by
  unfold Ieee.Format.read
  simp only [binade_eq, sign_eq, inf_eq, least_eq]
  have h' : 9218868437227405312 < x % 9223372036854775808 := h
  rw [if_neg (by omega), if_neg (by omega), if_neg (by omega)]
  exact ⟨_, _, rfl⟩

theorem val_lt {r s : Nat} (h : r < s) : val r < val s := by
  unfold val mag up
  by_cases h1 : s < 4503599627370496
  · rw [if_pos h1, if_pos h1, if_pos (by omega), if_pos (by omega)]
    simpa using h
  by_cases h2 : r < 4503599627370496
  · rw [if_pos h2, if_pos h2, if_neg h1, if_neg h1]
    have hp : 1 ≤ 2 ^ (s / 4503599627370496 - 1) := Nat.one_le_two_pow
    calc r * 2 ^ 0 < 4503599627370496 := by simpa using h2
      _ ≤ 4503599627370496 + s % 4503599627370496 := Nat.le_add_right _ _
      _ ≤ (4503599627370496 + s % 4503599627370496) * 2 ^ (s / 4503599627370496 - 1) := Nat.le_mul_of_pos_right _ hp
  rw [if_neg h1, if_neg h1, if_neg h2, if_neg h2]
  by_cases h3 : r / 4503599627370496 = s / 4503599627370496
  · rw [h3]
    exact Nat.mul_lt_mul_of_pos_right (by omega) (Nat.two_pow_pos _)
  · have h4 : r / 4503599627370496 < s / 4503599627370496 := by omega
    have e : 2 ^ (s / 4503599627370496 - 1) = 2 * 2 ^ (r / 4503599627370496 - 1) * 2 ^ (s / 4503599627370496 - 1 - (r / 4503599627370496 - 1) - 1) := by
      rw [← Nat.pow_succ', ← Nat.pow_add]
      congr 1; omega
    have hp : 1 ≤ 2 ^ (s / 4503599627370496 - 1 - (r / 4503599627370496 - 1) - 1) := Nat.one_le_two_pow
    calc (4503599627370496 + r % 4503599627370496) * 2 ^ (r / 4503599627370496 - 1) < (2 * 4503599627370496) * 2 ^ (r / 4503599627370496 - 1) := Nat.mul_lt_mul_of_pos_right (by omega) (Nat.two_pow_pos _)
      _ = 4503599627370496 * (2 * 2 ^ (r / 4503599627370496 - 1)) := by rw [Nat.mul_comm 2 4503599627370496, Nat.mul_assoc]
      _ ≤ 4503599627370496 * (2 * 2 ^ (r / 4503599627370496 - 1)) * 2 ^ (s / 4503599627370496 - 1 - (r / 4503599627370496 - 1) - 1) := Nat.le_mul_of_pos_right _ hp
      _ = 4503599627370496 * 2 ^ (s / 4503599627370496 - 1) := by rw [e, Nat.mul_assoc]
      _ ≤ (4503599627370496 + s % 4503599627370496) * 2 ^ (s / 4503599627370496 - 1) := Nat.mul_le_mul_right _ (Nat.le_add_right _ _)

theorem val_zero : val 0 = 0 := rfl

/-- Who stands in order so, stands so. -/
theorem compare_of {a b c d : Int} (h1 : a < b ↔ c < d) (h2 : a = b ↔ c = d) : compare a b = compare c d := by
  show compareOfLessAndEq a b = compareOfLessAndEq c d
  unfold compareOfLessAndEq
  by_cases x : a < b
  · rw [if_pos x, if_pos (h1.1 x)]
  · rw [if_neg x, if_neg (fun y => x (h1.2 y))]
    by_cases z : a = b
    · rw [if_pos z, if_pos (h2.1 z)]
    · rw [if_neg z, if_neg (fun y => z (h2.2 y))]

theorem compare_lt {a b : Int} (h : a < b) : compare a b = .lt := by
  show compareOfLessAndEq a b = _
  unfold compareOfLessAndEq
  rw [if_pos h]
theorem compare_gt {a b : Int} (h : b < a) : compare a b = .gt := by
  show compareOfLessAndEq a b = _
  unfold compareOfLessAndEq
  rw [if_neg (by omega), if_neg (by omega)]

def sv (s : Bool) (n : Nat) : Int := if s then -(n : Int) else n
theorem signed_eq (s : Bool) (m k : Nat) : Ieee.signed s m k = sv s (m * 2 ^ k) := by
  unfold Ieee.signed sv
  rw [Nat.shiftLeft_eq]

theorem sv_lt {s t : Bool} {a b c d : Nat} (h1 : a < b ↔ c < d) (h2 : a = b ↔ c = d) (ha : a = 0 ↔ c = 0) (hb : b = 0 ↔ d = 0) : sv s a < sv t b ↔ sv s c < sv t d := by
  cases s <;> cases t <;> simp only [sv] <;> simp <;> omega
theorem sv_eq {s t : Bool} {a b c d : Nat} (_ : a < b ↔ c < d) (h2 : a = b ↔ c = d) (ha : a = 0 ↔ c = 0) (hb : b = 0 ↔ d = 0) : sv s a = sv t b ↔ sv s c = sv t d := by
  cases s <;> cases t <;> simp only [sv] <;> simp <;> omega

theorem val_ord (r s : Nat) : (val r < val s ↔ r < s) ∧ (val r = val s ↔ r = s) ∧ (val r = 0 ↔ r = 0) := by
  have key : ∀ r s, (val r < val s ↔ r < s) ∧ (val r = val s ↔ r = s) := by
    intro r s
    rcases Nat.lt_trichotomy r s with h | h | h
    · have := val_lt h; omega
    · subst h; omega
    · have := val_lt h; omega
  refine ⟨(key r s).1, (key r s).2, ?_⟩
  have := (key r 0).2
  rw [val_zero] at this
  exact this

theorem key_sv (x : Nat) : key x = sv (sgn x) (rung x) := rfl

theorem order_fin {x y : Nat} (hx : rung x < 9218868437227405312) (hy : rung y < 9218868437227405312) : Ieee.double.order x y = some (compare (key x) (key y)) := by
  unfold Ieee.Format.order
  rw [read_fin hx, read_fin hy]
  unfold Ieee.Datum.order
  dsimp only
  congr 1
  obtain ⟨u, hu⟩ : ∃ u, u = up (rung x) := ⟨_, rfl⟩
  obtain ⟨v, hv⟩ : ∃ v, v = up (rung y) := ⟨_, rfl⟩
  rw [← hu, ← hv]
  rw [show (-1074 + (u : Int) - min (-1074 + (u : Int)) (-1074 + v)).toNat = u - min u v by omega, show (-1074 + (v : Int) - min (-1074 + (u : Int)) (-1074 + v)).toNat = v - min u v by omega]
  rw [signed_eq, signed_eq, key_sv, key_sv]
  obtain ⟨p, hp⟩ : ∃ p, p = 2 ^ min u v := ⟨_, rfl⟩
  have pp : 0 < p := by rw [hp]; exact Nat.two_pow_pos _
  have e1 : mag (rung x) * 2 ^ (u - min u v) * p = val (rung x) := by
    rw [hp, Nat.mul_assoc, ← Nat.pow_add, val, ← hu]; congr 2; omega
  have e2 : mag (rung y) * 2 ^ (v - min u v) * p = val (rung y) := by
    rw [hp, Nat.mul_assoc, ← Nat.pow_add, val, ← hv]; congr 2; omega
  obtain ⟨a, ha⟩ : ∃ a, a = mag (rung x) * 2 ^ (u - min u v) := ⟨_, rfl⟩
  obtain ⟨b, hb⟩ : ∃ b, b = mag (rung y) * 2 ^ (v - min u v) := ⟨_, rfl⟩
  rw [← ha] at e1 ⊢; rw [← hb] at e2 ⊢
  obtain ⟨o1, o2, o3⟩ := val_ord (rung x) (rung y)
  have o4 := (val_ord (rung y) 0).2.2
  have c1 : a < b ↔ rung x < rung y := by
    rw [← o1, ← e1, ← e2]; exact (Nat.mul_lt_mul_right pp).symm
  have c2 : a = b ↔ rung x = rung y := by
    rw [← o2, ← e1, ← e2]; exact ⟨fun h => by rw [h], fun h => Nat.eq_of_mul_eq_mul_right pp h⟩
  have c3 : a = 0 ↔ rung x = 0 := by
    rw [← o3, ← e1]; constructor
    · intro h; rw [h, Nat.zero_mul]
    · intro h; rcases Nat.mul_eq_zero.1 h with h | h <;> omega
  have c4 : b = 0 ↔ rung y = 0 := by
    rw [← o4, ← e2]; constructor
    · intro h; rw [h, Nat.zero_mul]
    · intro h; rcases Nat.mul_eq_zero.1 h with h | h <;> omega
  exact compare_of (sv_lt c1 c2 c3 c4) (sv_eq c1 c2 c3 c4)

theorem order_key {x y : Nat} (hx : rung x ≤ 9218868437227405312) (hy : rung y ≤ 9218868437227405312) : Ieee.double.order x y = some (compare (key x) (key y)) := by
  rcases Nat.lt_or_eq_of_le hx with h1 | h1
  · rcases Nat.lt_or_eq_of_le hy with h2 | h2
    · exact order_fin h1 h2
    · unfold Ieee.Format.order
      rw [read_fin h1, read_inf h2]
      unfold Ieee.Datum.order
      dsimp only
      rw [key_sv, key_sv, h2]
      cases sgn y <;> cases sgn x
      · exact congrArg some (compare_lt (show (rung x : Int) < ((9218868437227405312 : Nat) : Int) by omega)).symm
      · exact congrArg some (compare_lt (show -(rung x : Int) < ((9218868437227405312 : Nat) : Int) by omega)).symm
      · exact congrArg some (compare_gt (show -((9218868437227405312 : Nat) : Int) < (rung x : Int) by omega)).symm
      · exact congrArg some (compare_gt (show -((9218868437227405312 : Nat) : Int) < -(rung x : Int) by omega)).symm
  · rcases Nat.lt_or_eq_of_le hy with h2 | h2
    · unfold Ieee.Format.order
      rw [read_inf h1, read_fin h2]
      unfold Ieee.Datum.order
      dsimp only
      rw [key_sv, key_sv, h1]
      cases sgn y <;> cases sgn x
      · exact congrArg some (compare_gt (show (rung y : Int) < ((9218868437227405312 : Nat) : Int) by omega)).symm
      · exact congrArg some (compare_lt (show -((9218868437227405312 : Nat) : Int) < (rung y : Int) by omega)).symm
      · exact congrArg some (compare_gt (show -(rung y : Int) < ((9218868437227405312 : Nat) : Int) by omega)).symm
      · exact congrArg some (compare_lt (show -((9218868437227405312 : Nat) : Int) < -(rung y : Int) by omega)).symm
    · unfold Ieee.Format.order
      rw [read_inf h1, read_inf h2]
      unfold Ieee.Datum.order
      dsimp only
      rw [key_sv, key_sv, h1, h2]
      cases sgn y <;> cases sgn x <;> rfl
theorem order_nan {x y : Nat} (h : 9218868437227405312 < rung x ∨ 9218868437227405312 < rung y) : Ieee.double.order x y = none := by
  unfold Ieee.Format.order
  rcases h with h | h
  · obtain ⟨s, t, e⟩ := read_nan h
    rw [e]; rfl
  · obtain ⟨s, t, e⟩ := read_nan h
    rw [e]; unfold Ieee.Datum.order; split <;> simp_all
end Go.Proofs.YtnddnhjlaojllaaDoor
