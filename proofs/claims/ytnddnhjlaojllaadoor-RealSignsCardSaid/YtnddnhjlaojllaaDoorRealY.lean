/-
  Plain: which numbers are whole, and what whole numbers they are.
-/
import Derived.Test.YtnddnhjlaojllaaDoorRealX
namespace Go.Proofs.YtnddnhjlaojllaaDoor
set_option linter.unusedVariables false

/-- Is a rung's number whole? (Of those below 10^15.) -/
def wholeB (r : Nat) : Bool := decide (mag r % 2 ^ (lowP - up r) = 0)
/-- What of it is whole. -/
def intR (r : Nat) : Nat := mag r / 2 ^ (lowP - up r)
theorem mag_less (r : Nat) : mag r < 9007199254740992 := by unfold mag; split <;> omega
theorem intR_lt (r : Nat) : intR r < 9007199254740992 := Nat.lt_of_le_of_lt (Nat.div_le_self _ _) (mag_less r)
theorem up_low {r : Nat} (h : r < 4831355200913801216) : up r ≤ lowP ∧ up r ≤ 1071 := by
  unfold up lowP
  split <;> omega
theorem val_split {r : Nat} (h : up r ≤ lowP) : (mag r = intR r * 2 ^ (lowP - up r) ↔ val r = intR r * 2 ^ lowP) := by
  unfold val
  have e : (2 : Nat) ^ lowP = 2 ^ (lowP - up r) * 2 ^ up r := by rw [← Nat.pow_add, Nat.sub_add_cancel h]
  rw [e, ← Nat.mul_assoc]
  constructor
  · intro h; rw [← h]
  · intro h; exact Nat.eq_of_mul_eq_mul_right (Nat.pow_pos (by decide)) h
theorem whole_iff {r : Nat} (h : r < 4831355200913801216) : wholeB r = true ↔ FI (intR r) = r := by
  have hu := (up_low h).1
  unfold wholeB
  rw [decide_eq_true_iff]
  constructor
  · intro h0
    refine (FI_val (intR_lt r) ((val_split hu).1 ?_)).symm
    unfold intR
    exact (Nat.div_mul_cancel (Nat.dvd_of_mod_eq_zero h0)).symm
  · intro h0
    have h1 := (FI_all (intR_lt r)).2.1
    rw [h0] at h1
    rw [(val_split hu).2 h1]
    exact Nat.mul_mod_left _ _
theorem FI_B15 : FI 1000000000000000 = 4831355200913801216 := by decide +kernel
theorem FI_one : FI 1 = 4607182418800017408 := by decide +kernel
theorem int_15 {r : Nat} (h : r < 4831355200913801216) (hw : wholeB r = true) : intR r ≤ 999999999999999 := by
  have h1 := (whole_iff h).1 hw
  have h2 : FI (intR r) < FI 1000000000000000 := by rw [h1, FI_B15]; exact h
  rw [FI_lt (intR_lt r) (by decide)] at h2
  omega
theorem int_small {r : Nat} (h : r < 4607182418800017408) : intR r = 0 := by
  have hu := (up_low (show r < 4831355200913801216 by omega)).1
  have h1 : val r < val (FI 1) := (val_ord r (FI 1)).1.2 (by rw [FI_one]; exact h)
  rw [(FI_all (show 1 < 9007199254740992 by decide)).2.1, Nat.one_mul] at h1
  unfold val at h1
  unfold intR
  refine Nat.div_eq_of_lt ?_
  have e : (2 : Nat) ^ lowP = 2 ^ (lowP - up r) * 2 ^ up r := by rw [← Nat.pow_add, Nat.sub_add_cancel hu]
  rw [e] at h1
  exact Nat.lt_of_mul_lt_mul_right h1
/-- Below one only nought is whole. -/
theorem whole_small {r : Nat} (h : r < 4607182418800017408) : wholeB r = decide (r = 0) := by
  have h1 := whole_iff (show r < 4831355200913801216 by omega)
  rw [int_small h, FI_zero] at h1
  cases hw : wholeB r with
  | true => exact (decide_eq_true (h1.1 hw).symm).symm
  | false =>
    refine (decide_eq_false fun h0 => ?_).symm
    rw [h1.2 h0.symm] at hw
    cases hw
/-- From one on: the bits behind the point. -/
theorem whole_bits {r : Nat} (h1 : 4607182418800017408 ≤ r) (h : r < 4831355200913801216) : wholeB r = decide (r % 2 ^ (52 - (r / 4503599627370496 - 1023)) = 0) := by
  unfold wholeB mag up
  rw [if_neg (by omega), if_neg (by omega)]
  have e : lowP - (r / 4503599627370496 - 1) = 52 - (r / 4503599627370496 - 1023) := by unfold lowP; omega
  rw [e]
  obtain ⟨k, hk⟩ : ∃ k, k = 52 - (r / 4503599627370496 - 1023) := ⟨_, rfl⟩
  rw [← hk]
  have hk52 : k ≤ 52 := by omega
  have hd : (4503599627370496 : Nat) = 2 ^ k * 2 ^ (52 - k) := by rw [← Nat.pow_add, show k + (52 - k) = 52 by omega]
  have e2 : (4503599627370496 + r % 4503599627370496) % 2 ^ k = r % 2 ^ k := by
    rw [Nat.add_mod, show 4503599627370496 % 2 ^ k = 0 by rw [hd]; exact Nat.mul_mod_right _ _, Nat.zero_add, Nat.mod_mod]
    exact Nat.mod_mod_of_dvd _ ⟨_, hd⟩
  rw [e2]
/-- What of a number is whole, with its sign, by the model's own cut. -/
theorem to_int {x : Nat} (h : rung x < 4831355200913801216) : (FloatKind.f64.decode x).toInt .zero = some (sv (sgn x) (intR (rung x))) := by
  have hf : rung x < 9218868437227405312 := by omega
  show (Ieee.double.read x).toInt .zero = _
  rw [read_fin hf]
  have hu := up_low h
  unfold Ieee.Datum.toInt Ieee.Datum.integral
  dsimp only
  rw [signed_eq, Nat.pow_zero, Nat.mul_one]
  have e1 : (-1074 + (up (rung x) : Int)).toNat = 0 := by omega
  have e2 : (-(-1074 + (up (rung x) : Int))).toNat = lowP - up (rung x) := by unfold lowP; omega
  rw [e1, e2, Nat.shiftLeft_zero]
  unfold intR
  generalize mag (rung x) = n
  generalize lowP - up (rung x) = d
  unfold Ieee.Toward.cut
  dsimp only
  rw [Nat.one_shiftLeft]
  simp only [Bool.toNat_false, Nat.add_zero]
  congr 2
  rcases Nat.le_total d (n.log2 + 2) with h1 | h1
  · rw [Nat.min_eq_left h1]
  · rw [Nat.min_eq_right h1]
    have hn : n < 2 ^ (n.log2 + 1) := Nat.lt_log2_self
    have a1 : n < 2 ^ (n.log2 + 2) := Nat.lt_of_lt_of_le hn (Nat.pow_le_pow_right (by decide) (by omega))
    have a2 : n < 2 ^ d := Nat.lt_of_lt_of_le a1 (Nat.pow_le_pow_right (by decide) h1)
    rw [Nat.div_eq_of_lt a1, Nat.div_eq_of_lt a2]
theorem sv_natAbs2 (s : Bool) (n : Nat) : (sv s n).natAbs = n := by cases s <;> simp [sv]
theorem int_val {x : Nat} (h : rung x < 4831355200913801216) : floatToIntVal .f64 x .i64 = some (sv (sgn x) (intR (rung x))) := by
  unfold floatToIntVal
  rw [to_int h]
  dsimp only
  have h1 := sv_natAbs2 (sgn x) (intR (rung x))
  have h2 := intR_lt (rung x)
  rw [if_pos]
  rw [show IntKind.i64.min = -9223372036854775808 from rfl, show IntKind.i64.max = 9223372036854775807 from rfl]
  omega
/-- The whole part back as a number: the same only of a whole one. -/
theorem back_key {x : Nat} (h : rung x < 4831355200913801216) : decide (key (bitsZ (sv (sgn x) (intR (rung x)))) = key x) = wholeB (rung x) := by
  have hi := intR_lt (rung x)
  have hn := sv_natAbs2 (sgn x) (intR (rung x))
  have hp := bitsZ_parts (z := sv (sgn x) (intR (rung x))) (by rw [hn]; exact hi)
  rw [hn] at hp
  have hw := whole_iff h
  have hiff : key (bitsZ (sv (sgn x) (intR (rung x)))) = key x ↔ FI (intR (rung x)) = rung x := by
    rw [key_sv, key_sv, hp.1, hp.2.1]
    by_cases h0 : intR (rung x) = 0
    · rw [h0, FI_zero]
      cases sgn x <;> simp [sv] <;> omega
    · have hs : decide (sv (sgn x) (intR (rung x)) < 0) = sgn x := by
        cases sgn x
        · simp [sv]
        · simp [sv]; omega
      rw [hs]
      cases sgn x <;> simp [sv] <;> omega
  cases hb : wholeB (rung x) with
  | true => exact decide_eq_true (hiff.2 (hw.1 hb))
  | false =>
    refine decide_eq_false fun h1 => ?_
    rw [hw.2 (hiff.1 h1)] at hb
    cases hb
/-- What is left of a number without what stands behind the point, as the library cuts it. -/
def truncB (x : Nat) : Nat := if rung x < 4607182418800017408 then (if sgn x then 9223372036854775808 else 0) else x - rung x % 2 ^ (52 - (rung x / 4503599627370496 - 1023))
theorem trunc_key {x : Nat} (hx : x < 18446744073709551616) (h : rung x < 4831355200913801216) : decide (key x = key (truncB x)) = wholeB (rung x) := by
  unfold truncB
  by_cases h1 : rung x < 4607182418800017408
  · rw [if_pos h1, whole_small h1]
    refine decide_eq_decide.2 ?_
    have k0 : key (if sgn x = true then 9223372036854775808 else 0) = 0 := by
      cases sgn x <;> rfl
    rw [k0, key_sv]
    cases sgn x <;> simp [sv]
  · rw [if_neg h1, whole_bits (by omega) h]
    refine decide_eq_decide.2 ?_
    obtain ⟨k, hk⟩ : ∃ k, k = 52 - (rung x / 4503599627370496 - 1023) := ⟨_, rfl⟩
    rw [← hk]
    have hk52 : k ≤ 52 := by omega
    have hm : rung x % 2 ^ k ≤ rung x := Nat.mod_le _ _
    have hlt : rung x < 9223372036854775808 := Nat.mod_lt _ (by decide)
    have e1 : rung (x - rung x % 2 ^ k) = rung x - rung x % 2 ^ k ∧ sgn (x - rung x % 2 ^ k) = sgn x := by
      generalize rung x % 2 ^ k = d at *
      unfold rung sgn at *
      constructor
      · omega
      · have : (x - d) / 9223372036854775808 = x / 9223372036854775808 := by omega
        rw [this]
    rw [key_sv, key_sv, e1.1, e1.2]
    generalize rung x % 2 ^ k = d at *
    cases sgn x <;> simp [sv] <;> omega
end Go.Proofs.YtnddnhjlaojllaaDoor
