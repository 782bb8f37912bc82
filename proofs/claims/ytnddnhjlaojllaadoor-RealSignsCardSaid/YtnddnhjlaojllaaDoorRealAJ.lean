/-
  Whole numbers, reckoned; the document's Int of greater numbers.
-/
import Derived.Test.YtnddnhjlaojllaaDoorRealTexts
import Derived.Test.YtnddnhjlaojllaaDoorRealS
import Derived.Test.YtnddnhjlaojllaaDoorRealO
namespace Go.Proofs.YtnddnhjlaojllaaDoor
open Go.RowKit
set_option linter.unusedVariables false

theorem dec_len : ∀ (k u : Nat), u < 10 ^ (k + 1) → (Lib.decDigits u).length ≤ k + 1
  | 0, u, h => by rw [Lib.decDigits_one (by simpa using h)]; exact Nat.le_refl _
  | k + 1, u, h => by
    by_cases h1 : u < 10
    · rw [Lib.decDigits_one h1]; simp
    · rw [Nat.pow_succ] at h
      rw [Lib.decDigits, dif_neg h1, List.length_append, List.length_singleton]
      have := dec_len k (u / 10) (by omega)
      omega
theorem digits_big : ∀ (k n : Nat), n ≤ k → n < 100000000000000000 → ∀ w : World, Calls Tryd.prog 44 #[.int .i64 n] w (DigPost w n) := by
  intro k
  induction k with
  | zero => intro n h _ w; exact digit_one n (by omega) w
  | succ k ih =>
    intro n h hn w
    by_cases h9 : n ≤ 9
    · exact digit_one n h9 w
    · obtain ⟨r, hr⟩ : ∃ r, r = n % 10 := ⟨_, rfl⟩
      obtain ⟨q, hq⟩ : ∃ q, q = n / 10 := ⟨_, rfl⟩
      have h10 : (n : Int).tmod 10 = (r : Int) := by rw [hr]; rfl
      have h11 : (n : Int).tdiv 10 = (q : Int) := by rw [hq]; rfl
      have hr9 : r ≤ 9 := by omega
      have hqn : q < 100000000000000000 := by omega
      have hqk := Lib.hid (show q ≤ k by omega)
      have ew : IntKind.i64.wrap ((r : Int) + 1) = (r : Int) + 1 := IntWalk.i64_in _ (by omega)
      have ew2 : IntKind.i64.wrap (q : Int) = (q : Int) := IntWalk.i64_in _ (by omega)
      have q1 : (r : Int) ≤ (r : Int) + 1 := by omega
      have q2 : (r : Int) + 1 ≤ 10 := by omega
      have q3 : ((r : Int) + 1).toNat = r + 1 := by omega
      have q4 : (9 : Int) < (n : Int) := by omega
      have HF := Lib.hid (show Lib.decDigits n = Lib.decDigits q ++ [UInt8.ofNat (48 + r)] by rw [Lib.decDigits, dif_neg (by omega), hr, hq])
      clear hr hq h9 h
      go_enter Tryd.func44, Tryd.ntmps44
      go_wp2_with fail
      refine (ih q hqk.out hqn _).mono ?_
      rintro e w1 ⟨D, rfl, hD, hw1⟩
      have HD := Lib.hid hD
      have hDs : D.size ≤ 17 := by rw [Lib.size_eq, hD]; exact dec_len 16 q hqn
      rw [hw1]
      clear hD hw1
      go_wp2_with fail
      go_ret
      refine ⟨_, rfl, ?_, rfl⟩
      rw [HF.out, ba_app, HD.out]
      congr 1
      exact ten_at r hr9
theorem int_big (z : Int) (h : z.natAbs < 100000000000000000) (w : World) : Calls Tryd.prog 24 #[.int .i64 z] w fun e w' => ∃ D : ByteArray, e = .returned (.string D) ∧ D.data.toList = Lib.itoa z ∧ w' = w := by
  obtain ⟨n, hn⟩ : ∃ n, n = z.natAbs := ⟨_, rfl⟩
  rw [← hn] at h
  by_cases hz : z < 0
  · obtain rfl : z = -(n : Int) := by omega
    have HI := Lib.hid (Lib.itoa_neg n (by omega))
    have q0 : ¬ (-(n : Int)) = -9223372036854775808 := by omega
    have q1 : -(n : Int) < 0 := hz
    have ew : IntKind.i64.wrap (-(-(n : Int))) = (n : Int) := by rw [Int.neg_neg]; exact IntWalk.i64_in _ (by omega)
    have ew2 : IntKind.i64.wrap (n : Int) = (n : Int) := IntWalk.i64_in _ (by omega)
    clear hn hz
    go_enter Tryd.func24, Tryd.ntmps24
    go_wp2_with fail
    refine (digits_big n n (Nat.le_refl _) h _).mono ?_
    rintro e w1 ⟨D, rfl, hD, hw1⟩
    have HD := Lib.hid hD
    have hDs : D.size ≤ 17 := by rw [Lib.size_eq, hD]; exact dec_len 16 n h
    rw [hw1]
    clear hD hw1
    go_wp2_with fail
    go_ret
    refine ⟨_, rfl, ?_, rfl⟩
    rw [HI.out, ba_app, HD.out]
    rfl
  · obtain rfl : z = (n : Int) := by omega
    have HI := Lib.hid (Lib.itoa_nonneg n)
    have q0 : ¬ (n : Int) = -9223372036854775808 := by omega
    have q1 : ¬ (n : Int) < 0 := hz
    clear hn hz
    go_enter Tryd.func24, Tryd.ntmps24
    go_wp2_with fail
    refine (digits_big n n (Nat.le_refl _) h _).mono ?_
    rintro e w1 ⟨D, rfl, hD, hw1⟩
    rw [hw1]
    go_wp2_with fail
    go_ret
    exact ⟨_, rfl, by rw [HI.out, hD], rfl⟩

section
variable {a b : Int} (ha : a.natAbs ≤ 33554432) (hb : b.natAbs ≤ 33554432)
include ha hb
theorem whole_add : arithF .add (bitsZ a) (bitsZ b) = bitsZ (a + b) := by
  refine arith_of ?_ (bitsZ_nan (by omega))
  rw [bitsZ_read (by omega), bitsZ_read (by omega), opD_add]
  refine sum_whole _ _ (sv_natAbs' a) (sv_natAbs' b) (fun h => ?_) (by omega) (by omega) (by omega)
  rw [Bool.and_eq_false_iff, decide_eq_false_iff_not, decide_eq_false_iff_not]
  omega
theorem whole_sub : arithF .sub (bitsZ a) (bitsZ b) = bitsZ (a - b) := by
  refine arith_of ?_ (bitsZ_nan (by omega))
  rw [bitsZ_read (by omega), bitsZ_read (by omega), opD_sub, opp_num]
  have hn : (-b).natAbs = b.natAbs := Int.natAbs_neg b
  have h := sum_whole (a := a) (b := -b) (decide (a < 0)) (!decide (b < 0)) (sv_natAbs' a) (by
    rw [hn]
    have := sv_natAbs' b
    revert this
    cases decide (b < 0) <;> simp [sv] <;> omega) (fun h => by
    rw [Bool.and_eq_false_iff, decide_eq_false_iff_not, Bool.not_eq_false', decide_eq_true_iff]
    omega) (by omega) (by omega) (by omega)
  rw [hn] at h
  exact h
theorem whole_mul : arithF .mul (bitsZ a) (bitsZ b) = Ieee.double.word (decide (a < 0) ^^ decide (b < 0)) (FI (a.natAbs * b.natAbs)) := by
  have hm : a.natAbs * b.natAbs ≤ 33554432 * 33554432 := Nat.mul_le_mul ha hb
  refine arith_of ?_ (nan_word _ (Nat.le_of_lt (FI_all (by omega)).1))
  rw [bitsZ_read (by omega), bitsZ_read (by omega), opD_mul]
  exact product_whole _ _ (by omega) (by omega) (by omega)
theorem whole_tests : ltB (bitsZ a) (bitsZ b) = decide (a < b) ∧ eqB (bitsZ a) (bitsZ b) = decide (a = b) := by
  have h := cmp_key (bitsZ_nan (z := a) (by omega)) (bitsZ_nan (z := b) (by omega))
  have pa := bitsZ_parts (z := a) (by omega)
  have pb := bitsZ_parts (z := b) (by omega)
  have e1 : FI a.natAbs < FI b.natAbs ↔ a.natAbs < b.natAbs := FI_lt (by omega) (by omega)
  have e2 : FI a.natAbs = FI b.natAbs ↔ a.natAbs = b.natAbs := FI_eq (by omega) (by omega)
  have e3 : FI a.natAbs = 0 ↔ a.natAbs = 0 := by rw [← FI_eq (T := a.natAbs) (U := 0) (by omega) (by omega), FI_zero]
  have e4 : FI b.natAbs = 0 ↔ b.natAbs = 0 := by rw [← FI_eq (T := b.natAbs) (U := 0) (by omega) (by omega), FI_zero]
  have k1 := sv_lt (s := decide (a < 0)) (t := decide (b < 0)) e1 e2 e3 e4
  have k2 := sv_eq (s := decide (a < 0)) (t := decide (b < 0)) e1 e2 e3 e4
  rw [sv_natAbs', sv_natAbs'] at k1 k2
  refine ⟨h.1.trans (decide_eq_decide.2 ?_), h.2.1.trans (decide_eq_decide.2 ?_)⟩
  · rw [key_sv, key_sv, pa.1, pb.1, pa.2.1, pb.2.1]; exact k1
  · rw [key_sv, key_sv, pa.1, pb.1, pa.2.1, pb.2.1]; exact k2
end
/-- The product's text. -/
theorem mul_text {a b : Int} (hlim : (a * b).natAbs ≤ 999999999999999) :
    textF (Ieee.double.word (decide (a < 0) ^^ decide (b < 0)) (FI (a.natAbs * b.natAbs))) = if a * b = 0 ∧ (a < 0 ∨ b < 0) then [45, 48] else Lib.itoa (a * b) := by
  have hm : a.natAbs * b.natAbs = (a * b).natAbs := (Int.natAbs_mul a b).symm
  rw [hm]
  by_cases h0 : a * b = 0
  · rw [h0, show (0 : Int).natAbs = 0 from rfl, FI_zero]
    have hor : a = 0 ∨ b = 0 := Int.mul_eq_zero.1 h0
    by_cases hn : a < 0 ∨ b < 0
    · rw [if_pos ⟨rfl, hn⟩]
      have : (decide (a < 0) ^^ decide (b < 0)) = true := by
        by_cases h1 : a < 0 <;> by_cases h2 : b < 0 <;> simp [h1, h2] <;> omega
      rw [this]
      decide +kernel
    · rw [if_neg (fun h => hn h.2)]
      have : (decide (a < 0) ^^ decide (b < 0)) = false := by
        by_cases h1 : a < 0 <;> by_cases h2 : b < 0 <;> simp [h1, h2] <;> omega
      rw [this]
      have := text_whole (z := 0) (by decide)
      unfold bitsZ at this
      rw [show (0 : Int).natAbs = 0 from rfl, FI_zero] at this
      exact this
  · rw [if_neg (fun h => h0 h.1)]
    have hs : (decide (a < 0) ^^ decide (b < 0)) = decide (a * b < 0) := by
      rcases Int.lt_trichotomy a 0 with h1 | h1 | h1
      · rcases Int.lt_trichotomy b 0 with h2 | h2 | h2
        · have := Int.mul_pos_of_neg_of_neg h1 h2
          rw [decide_eq_true h1, decide_eq_true h2, decide_eq_false (by omega)]; rfl
        · rw [h2, Int.mul_zero] at h0; exact absurd rfl h0
        · have := Int.mul_neg_of_neg_of_pos h1 h2
          rw [decide_eq_true h1, decide_eq_false (by omega), decide_eq_true this]; rfl
      · rw [h1, Int.zero_mul] at h0; exact absurd rfl h0
      · rcases Int.lt_trichotomy b 0 with h2 | h2 | h2
        · have := Int.mul_neg_of_pos_of_neg h1 h2
          rw [decide_eq_false (by omega), decide_eq_true h2, decide_eq_true this]; rfl
        · rw [h2, Int.mul_zero] at h0; exact absurd rfl h0
        · have := Int.mul_pos h1 h2
          rw [decide_eq_false (by omega), decide_eq_false (by omega), decide_eq_false (by omega)]; rfl
    rw [hs]
    exact text_whole hlim
end Go.Proofs.YtnddnhjlaojllaaDoor
