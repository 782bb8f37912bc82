/-
  The walk of the law RealOnes.
-/
import Derived.Test.YtnddnhjlaojllaaDoorRealQ
namespace Go.Proofs.YtnddnhjlaojllaaDoor
open Go.RowKit

theorem below_drewN3 {B : Nat} {w w1 : World} (h : Below B w w1) (n : Nat) : Below B w (w1.drewN n) := by
  induction n with
  | zero => exact h
  | succ n ih => exact ih.drew
theorem opv_add (a b : Nat) : opF (⟨#[43]⟩ : ByteArray).toList a b = (arithF .add a b, true) := by
  rw [show (⟨#[43]⟩ : ByteArray).toList = [43] by decide +kernel]; rfl
theorem opv_sub (a b : Nat) : opF (⟨#[45]⟩ : ByteArray).toList a b = (arithF .sub a b, true) := by
  rw [show (⟨#[45]⟩ : ByteArray).toList = [45] by decide +kernel]; rfl
theorem opv_mul (a b : Nat) : opF (⟨#[42]⟩ : ByteArray).toList a b = (arithF .mul a b, true) := by
  rw [show (⟨#[42]⟩ : ByteArray).toList = [42] by decide +kernel]; rfl
theorem opv_quo (a b : Nat) : opF (⟨#[47]⟩ : ByteArray).toList a b = (arithF .quo a b, true) := by
  rw [show (⟨#[47]⟩ : ByteArray).toList = [47] by decide +kernel]; rfl

/-- x<<1, as a word. -/
theorem shl_one (a : Nat) : IntKind.u64.wrap ((a : Int) * 2) = ((rung a * 2 : Nat) : Int) := by
  unfold rung
  show ((a : Int) * 2) % (2 ^ 64 : Int) = _
  omega


theorem inf_test (a : Nat) : ((IntKind.u64.wrap ((a : Int) * 2)) == 18437736874454810624) = decide (rung a = 9218868437227405312) := by
  rw [shl_one, Bool.eq_iff_iff, beq_iff_eq, decide_eq_true_iff]
  omega

set_option maxHeartbeats 4000000 in
theorem realOnes_at (a : Nat) (w : World) (ha : a < 18446744073709551616) (nan : Bool) (x1 x2 x3 x4 x5 : Nat) (hn : nanB a = nan)
    (h1 : arithF .mul a 4607182418800017408 = x1) (h2 : arithF .quo a 4607182418800017408 = x2) (h3 : arithF .sub a 0 = x3) (h4 : arithF .add a 9223372036854775808 = x4) (h5 : arithF .sub a a = x5)
    (hc : nan = true ∧ x1 = 9221120237041090560 ∧ x2 = 9221120237041090560 ∧ x3 = 9221120237041090560 ∧ x4 = 9221120237041090560 ∧ x5 = 9221120237041090560 ∨
      nan = false ∧ x1 = a ∧ x2 = a ∧ x3 = a ∧ x4 = a ∧ (((IntKind.u64.wrap ((a : Int) * 2)) == 18437736874454810624) = true ∧ x5 = 9221120237041090560 ∨ ((IntKind.u64.wrap ((a : Int) * 2)) == 18437736874454810624) = false ∧ x5 = 0)) :
    Calls Tryd.prog 6 #[.int .u64 a] w fun e w' => e = .returned (.bool true) ∧ Below w.heap.size w w' := by
  have O1 := Lib.hid (opv_mul a 4607182418800017408); have O2 := Lib.hid (opv_quo a 4607182418800017408); have O3 := Lib.hid (opv_sub a 0); have O4 := Lib.hid (opv_add a 9223372036854775808); have O5 := Lib.hid (opv_sub a a)
  rw [h1] at O1; rw [h2] at O2; rw [h3] at O3; rw [h4] at O4; rw [h5] at O5
  have NA := Lib.hid hn
  have HA := Lib.hid ha
  clear h1 h2 h3 h4 h5 hn ha
  rcases hc with ⟨rfl, rfl, rfl, rfl, rfl, rfl⟩ | ⟨rfl, e1, e2, e3, e4, ⟨hi, rfl⟩ | ⟨hi, rfl⟩⟩
  all_goals
    first | subst e1 | skip
    first | subst e2 | skip
    first | subst e3 | skip
    first | subst e4 | skip
    go_enter Tryd.func6, Tryd.ntmps6
    go_wp2_with fail
    refine (alive_any _).mono ?_
    rintro e w1 ⟨rfl, hb1⟩
    have HB := Lib.hid hb1; clear hb1
    go_wp2_with fail
    refine (noNumber_any _ HA.out _).mono ?_
    rintro e w2 ⟨rfl, rfl⟩
    rw [NA.out]
    go_wp2_with fail
    refine (op_any ⟨#[42]⟩ _ 4607182418800017408 _ HA.out).mono ?_
    rintro e w2 ⟨rfl, q1, rfl⟩
    rw [O1.out]
    go_wp2_with fail
    refine (op_any ⟨#[47]⟩ _ 4607182418800017408 _ HA.out).mono ?_
    rintro e w2 ⟨rfl, q2, rfl⟩
    rw [O2.out]
    go_wp2_with fail
    refine (op_any ⟨#[45]⟩ _ 0 _ HA.out).mono ?_
    rintro e w2 ⟨rfl, q3, rfl⟩
    rw [O3.out]
    go_wp2_with fail
    refine (op_any ⟨#[43]⟩ _ 9223372036854775808 _ HA.out).mono ?_
    rintro e w2 ⟨rfl, q4, rfl⟩
    rw [O4.out]
    go_wp2_with fail
    refine (op_any ⟨#[45]⟩ _ _ _ HA.out).mono ?_
    rintro e w2 ⟨rfl, q5, rfl⟩
    rw [O5.out]
    go_wp2_with fail
    all_goals (go_ret; exact ⟨rfl, below_drewN3 HB.out _⟩)

theorem realOnes_walk (a0 : Int) (w : World) (w1 : (Lit.int .u64 a0).wf = true) (_ : w.ShapedOpen Tryd.prog) :
    Calls Tryd.prog 6 #[.int .u64 a0] w fun e w' => e = .returned (.bool true) ∧ Below w.heap.size w w' := by
  obtain ⟨a, rfl, ha⟩ := u64_nat w1
  cases na : nanB a
  · obtain ⟨h1, h2, h3, h4, h5⟩ := ones ha na
    refine realOnes_at a w ha _ _ _ _ _ _ na h1 h2 h3 h4 h5 (.inr ⟨rfl, rfl, rfl, rfl, rfl, ?_⟩)
    rw [inf_test]
    by_cases h : rung a = 9218868437227405312
    · rw [if_pos h]; exact .inl ⟨decide_eq_true h, rfl⟩
    · rw [if_neg h]; exact .inr ⟨decide_eq_false h, rfl⟩
  · exact realOnes_at a w ha _ _ _ _ _ _ na (arith_nan _ (.inl na)) (arith_nan _ (.inl na)) (arith_nan _ (.inl na)) (arith_nan _ (.inl na)) (arith_nan _ (.inl na)) (.inl ⟨rfl, rfl, rfl, rfl, rfl, rfl⟩)
end Go.Proofs.YtnddnhjlaojllaaDoor
