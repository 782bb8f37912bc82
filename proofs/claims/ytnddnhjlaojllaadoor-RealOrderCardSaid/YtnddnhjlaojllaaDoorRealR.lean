/-
  The walk of the law RealOrder.
-/
import Derived.Test.YtnddnhjlaojllaaDoorRealQ
namespace Go.Proofs.YtnddnhjlaojllaaDoor
open Go.RowKit

theorem below_drewN2 {B : Nat} {w w1 : World} (h : Below B w w1) (n : Nat) : Below B w (w1.drewN n) := by
  induction n with
  | zero => exact h
  | succ n ih => exact ih.drew

set_option maxHeartbeats 4000000 in
theorem realOrder_nan (a b : Nat) (w : World) (ha : a < 18446744073709551616) (hb : b < 18446744073709551616) (h : nanB a = true ∨ nanB a = false ∧ nanB b = true) :
    Calls Tryd.prog 11 #[.int .u64 a, .int .u64 b] w fun e w' => e = .returned (.bool true) ∧ Below w.heap.size w w' := by
  obtain ⟨t1, t2, t3⟩ := tests_nan (a := a) (b := b) (by rcases h with h | h; exact .inl h; exact .inr h.2)
  have I1 := Lib.hid (isv_lt a b); have I2 := Lib.hid (isv_gt a b); have I3 := Lib.hid (isv_eq a b)
  have I4 := Lib.hid (isv_le a b); have I5 := Lib.hid (isv_ge a b); have I6 := Lib.hid (isv_ne a b)
  rw [t1] at I1 I4
  rw [t2] at I3 I4 I5 I6
  rw [t3] at I2 I5
  clear t1 t2 t3
  rcases h with h | ⟨h, h2⟩
  · have NA := Lib.hid h; clear h
    go_enter Tryd.func11, Tryd.ntmps11
    go_wp2_with fail
    refine (alive_any _).mono ?_
    rintro e w1 ⟨rfl, hb1⟩
    have HB := Lib.hid hb1; clear hb1
    go_wp2_with fail
    refine (noNumber_any _ ha _).mono ?_
    rintro e w2 ⟨rfl, rfl⟩
    rw [NA.out]
    go_wp2_with fail
    refine (is_any ⟨#[108, 116]⟩ a b _).mono ?_
    rintro e w2 ⟨rfl, q1, rfl⟩
    rw [I1.out]
    go_wp2_with fail
    refine (is_any ⟨#[103, 116]⟩ a b _).mono ?_
    rintro e w2 ⟨rfl, q2, rfl⟩
    rw [I2.out]
    go_wp2_with fail
    refine (is_any ⟨#[101, 113]⟩ a b _).mono ?_
    rintro e w2 ⟨rfl, q3, rfl⟩
    rw [I3.out]
    go_wp2_with fail
    refine (is_any ⟨#[108, 101]⟩ a b _).mono ?_
    rintro e w2 ⟨rfl, q4, rfl⟩
    rw [I4.out]
    go_wp2_with fail
    refine (is_any ⟨#[103, 101]⟩ a b _).mono ?_
    rintro e w2 ⟨rfl, q5, rfl⟩
    rw [I5.out]
    go_wp2_with fail
    refine (is_any ⟨#[110, 101]⟩ a b _).mono ?_
    rintro e w2 ⟨rfl, q6, rfl⟩
    rw [I6.out]
    go_wp2_with fail
    go_ret
    exact ⟨rfl, by first | exact below_drewN HB.out _ | (repeat (refine below_drewN2 ?_ _)); exact HB.out⟩
  · have NA := Lib.hid h; have NB := Lib.hid h2; clear h h2
    go_enter Tryd.func11, Tryd.ntmps11
    go_wp2_with fail
    refine (alive_any _).mono ?_
    rintro e w1 ⟨rfl, hb1⟩
    have HB := Lib.hid hb1; clear hb1
    go_wp2_with fail
    refine (noNumber_any _ ha _).mono ?_
    rintro e w2 ⟨rfl, rfl⟩
    rw [NA.out]
    go_wp2_with fail
    refine (noNumber_any _ hb _).mono ?_
    rintro e w2 ⟨rfl, rfl⟩
    rw [NB.out]
    go_wp2_with fail
    refine (is_any ⟨#[108, 116]⟩ a b _).mono ?_
    rintro e w2 ⟨rfl, q1, rfl⟩
    rw [I1.out]
    go_wp2_with fail
    refine (is_any ⟨#[103, 116]⟩ a b _).mono ?_
    rintro e w2 ⟨rfl, q2, rfl⟩
    rw [I2.out]
    go_wp2_with fail
    refine (is_any ⟨#[101, 113]⟩ a b _).mono ?_
    rintro e w2 ⟨rfl, q3, rfl⟩
    rw [I3.out]
    go_wp2_with fail
    refine (is_any ⟨#[108, 101]⟩ a b _).mono ?_
    rintro e w2 ⟨rfl, q4, rfl⟩
    rw [I4.out]
    go_wp2_with fail
    refine (is_any ⟨#[103, 101]⟩ a b _).mono ?_
    rintro e w2 ⟨rfl, q5, rfl⟩
    rw [I5.out]
    go_wp2_with fail
    refine (is_any ⟨#[110, 101]⟩ a b _).mono ?_
    rintro e w2 ⟨rfl, q6, rfl⟩
    rw [I6.out]
    go_wp2_with fail
    go_ret
    exact ⟨rfl, by first | exact below_drewN HB.out _ | (repeat (refine below_drewN2 ?_ _)); exact HB.out⟩

set_option maxHeartbeats 8000000 in
theorem realOrder_num (a b : Nat) (w : World) (ha : a < 18446744073709551616) (hb : b < 18446744073709551616) (na : nanB a = false) (nb : nanB b = false) (hm : endF true a b = a ∧ endF false a b = b ∨ endF true a b = b ∧ endF false a b = a) :
    Calls Tryd.prog 11 #[.int .u64 a, .int .u64 b] w fun e w' => e = .returned (.bool true) ∧ Below w.heap.size w w' := by
  have I1 := Lib.hid (isv_lt a b); have I2 := Lib.hid (isv_gt a b); have I3 := Lib.hid (isv_eq a b)
  have I4 := Lib.hid (isv_le a b); have I5 := Lib.hid (isv_ge a b); have I6 := Lib.hid (isv_ne a b)
  have O1 := Lib.hid (op_minl a b); have O2 := Lib.hid (op_maxl a b)
  have hc := order_cases na nb
  have NA := Lib.hid na; have NB := Lib.hid nb; clear na nb
  have HA := Lib.hid ha; have HB2 := Lib.hid hb; clear ha hb
  have E : a = b ∨ (((a : Int) == (b : Int)) = false ∧ ((b : Int) == (a : Int)) = false) := by
    by_cases h : a = b
    · exact .inl h
    · exact .inr ⟨by rw [beq_eq_false_iff_ne]; omega, by rw [beq_eq_false_iff_ne]; omega⟩
  rcases E with rfl | ⟨E1, E2⟩
  all_goals
   rcases hm with ⟨h1, h2⟩ | ⟨h1, h2⟩
   all_goals
    rw [h1] at O1
    rw [h2] at O2
    clear h1 h2
    rcases hc with ⟨t1, t2, t3⟩ | ⟨t1, t2, t3⟩ | ⟨t1, t2, t3⟩
    all_goals
      rw [t1] at I1 I4
      rw [t2] at I3 I4 I5 I6
      rw [t3] at I2 I5
      clear t1 t2 t3
      go_enter Tryd.func11, Tryd.ntmps11
      go_wp2_with fail
      refine (alive_any _).mono ?_
      rintro e w1 ⟨rfl, hb1⟩
      have HB := Lib.hid hb1; clear hb1
      go_wp2_with fail
      refine (noNumber_any _ (by first | exact HA.out | exact HB2.out) _).mono ?_
      rintro e w2 ⟨rfl, rfl⟩
      first | rw [NA.out] | rw [NB.out]
      go_wp2_with fail
      refine (noNumber_any _ (by first | exact HA.out | exact HB2.out) _).mono ?_
      rintro e w2 ⟨rfl, rfl⟩
      first | rw [NB.out] | rw [NA.out]
      go_wp2_with fail
      refine (is_any ⟨#[108, 116]⟩ _ _ _).mono ?_
      rintro e w2 ⟨rfl, q1, rfl⟩
      rw [I1.out]
      go_wp2_with fail
      refine (is_any ⟨#[103, 116]⟩ _ _ _).mono ?_
      rintro e w2 ⟨rfl, q2, rfl⟩
      rw [I2.out]
      go_wp2_with fail
      refine (is_any ⟨#[101, 113]⟩ _ _ _).mono ?_
      rintro e w2 ⟨rfl, q3, rfl⟩
      rw [I3.out]
      go_wp2_with fail
      refine (is_any ⟨#[108, 101]⟩ _ _ _).mono ?_
      rintro e w2 ⟨rfl, q4, rfl⟩
      rw [I4.out]
      go_wp2_with fail
      refine (is_any ⟨#[103, 101]⟩ _ _ _).mono ?_
      rintro e w2 ⟨rfl, q5, rfl⟩
      rw [I5.out]
      go_wp2_with fail
      refine (is_any ⟨#[110, 101]⟩ _ _ _).mono ?_
      rintro e w2 ⟨rfl, q6, rfl⟩
      rw [I6.out]
      go_wp2_with fail
      refine (op_any ⟨#[109, 105, 110]⟩ _ _ _ HA.out).mono ?_
      rintro e w2 ⟨rfl, q7, rfl⟩
      rw [O1.out]
      go_wp2_with fail
      refine (op_any ⟨#[109, 97, 120]⟩ _ _ _ HA.out).mono ?_
      rintro e w2 ⟨rfl, q8, rfl⟩
      rw [O2.out]
      go_wp2_with fail
      all_goals (go_ret; exact ⟨by rfl, by first | exact below_drewN HB.out _ | (repeat (refine below_drewN2 ?_ _)); exact HB.out⟩)

theorem realOrder_walk (a0 a1 : Int) (w : World) (w1 : (Lit.int .u64 a0).wf = true) (w2 : (Lit.int .u64 a1).wf = true) (_ : w.ShapedOpen Tryd.prog) :
    Calls Tryd.prog 11 #[.int .u64 a0, .int .u64 a1] w fun e w' => e = .returned (.bool true) ∧ Below w.heap.size w w' := by
  obtain ⟨a, rfl, ha⟩ := u64_nat w1
  obtain ⟨b, rfl, hb⟩ := u64_nat w2
  cases na : nanB a
  · cases nb : nanB b
    · exact realOrder_num a b w ha hb na nb (end_one na nb)
    · exact realOrder_nan a b w ha hb (.inr ⟨na, nb⟩)
  · exact realOrder_nan a b w ha hb (.inl na)
end Go.Proofs.YtnddnhjlaojllaaDoor
