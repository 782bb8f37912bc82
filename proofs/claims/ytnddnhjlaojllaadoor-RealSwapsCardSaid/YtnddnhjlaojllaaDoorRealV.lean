/-
  The walk of the law RealSwaps.
-/
import Derived.Test.YtnddnhjlaojllaaDoorRealS
namespace Go.Proofs.YtnddnhjlaojllaaDoor
open Go.RowKit

set_option maxRecDepth 100000 in
set_option maxHeartbeats 4000000 in
theorem realSwaps_at (a b : Nat) (w : World) (ha : a < 18446744073709551616) (hb : b < 18446744073709551616) :
    Calls Tryd.prog 12 #[.int .u64 a, .int .u64 b] w fun e w' => e = .returned (.bool true) ∧ Below w.heap.size w w' := by
  have E1 := arith_comm .add (.inl rfl) a b
  have E2 := arith_comm .mul (.inr rfl) a b
  have E3 := end_comm true ha hb
  have E4 := end_comm false ha hb
  obtain ⟨g1, g2⟩ := lt_gt a b
  have O1 := Lib.hid (opv_add a b); have P1 := Lib.hid (opv_add b a)
  have O2 := Lib.hid (opv_mul a b); have P2 := Lib.hid (opv_mul b a)
  have O3 := Lib.hid (op_minl a b); have P3 := Lib.hid (op_minl b a)
  have O4 := Lib.hid (op_maxl a b); have P4 := Lib.hid (op_maxl b a)
  have I1 := Lib.hid (isv_lt a b); have I2 := Lib.hid (isv_gt b a); have I3 := Lib.hid (isv_le a b); have I4 := Lib.hid (isv_ge b a)
  rw [← E1] at P1; rw [← E2] at P2; rw [← E3] at P3; rw [← E4] at P4
  rw [g1] at I2 I4; rw [g2] at I4
  generalize ltB a b = p at I1 I2 I3 I4
  generalize eqB a b = r at I3 I4
  have HA := Lib.hid ha; have HB2 := Lib.hid hb
  clear E1 E2 E3 E4 g1 g2 ha hb
  go_enter Tryd.func12, Tryd.ntmps12
  go_wp2_with fail
  refine (alive_any _).mono ?_
  rintro e w1 ⟨rfl, hb1⟩
  have HB := Lib.hid hb1; clear hb1
  go_wp2_with fail
  go_loopw [7] (fun i wr => ∃ k q : Nat, k ≤ 4 ∧ i = .int .i64 k ∧ wr = (w1.alloc (Obj.cells #[Value.string ⟨#[43]⟩, Value.string ⟨#[42]⟩, Value.string ⟨#[109, 105, 110]⟩, Value.string ⟨#[109, 97, 120]⟩] 9)).drewN q) (fun i _ => 4 - (intOf i).toNat)
  case atStart => exact ⟨0, 0, by omega, rfl, rfl⟩
  case round =>
    obtain ⟨k, q, hk, rfl, rfl⟩ := hrel
    obtain rfl | rfl | rfl | rfl | rfl : k = 0 ∨ k = 1 ∨ k = 2 ∨ k = 3 ∨ k = 4 := by omega
    · go_wp2_with fail
      refine (op_any ⟨#[43]⟩ a b _ HA.out).mono ?_
      rintro e w2 ⟨rfl, q1, rfl⟩
      rw [O1.out]
      go_wp2_with fail
      refine (op_any ⟨#[43]⟩ b a _ HB2.out).mono ?_
      rintro e w2 ⟨rfl, q2, rfl⟩
      rw [P1.out]
      go_wp2_with fail
      go_roundw
      case rel => exact ⟨1, _, by omega, rfl, rfl⟩
      case measure => simp [intOf]
    · go_wp2_with fail
      refine (op_any ⟨#[42]⟩ a b _ HA.out).mono ?_
      rintro e w2 ⟨rfl, q1, rfl⟩
      rw [O2.out]
      go_wp2_with fail
      refine (op_any ⟨#[42]⟩ b a _ HB2.out).mono ?_
      rintro e w2 ⟨rfl, q2, rfl⟩
      rw [P2.out]
      go_wp2_with fail
      go_roundw
      case rel => exact ⟨2, _, by omega, rfl, rfl⟩
      case measure => simp [intOf]
    · go_wp2_with fail
      refine (op_any ⟨#[109, 105, 110]⟩ a b _ HA.out).mono ?_
      rintro e w2 ⟨rfl, q1, rfl⟩
      rw [O3.out]
      go_wp2_with fail
      refine (op_any ⟨#[109, 105, 110]⟩ b a _ HB2.out).mono ?_
      rintro e w2 ⟨rfl, q2, rfl⟩
      rw [P3.out]
      go_wp2_with fail
      go_roundw
      case rel => exact ⟨3, _, by omega, rfl, rfl⟩
      case measure => simp [intOf]
    · go_wp2_with fail
      refine (op_any ⟨#[109, 97, 120]⟩ a b _ HA.out).mono ?_
      rintro e w2 ⟨rfl, q1, rfl⟩
      rw [O4.out]
      go_wp2_with fail
      refine (op_any ⟨#[109, 97, 120]⟩ b a _ HB2.out).mono ?_
      rintro e w2 ⟨rfl, q2, rfl⟩
      rw [P4.out]
      go_wp2_with fail
      go_roundw
      case rel => exact ⟨4, _, by omega, rfl, rfl⟩
      case measure => simp [intOf]
    · go_wp2_with fail
      refine (is_any ⟨#[108, 116]⟩ a b _).mono ?_
      rintro e w2 ⟨rfl, q1, rfl⟩
      rw [I1.out]
      go_wp2_with fail
      refine (is_any ⟨#[103, 116]⟩ b a _).mono ?_
      rintro e w2 ⟨rfl, q2, rfl⟩
      rw [I2.out]
      go_wp2_with fail
      refine (is_any ⟨#[108, 101]⟩ a b _).mono ?_
      rintro e w2 ⟨rfl, q3, rfl⟩
      rw [I3.out]
      go_wp2_with fail
      refine (is_any ⟨#[103, 101]⟩ b a _).mono ?_
      rintro e w2 ⟨rfl, q4, rfl⟩
      rw [I4.out]
      go_wp2_with fail
      all_goals (go_ret; exact ⟨by simp, below_drewN3 (HB.out.trans ((Below.refl _ _).alloc HB.out.size _)) _⟩)

theorem realSwaps_walk (a0 a1 : Int) (w : World) (w1 : (Lit.int .u64 a0).wf = true) (w2 : (Lit.int .u64 a1).wf = true) (_ : w.ShapedOpen Tryd.prog) :
    Calls Tryd.prog 12 #[.int .u64 a0, .int .u64 a1] w fun e w' => e = .returned (.bool true) ∧ Below w.heap.size w w' := by
  obtain ⟨a, rfl, ha⟩ := u64_nat w1
  obtain ⟨b, rfl, hb⟩ := u64_nat w2
  exact realSwaps_at a b w ha hb
end Go.Proofs.YtnddnhjlaojllaaDoor
