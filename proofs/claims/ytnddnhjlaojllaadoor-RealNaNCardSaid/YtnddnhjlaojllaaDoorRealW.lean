/-
  The walk of the law RealNaN.
-/
import Derived.Test.YtnddnhjlaojllaaDoorRealS
namespace Go.Proofs.YtnddnhjlaojllaaDoor
open Go.RowKit

theorem isv_same (a b : Nat) : isF (⟨#[115, 97, 109, 101]⟩ : ByteArray).toList a b = (cleanB a == cleanB b, true) := by
  rw [show (⟨#[115, 97, 109, 101]⟩ : ByteArray).toList = [115, 97, 109, 101] by decide +kernel]; rfl
theorem same_nan {a : Nat} (h : nanB a = true) : (cleanB a == cleanB 9221120237041090560) = true := by
  rw [clean_nan h]; decide +kernel

set_option maxRecDepth 100000 in
set_option maxHeartbeats 8000000 in
theorem realNaN_at (a y n : Nat) (w : World) (ha : a < 18446744073709551616) (hm : bits .or .u64 9221120237041090560 (bits .and .u64 (y : Int) 9223653511831486463) = (n : Int)) (hn : n < 18446744073709551616) (nn : nanB n = true) :
    Calls Tryd.prog 9 #[.int .u64 a, .int .u64 y] w fun e w' => e = .returned (.bool true) ∧ Below w.heap.size w w' := by
  obtain ⟨t1, t2, t3⟩ := tests_nan (a := a) (b := n) (.inr nn)
  obtain ⟨s1, s2, s3⟩ := tests_nan (a := n) (b := n) (.inr nn)
  have O0 := Lib.hid (opv_add a n); have P0 := Lib.hid (opv_add n a)
  rw [arith_nan .add (.inr nn)] at O0; rw [arith_nan .add (.inl nn)] at P0
  have O1 := Lib.hid (opv_sub a n); have P1 := Lib.hid (opv_sub n a)
  rw [arith_nan .sub (.inr nn)] at O1; rw [arith_nan .sub (.inl nn)] at P1
  have O2 := Lib.hid (opv_mul a n); have P2 := Lib.hid (opv_mul n a)
  rw [arith_nan .mul (.inr nn)] at O2; rw [arith_nan .mul (.inl nn)] at P2
  have O3 := Lib.hid (opv_quo a n); have P3 := Lib.hid (opv_quo n a)
  rw [arith_nan .quo (.inr nn)] at O3; rw [arith_nan .quo (.inl nn)] at P3
  have O4 := Lib.hid (op_minl a n); have P4 := Lib.hid (op_minl n a)
  rw [end_nan _ (.inr nn)] at O4; rw [end_nan _ (.inl nn)] at P4
  have O5 := Lib.hid (op_maxl a n); have P5 := Lib.hid (op_maxl n a)
  rw [end_nan _ (.inr nn)] at O5; rw [end_nan _ (.inl nn)] at P5
  have I0 := Lib.hid (isv_lt a n); have J0 := Lib.hid (isv_lt n n)
  have I1 := Lib.hid (isv_le a n); have J1 := Lib.hid (isv_le n n)
  have I2 := Lib.hid (isv_gt a n); have J2 := Lib.hid (isv_gt n n)
  have I3 := Lib.hid (isv_ge a n); have J3 := Lib.hid (isv_ge n n)
  have I4 := Lib.hid (isv_eq a n); have J4 := Lib.hid (isv_eq n n)
  rw [t1] at I0 I1; rw [t2] at I1 I3 I4; rw [t3] at I2 I3; rw [s1] at J0 J1; rw [s2] at J1 J3 J4; rw [s3] at J2 J3
  rw [Bool.or_self] at I1 I3 J1 J3
  have K1 := Lib.hid (isv_ne n n); have K2 := Lib.hid (isv_same n 9221120237041090560)
  rw [s2, Bool.not_false] at K1; rw [same_nan nn] at K2
  have HA := Lib.hid ha; have HN := Lib.hid hn; clear ha hn nn t1 t2 t3 s1 s2 s3
  go_enter Tryd.func9, Tryd.ntmps9
  go_wp2_with fail
  refine (alive_any _).mono ?_
  rintro e w1 ⟨rfl, hb1⟩
  have HB := Lib.hid hb1; clear hb1
  go_wp2_with fail
  go_loopw [8] (fun i wr => ∃ k q : Nat, k ≤ 6 ∧ i = .int .i64 k ∧ wr = (w1.alloc (Obj.cells #[Value.string ⟨#[43]⟩, Value.string ⟨#[45]⟩, Value.string ⟨#[42]⟩, Value.string ⟨#[47]⟩, Value.string ⟨#[109, 105, 110]⟩, Value.string ⟨#[109, 97, 120]⟩] 9)).drewN q) (fun i _ => 6 - (intOf i).toNat)
  case atStart => exact ⟨0, 0, by omega, rfl, rfl⟩
  case round =>
    obtain ⟨k, q, hk, rfl, rfl⟩ := hrel
    obtain rfl | rfl | rfl | rfl | rfl | rfl | rfl : k = 0 ∨ k = 1 ∨ k = 2 ∨ k = 3 ∨ k = 4 ∨ k = 5 ∨ k = 6 := by omega
    · go_wp2_with fail
      refine (op_any ⟨#[43]⟩ a n _ HA.out).mono ?_
      rintro e w2 ⟨rfl, q1, rfl⟩
      rw [O0.out]
      go_wp2_with fail
      refine (op_any ⟨#[43]⟩ n a _ HN.out).mono ?_
      rintro e w2 ⟨rfl, q2, rfl⟩
      rw [P0.out]
      go_wp2_with fail
      go_roundw
      case rel => exact ⟨1, _, by omega, rfl, rfl⟩
      case measure => simp [intOf]
    · go_wp2_with fail
      refine (op_any ⟨#[45]⟩ a n _ HA.out).mono ?_
      rintro e w2 ⟨rfl, q1, rfl⟩
      rw [O1.out]
      go_wp2_with fail
      refine (op_any ⟨#[45]⟩ n a _ HN.out).mono ?_
      rintro e w2 ⟨rfl, q2, rfl⟩
      rw [P1.out]
      go_wp2_with fail
      go_roundw
      case rel => exact ⟨2, _, by omega, rfl, rfl⟩
      case measure => simp [intOf]
    · go_wp2_with fail
      refine (op_any ⟨#[42]⟩ a n _ HA.out).mono ?_
      rintro e w2 ⟨rfl, q1, rfl⟩
      rw [O2.out]
      go_wp2_with fail
      refine (op_any ⟨#[42]⟩ n a _ HN.out).mono ?_
      rintro e w2 ⟨rfl, q2, rfl⟩
      rw [P2.out]
      go_wp2_with fail
      go_roundw
      case rel => exact ⟨3, _, by omega, rfl, rfl⟩
      case measure => simp [intOf]
    · go_wp2_with fail
      refine (op_any ⟨#[47]⟩ a n _ HA.out).mono ?_
      rintro e w2 ⟨rfl, q1, rfl⟩
      rw [O3.out]
      go_wp2_with fail
      refine (op_any ⟨#[47]⟩ n a _ HN.out).mono ?_
      rintro e w2 ⟨rfl, q2, rfl⟩
      rw [P3.out]
      go_wp2_with fail
      go_roundw
      case rel => exact ⟨4, _, by omega, rfl, rfl⟩
      case measure => simp [intOf]
    · go_wp2_with fail
      refine (op_any ⟨#[109, 105, 110]⟩ a n _ HA.out).mono ?_
      rintro e w2 ⟨rfl, q1, rfl⟩
      rw [O4.out]
      go_wp2_with fail
      refine (op_any ⟨#[109, 105, 110]⟩ n a _ HN.out).mono ?_
      rintro e w2 ⟨rfl, q2, rfl⟩
      rw [P4.out]
      go_wp2_with fail
      go_roundw
      case rel => exact ⟨5, _, by omega, rfl, rfl⟩
      case measure => simp [intOf]
    · go_wp2_with fail
      refine (op_any ⟨#[109, 97, 120]⟩ a n _ HA.out).mono ?_
      rintro e w2 ⟨rfl, q1, rfl⟩
      rw [O5.out]
      go_wp2_with fail
      refine (op_any ⟨#[109, 97, 120]⟩ n a _ HN.out).mono ?_
      rintro e w2 ⟨rfl, q2, rfl⟩
      rw [P5.out]
      go_wp2_with fail
      go_roundw
      case rel => exact ⟨6, _, by omega, rfl, rfl⟩
      case measure => simp [intOf]
    · have hw0 : Below w.heap.size w ((w1.alloc (Obj.cells #[Value.string ⟨#[43]⟩, Value.string ⟨#[45]⟩, Value.string ⟨#[42]⟩, Value.string ⟨#[47]⟩, Value.string ⟨#[109, 105, 110]⟩, Value.string ⟨#[109, 97, 120]⟩] 9)).drewN q) := below_drewN3 (HB.out.trans ((Below.refl _ _).alloc HB.out.size _)) _
      generalize ((w1.alloc (Obj.cells #[Value.string ⟨#[43]⟩, Value.string ⟨#[45]⟩, Value.string ⟨#[42]⟩, Value.string ⟨#[47]⟩, Value.string ⟨#[109, 105, 110]⟩, Value.string ⟨#[109, 97, 120]⟩] 9)).drewN q) = wo at hw0 ⊢
      have HB2 := Lib.hid hw0; clear hw0
      rw [show ((6 : Nat) : Int) = 6 from rfl]
      go_wp2_with fail
      go_loopw [14] (fun i wr => ∃ k r : Nat, k ≤ 5 ∧ i = .int .i64 k ∧ wr = (wo.alloc (Obj.cells #[Value.string ⟨#[108, 116]⟩, Value.string ⟨#[108, 101]⟩, Value.string ⟨#[103, 116]⟩, Value.string ⟨#[103, 101]⟩, Value.string ⟨#[101, 113]⟩] 9)).drewN r) (fun i _ => 5 - (intOf i).toNat)
      case atStart => exact ⟨0, 0, by omega, rfl, rfl⟩
      case round =>
        obtain ⟨k, r, hk, rfl, rfl⟩ := hrel
        obtain rfl | rfl | rfl | rfl | rfl | rfl : k = 0 ∨ k = 1 ∨ k = 2 ∨ k = 3 ∨ k = 4 ∨ k = 5 := by omega
        · go_wp2_with fail
          refine (is_any ⟨#[108, 116]⟩ a n _).mono ?_
          rintro e w2 ⟨rfl, q1, rfl⟩
          rw [I0.out]
          go_wp2_with fail
          refine (is_any ⟨#[108, 116]⟩ n n _).mono ?_
          rintro e w2 ⟨rfl, q2, rfl⟩
          rw [J0.out]
          go_wp2_with fail
          go_roundw
          case rel => exact ⟨1, _, by omega, rfl, rfl⟩
          case measure => simp [intOf]
        · go_wp2_with fail
          refine (is_any ⟨#[108, 101]⟩ a n _).mono ?_
          rintro e w2 ⟨rfl, q1, rfl⟩
          rw [I1.out]
          go_wp2_with fail
          refine (is_any ⟨#[108, 101]⟩ n n _).mono ?_
          rintro e w2 ⟨rfl, q2, rfl⟩
          rw [J1.out]
          go_wp2_with fail
          go_roundw
          case rel => exact ⟨2, _, by omega, rfl, rfl⟩
          case measure => simp [intOf]
        · go_wp2_with fail
          refine (is_any ⟨#[103, 116]⟩ a n _).mono ?_
          rintro e w2 ⟨rfl, q1, rfl⟩
          rw [I2.out]
          go_wp2_with fail
          refine (is_any ⟨#[103, 116]⟩ n n _).mono ?_
          rintro e w2 ⟨rfl, q2, rfl⟩
          rw [J2.out]
          go_wp2_with fail
          go_roundw
          case rel => exact ⟨3, _, by omega, rfl, rfl⟩
          case measure => simp [intOf]
        · go_wp2_with fail
          refine (is_any ⟨#[103, 101]⟩ a n _).mono ?_
          rintro e w2 ⟨rfl, q1, rfl⟩
          rw [I3.out]
          go_wp2_with fail
          refine (is_any ⟨#[103, 101]⟩ n n _).mono ?_
          rintro e w2 ⟨rfl, q2, rfl⟩
          rw [J3.out]
          go_wp2_with fail
          go_roundw
          case rel => exact ⟨4, _, by omega, rfl, rfl⟩
          case measure => simp [intOf]
        · go_wp2_with fail
          refine (is_any ⟨#[101, 113]⟩ a n _).mono ?_
          rintro e w2 ⟨rfl, q1, rfl⟩
          rw [I4.out]
          go_wp2_with fail
          refine (is_any ⟨#[101, 113]⟩ n n _).mono ?_
          rintro e w2 ⟨rfl, q2, rfl⟩
          rw [J4.out]
          go_wp2_with fail
          go_roundw
          case rel => exact ⟨5, _, by omega, rfl, rfl⟩
          case measure => simp [intOf]
        · go_wp2_with fail
          refine (is_any ⟨#[110, 101]⟩ n n _).mono ?_
          rintro e w2 ⟨rfl, q1, rfl⟩
          rw [K1.out]
          go_wp2_with fail
          refine (is_any ⟨#[115, 97, 109, 101]⟩ n 9221120237041090560 _).mono ?_
          rintro e w2 ⟨rfl, q2, rfl⟩
          rw [K2.out]
          go_wp2_with fail
          go_ret
          exact ⟨rfl, below_drewN3 (HB2.out.trans ((Below.refl _ _).alloc HB2.out.size _)) _⟩

theorem realNaN_walk (a0 a1 : Int) (w : World) (w1 : (Lit.int .u64 a0).wf = true) (w2 : (Lit.int .u64 a1).wf = true) (_ : w.ShapedOpen Tryd.prog) :
    Calls Tryd.prog 9 #[.int .u64 a0, .int .u64 a1] w fun e w' => e = .returned (.bool true) ∧ Below w.heap.size w w' := by
  obtain ⟨a, rfl, ha⟩ := u64_nat w1
  obtain ⟨b, rfl, hb⟩ := u64_nat w2
  obtain ⟨n, h1, h2, h3⟩ := made_nan b hb
  exact realNaN_at a b n w ha h1 h2 h3
end Go.Proofs.YtnddnhjlaojllaaDoor
