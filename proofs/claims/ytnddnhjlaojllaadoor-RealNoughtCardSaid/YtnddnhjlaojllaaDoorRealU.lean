/-
  The walk of the law RealNought.
-/
import Derived.Test.YtnddnhjlaojllaaDoorRealS
namespace Go.Proofs.YtnddnhjlaojllaaDoor
open Go.RowKit

set_option maxRecDepth 100000 in
set_option maxHeartbeats 4000000 in
theorem realNought_walk (a0 : Bool) (w : World) (_ : w.ShapedOpen Tryd.prog) :
    Calls Tryd.prog 10 #[.bool a0] w fun e w' => e = .returned (.bool true) ∧ Below w.heap.size w w' := by
  have K1 := Lib.hid (show opF [47] 4607182418800017408 0 = (9218868437227405312, true) by decide +kernel)
  have K2 := Lib.hid (show opF [47] 4607182418800017408 9218868437227405312 = (0, true) by decide +kernel)
  have K3 := Lib.hid (show opF [45] 9218868437227405312 9218868437227405312 = (9221120237041090560, true) by decide +kernel)
  have K4 := Lib.hid (show opF [42] 0 9218868437227405312 = (9221120237041090560, true) by decide +kernel)
  have K5 := Lib.hid (show opF [43] 0 9223372036854775808 = (0, true) by decide +kernel)
  have K6 := Lib.hid (show opF [109, 105, 110] 0 0 = (0, true) by decide +kernel)
  have K7 := Lib.hid (show opF [109, 97, 120] 0 9223372036854775808 = (0, true) by decide +kernel)
  have K8 := Lib.hid (show isF [101, 113] 0 0 = (true, true) by decide +kernel)
  have K9 := Lib.hid (show isF [115, 97, 109, 101] 0 0 = (true, true) by decide +kernel)
  have L1 := Lib.hid (show opF [47] 4607182418800017408 9223372036854775808 = (18442240474082181120, true) by decide +kernel)
  have L2 := Lib.hid (show opF [47] 4607182418800017408 18442240474082181120 = (9223372036854775808, true) by decide +kernel)
  have L3 := Lib.hid (show opF [45] 18442240474082181120 18442240474082181120 = (9221120237041090560, true) by decide +kernel)
  have L4 := Lib.hid (show opF [42] 9223372036854775808 18442240474082181120 = (9221120237041090560, true) by decide +kernel)
  have L5 := Lib.hid (show opF [43] 9223372036854775808 9223372036854775808 = (9223372036854775808, true) by decide +kernel)
  have L6 := Lib.hid (show opF [109, 105, 110] 9223372036854775808 0 = (9223372036854775808, true) by decide +kernel)
  have L7 := Lib.hid (show opF [109, 97, 120] 9223372036854775808 9223372036854775808 = (9223372036854775808, true) by decide +kernel)
  have L8 := Lib.hid (show isF [101, 113] 9223372036854775808 0 = (true, true) by decide +kernel)
  have L9 := Lib.hid (show isF [115, 97, 109, 101] 9223372036854775808 0 = (false, true) by decide +kernel)
  cases a0
  · go_enter Tryd.func10, Tryd.ntmps10
    go_wp2_with fail
    refine (alive_any _).mono ?_
    rintro e w1 ⟨rfl, hb1⟩
    have HB := Lib.hid hb1; clear hb1
    go_wp2_with fail
    refine (op_any ⟨#[47]⟩ 4607182418800017408 0 _ (by decide)).mono ?_
    rintro e w2 ⟨rfl, q1, rfl⟩
    rw [show (⟨#[47]⟩ : ByteArray).toList = [47] by decide +kernel, K1.out]
    go_wp2_with fail
    refine (op_any ⟨#[47]⟩ 4607182418800017408 9218868437227405312 _ (by decide)).mono ?_
    rintro e w2 ⟨rfl, q2, rfl⟩
    rw [show (⟨#[47]⟩ : ByteArray).toList = [47] by decide +kernel, K2.out]
    go_wp2_with fail
    refine (op_any ⟨#[45]⟩ 9218868437227405312 9218868437227405312 _ (by decide)).mono ?_
    rintro e w2 ⟨rfl, q3, rfl⟩
    rw [show (⟨#[45]⟩ : ByteArray).toList = [45] by decide +kernel, K3.out]
    go_wp2_with fail
    refine (op_any ⟨#[42]⟩ 0 9218868437227405312 _ (by decide)).mono ?_
    rintro e w2 ⟨rfl, q4, rfl⟩
    rw [show (⟨#[42]⟩ : ByteArray).toList = [42] by decide +kernel, K4.out]
    go_wp2_with fail
    refine (op_any ⟨#[43]⟩ 0 9223372036854775808 _ (by decide)).mono ?_
    rintro e w2 ⟨rfl, q5, rfl⟩
    rw [show (⟨#[43]⟩ : ByteArray).toList = [43] by decide +kernel, K5.out]
    go_wp2_with fail
    refine (op_any ⟨#[109, 105, 110]⟩ 0 0 _ (by decide)).mono ?_
    rintro e w2 ⟨rfl, q6, rfl⟩
    rw [show (⟨#[109, 105, 110]⟩ : ByteArray).toList = [109, 105, 110] by decide +kernel, K6.out]
    go_wp2_with fail
    refine (op_any ⟨#[109, 97, 120]⟩ 0 9223372036854775808 _ (by decide)).mono ?_
    rintro e w2 ⟨rfl, q7, rfl⟩
    rw [show (⟨#[109, 97, 120]⟩ : ByteArray).toList = [109, 97, 120] by decide +kernel, K7.out]
    go_wp2_with fail
    refine (is_any ⟨#[101, 113]⟩ 0 0 _).mono ?_
    rintro e w2 ⟨rfl, q8, rfl⟩
    rw [show (⟨#[101, 113]⟩ : ByteArray).toList = [101, 113] by decide +kernel, K8.out]
    go_wp2_with fail
    refine (is_any ⟨#[115, 97, 109, 101]⟩ 0 0 _).mono ?_
    rintro e w2 ⟨rfl, q9, rfl⟩
    rw [show (⟨#[115, 97, 109, 101]⟩ : ByteArray).toList = [115, 97, 109, 101] by decide +kernel, K9.out]
    go_wp2_with fail
    go_ret
    refine ⟨?_, below_drewN3 HB.out _⟩
    rfl
  · go_enter Tryd.func10, Tryd.ntmps10
    go_wp2_with fail
    refine (alive_any _).mono ?_
    rintro e w1 ⟨rfl, hb1⟩
    have HB := Lib.hid hb1; clear hb1
    go_wp2_with fail
    refine (op_any ⟨#[47]⟩ 4607182418800017408 9223372036854775808 _ (by decide)).mono ?_
    rintro e w2 ⟨rfl, q1, rfl⟩
    rw [show (⟨#[47]⟩ : ByteArray).toList = [47] by decide +kernel, L1.out]
    go_wp2_with fail
    refine (op_any ⟨#[47]⟩ 4607182418800017408 18442240474082181120 _ (by decide)).mono ?_
    rintro e w2 ⟨rfl, q2, rfl⟩
    rw [show (⟨#[47]⟩ : ByteArray).toList = [47] by decide +kernel, L2.out]
    go_wp2_with fail
    refine (op_any ⟨#[45]⟩ 18442240474082181120 18442240474082181120 _ (by decide)).mono ?_
    rintro e w2 ⟨rfl, q3, rfl⟩
    rw [show (⟨#[45]⟩ : ByteArray).toList = [45] by decide +kernel, L3.out]
    go_wp2_with fail
    refine (op_any ⟨#[42]⟩ 9223372036854775808 18442240474082181120 _ (by decide)).mono ?_
    rintro e w2 ⟨rfl, q4, rfl⟩
    rw [show (⟨#[42]⟩ : ByteArray).toList = [42] by decide +kernel, L4.out]
    go_wp2_with fail
    refine (op_any ⟨#[43]⟩ 9223372036854775808 9223372036854775808 _ (by decide)).mono ?_
    rintro e w2 ⟨rfl, q5, rfl⟩
    rw [show (⟨#[43]⟩ : ByteArray).toList = [43] by decide +kernel, L5.out]
    go_wp2_with fail
    refine (op_any ⟨#[109, 105, 110]⟩ 9223372036854775808 0 _ (by decide)).mono ?_
    rintro e w2 ⟨rfl, q6, rfl⟩
    rw [show (⟨#[109, 105, 110]⟩ : ByteArray).toList = [109, 105, 110] by decide +kernel, L6.out]
    go_wp2_with fail
    refine (op_any ⟨#[109, 97, 120]⟩ 9223372036854775808 9223372036854775808 _ (by decide)).mono ?_
    rintro e w2 ⟨rfl, q7, rfl⟩
    rw [show (⟨#[109, 97, 120]⟩ : ByteArray).toList = [109, 97, 120] by decide +kernel, L7.out]
    go_wp2_with fail
    refine (is_any ⟨#[101, 113]⟩ 9223372036854775808 0 _).mono ?_
    rintro e w2 ⟨rfl, q8, rfl⟩
    rw [show (⟨#[101, 113]⟩ : ByteArray).toList = [101, 113] by decide +kernel, L8.out]
    go_wp2_with fail
    refine (is_any ⟨#[115, 97, 109, 101]⟩ 9223372036854775808 0 _).mono ?_
    rintro e w2 ⟨rfl, q9, rfl⟩
    rw [show (⟨#[115, 97, 109, 101]⟩ : ByteArray).toList = [115, 97, 109, 101] by decide +kernel, L9.out]
    go_wp2_with fail
    go_ret
    refine ⟨?_, below_drewN3 HB.out _⟩
    rfl
end Go.Proofs.YtnddnhjlaojllaaDoor
