/-
  What is alive in the chapter: the example of the document.
-/
import Derived.Test.YtnddnhjlaojllaaDoorRealH
namespace Go.Proofs.YtnddnhjlaojllaaDoor
open Go.RowKit

theorem run_neg (x : Nat) (w : World) (P : Program) : (Op.unary .neg (.float .f64 x)).run P w = .ok (.float .f64 (Op.negFloat .f64 x)) w := rfl

theorem isInf_pos (x : Nat) (w : World) :
    Calls Tryd.prog 38 #[.float .f64 x, .int .i64 1] w fun e w' => e = .returned (.bool (gtB x 9218868437227405311)) ∧ w = w' := by
  obtain ⟨g, hg⟩ : ∃ g, g = gtB x 9218868437227405311 := ⟨_, rfl⟩
  rw [← hg]
  have HG := Lib.hid hg; clear hg
  go_enter Tryd.func38, Tryd.ntmps38
  go_wp2_with fail
  go_ret
  exact ⟨by rw [HG.out]; rfl, rfl⟩
theorem isInf_neg (x : Nat) (w : World) :
    Calls Tryd.prog 38 #[.float .f64 x, .int .i64 (-1)] w fun e w' => e = .returned (.bool (gtB (Op.negFloat .f64 x) 9218868437227405311)) ∧ w = w' := by
  have hu := run_neg x
  obtain ⟨g, hg⟩ : ∃ g, g = gtB (Op.negFloat .f64 x) 9218868437227405311 := ⟨_, rfl⟩
  rw [← hg]
  have HG := Lib.hid hg; clear hg
  go_enter Tryd.func38, Tryd.ntmps38
  go_wp2_with fail
  go_ret
  exact ⟨by rw [HG.out]; rfl, rfl⟩
theorem quo_ex : arithF .quo 4607182418800017408 9223372036854775808 = 18442240474082181120 := by decide +kernel
theorem text_ninf (w : World) :
    Calls Tryd.prog 16 #[.int .u64 18442240474082181120] w fun e w' => e = .returned (.string ⟨#[45, 105, 110, 102]⟩) ∧ w = w' := by
  have hf := run_from
  have HN := Lib.hid (show nanB 18442240474082181120 = false by decide +kernel)
  have H1 := Lib.hid (show gtB 18442240474082181120 9218868437227405311 = false by decide +kernel)
  have H2 := Lib.hid (show gtB (Op.negFloat .f64 18442240474082181120) 9218868437227405311 = true by decide +kernel)
  go_enter Tryd.func16, Tryd.ntmps16
  go_wp2_with fail
  refine (isNaN_any _ _).mono ?_
  rintro e w1 ⟨rfl, rfl⟩
  rw [HN.out]
  go_wp2_with fail
  refine (isInf_pos _ _).mono ?_
  rintro e w1 ⟨rfl, rfl⟩
  rw [H1.out]
  go_wp2_with fail
  refine (isInf_neg _ _).mono ?_
  rintro e w1 ⟨rfl, rfl⟩
  rw [H2.out]
  go_wp2_with fail
  go_ret
  exact ⟨rfl, rfl⟩

theorem digs_of {s : ByteArray} {u : Nat} (h : s = ⟨#[49]⟩ ∧ u = 1 ∨ s = ⟨#[48]⟩ ∧ u = 0) : Digs s u := by
  rcases h with ⟨rfl, rfl⟩ | ⟨rfl, rfl⟩
  · exact ⟨by decide +kernel, by decide, by decide +kernel, by decide +kernel, by decide +kernel, by rfl, by decide +kernel, by decide +kernel, by decide +kernel⟩
  · exact ⟨by decide +kernel, by decide, by decide +kernel, by decide +kernel, by decide +kernel, by rfl, by decide +kernel, by decide +kernel, by decide +kernel⟩

theorem alive_any (w : World) :
    Calls Tryd.prog 13 #[] w fun e w' => e = .returned (.bool true) ∧ Below w.heap.size w w' := by
  have HQ := Lib.hid (show opF [47] 4607182418800017408 9223372036854775808 = (18442240474082181120, true) by decide +kernel)
  have F1 := Lib.hid (show floatOfInt .f64 ((1 : Nat) : Int) = 4607182418800017408 by decide +kernel)
  have F0 := Lib.hid (show floatOfInt .f64 ((0 : Nat) : Int) + 9223372036854775808 = 9223372036854775808 by decide +kernel)
  go_enter Tryd.func13, Tryd.ntmps13
  go_wp2_with fail
  refine (of_plain ⟨#[49]⟩ 1 _ (by decide +kernel) (by decide +kernel) (by decide +kernel) (digs_of (.inl ⟨rfl, rfl⟩))).mono ?_
  rintro e w1 ⟨rfl, hb⟩
  rw [F1.out]
  have HB := Lib.hid hb; clear hb
  go_wp2_with fail
  refine (of_minus ⟨#[45, 48]⟩ ⟨#[48]⟩ 0 _ (by decide +kernel) (by decide +kernel) (by decide) (by decide +kernel) (digs_of (.inr ⟨rfl, rfl⟩))).mono ?_
  rintro e w2 ⟨rfl, hb⟩
  rw [F0.out]
  replace HB := Lib.hid (HB.out.trans (hb.mono HB.out.size)); clear hb
  go_wp2_with fail
  refine (op_any ⟨#[47]⟩ 4607182418800017408 9223372036854775808 _ (by decide)).mono ?_
  rintro e w3 ⟨rfl, q, rfl⟩
  rw [show (⟨#[47]⟩ : ByteArray).toList = [47] by decide +kernel, HQ.out]
  go_wp2_with fail
  refine (text_ninf _).mono ?_
  rintro e w4 ⟨rfl, rfl⟩
  go_wp2_with fail
  go_ret
  exact ⟨rfl, below_drewN HB.out _⟩
end Go.Proofs.YtnddnhjlaojllaaDoor
