/-
  math.Trunc of a number that is not too great.
-/
import Derived.Test.YtnddnhjlaojllaaDoorRealAD
namespace Go.Proofs.YtnddnhjlaojllaaDoor
open Go.RowKit
set_option linter.unusedVariables false

theorem cut_zero (neg : Bool) (n d : Nat) : Ieee.Toward.zero.cut neg n d = n / 2 ^ d := by
  unfold Ieee.Toward.cut
  dsimp only
  rw [Nat.one_shiftLeft]
  simp only [Bool.toNat_false, Nat.add_zero]
  rcases Nat.le_total d (n.log2 + 2) with h1 | h1
  · rw [Nat.min_eq_left h1]
  · rw [Nat.min_eq_right h1]
    have hn : n < 2 ^ (n.log2 + 1) := Nat.lt_log2_self
    have a1 : n < 2 ^ (n.log2 + 2) := Nat.lt_of_lt_of_le hn (Nat.pow_le_pow_right (by decide) (by omega))
    have a2 : n < 2 ^ d := Nat.lt_of_lt_of_le a1 (Nat.pow_le_pow_right (by decide) h1)
    rw [Nat.div_eq_of_lt a1, Nat.div_eq_of_lt a2]
theorem integral_zero {x : Nat} (h : rung x < 4831355200913801216) : (Ieee.double.read x).integral .zero = .number (sgn x) (intR (rung x)) 0 := by
  have hf : rung x < 9218868437227405312 := by omega
  rw [read_fin hf]
  have hu := up_low h
  unfold Ieee.Datum.integral
  dsimp only
  have e1 : (-1074 + (up (rung x) : Int)).toNat = 0 := by omega
  have e2 : (-(-1074 + (up (rung x) : Int))).toNat = lowP - up (rung x) := by unfold lowP; omega
  rw [e1, e2, Nat.shiftLeft_zero, cut_zero]
  rfl
/-- A number cut towards nought. -/
def truncA (x : Nat) : Nat := Ieee.double.word (sgn x) (FI (intR (rung x)))
theorem run_trunc {x : Nat} (h : rung x < 4831355200913801216) (w : World) : (callFunc 51 #[.float .f64 x]).run Tryd.prog w = .ok (.value (.float .f64 (truncA x))) w := by
  rw [run_callFunc_extern (e := Extern.MathFloor.toIntegral "math.archTrunc" .zero) Tryd.func51 rfl rfl (by kernel_rfl) (by kernel_rfl)]
  have hr := read_fin (x := x) (by omega)
  have hi := integral_zero h
  have hw : FloatKind.f64.encode (.number (sgn x) (intR (rung x)) 0) = truncA x := (FI_all (intR_lt _)).2.2 _
  have hd : FloatKind.f64.decode x = .number (sgn x) (mag (rung x)) (-1074 + (up (rung x) : Int)) := hr
  rw [hr] at hi
  have e : Extern.MathFloor.toIntegral "math.archTrunc" .zero #[.float .f64 x] = pure (.float .f64 (truncA x)) := by
    show (match FloatKind.f64.decode x with
      | .nan s t => _
      | d => pure (Value.float .f64 (FloatKind.f64.encode (d.integral .zero)))) = _
    rw [hd]
    show pure (Value.float .f64 (FloatKind.f64.encode ((Ieee.Datum.number (sgn x) (mag (rung x)) (-1074 + (up (rung x) : Int))).integral .zero))) = _
    rw [hi, hw]
  rw [e]
  rfl
theorem trunc_any (x : Nat) (hr : rung x < 4831355200913801216) (w : World) :
    Calls Tryd.prog 40 #[.float .f64 x] w fun e w' => e = .returned (.float .f64 (truncA x)) ∧ w = w' := by
  have ht := fun w => run_trunc hr w
  clear hr
  go_enter Tryd.func40, Tryd.ntmps40
  go_wp2_with fail
  go_ret
  exact ⟨rfl, rfl⟩
/-- A number is its whole part only if it is whole. -/
theorem trunc_same {x : Nat} (h : rung x < 4831355200913801216) : eqB x (truncA x) = wholeB (rung x) := by
  have hb := FI_all (intR_lt (rung x))
  have hp := word_parts (sgn x) (r := FI (intR (rung x))) (by omega)
  have hx : nanB x = false := by rw [nanB_eq]; exact decide_eq_false (by omega)
  have ht : nanB (truncA x) = false := nan_word _ (by omega)
  rw [show eqB x (truncA x) = decide (key x = key (truncA x)) by
    show (Ieee.double.order x (truncA x) == some .eq) = _
    rw [order_key (by omega) (by unfold truncA; rw [hp.1]; omega)]
    by_cases hk : key x = key (truncA x)
    · rw [hk, decide_eq_true rfl]
      have : compare (key (truncA x)) (key (truncA x)) = .eq := by simp
      rw [this]; rfl
    · rw [decide_eq_false hk]
      rcases Int.lt_or_gt_of_ne hk with h1 | h1
      · rw [compare_lt h1]; rfl
      · rw [compare_gt h1]; rfl]
  have hw := whole_iff h
  have hiff : key x = key (truncA x) ↔ FI (intR (rung x)) = rung x := by
    rw [key_sv, key_sv, show rung (truncA x) = _ from hp.1, show sgn (truncA x) = _ from hp.2.1]
    cases sgn x <;> simp [sv] <;> omega
  cases hb2 : wholeB (rung x) with
  | true => exact decide_eq_true (hiff.2 (hw.1 hb2))
  | false =>
    refine decide_eq_false fun h1 => ?_
    rw [hw.2 (hiff.1 h1)] at hb2
    cases hb2
end Go.Proofs.YtnddnhjlaojllaaDoor
