/-
  The contracts of float.Op and the reference's RealOp.
-/
import Derived.Test.YtnddnhjlaojllaaDoorRealA
import Derived.Test.YtnddnhjlaojllaaDoorRealN
namespace Go.Proofs.YtnddnhjlaojllaaDoor
open Go.RowKit

/-- What comes of two numbers: the bits, with one NaN. -/
def arithF (op : BinOp) (x y : Nat) : Nat := match floatBits op .f64 x y with
  | some r => cleanB r
  | none => 9221120237041090560

theorem nanB_eq (x : Nat) : nanB x = decide (9218868437227405312 < rung x) := by
  unfold nanB
  show (Ieee.double.order x x != some .eq) = _
  by_cases h : 9218868437227405312 < rung x
  · rw [order_nan (Or.inl h), decide_eq_true h]; rfl
  · rw [order_key (by omega) (by omega), decide_eq_false h]
    have : compare (key x) (key x) = .eq := by
      show compareOfLessAndEq _ _ = _
      unfold compareOfLessAndEq
      rw [if_neg (by omega), if_pos rfl]
    rw [this]; rfl

theorem nan_drawn (t : Nat) (x y : Nat) : nanB ((Question.nanBits .f64 x y).cut t) = true := by
  rw [nanB_eq]
  show decide (9218868437227405312 < rung ((t % 2) * 2 ^ 63 + 0x7ff0000000000000 + 1 + (t / 2) % (2 ^ 52 - 1))) = true
  rw [decide_eq_true_iff]
  unfold rung
  have h := Nat.mod_lt (t / 2) (show 2 ^ 52 - 1 > 0 by decide)
  obtain ⟨m, hm⟩ : ∃ m, m = t / 2 % (2 ^ 52 - 1) := ⟨_, rfl⟩
  rw [← hm] at h ⊢
  rcases Nat.mod_two_eq_zero_or_one t with h2 | h2 <;> rw [h2] <;> omega

/-- The four operations, in the walk's words. -/
theorem arith_run (op : BinOp) (hop : op = .add ∨ op = .sub ∨ op = .mul ∨ op = .quo) (x y : Nat) (P : Program) : ∃ (D : World → Nat) (q : Nat),
    (∀ w t, (binOp op t (.float .f64 x) (.float .f64 y)).run P w = .ok (.float .f64 (D w)) (w.drewN q)) ∧ ∀ w, cleanB (D w) = arithF op x y := by
  cases h : floatBits op .f64 x y with
  | some r =>
    refine ⟨fun _ => r, 0, fun w t => run_float_arith w op t .f64 x y r h, fun w => ?_⟩
    unfold arithF; rw [h]
  | none =>
    refine ⟨fun w => (Question.nanBits .f64 x y).cut (w.tape w.drawn (.nanBits .f64 x y)), 1, fun w t => ?_, fun w => ?_⟩
    · have h2 := h
      unfold floatBits at h2
      rcases hop with rfl | rfl | rfl | rfl <;> simp only at h2 <;> simp [binOp, Op.floatArith, h2, Question.forced] <;> rfl
    · unfold arithF cleanB; rw [h, nan_drawn]; rfl
end Go.Proofs.YtnddnhjlaojllaaDoor
