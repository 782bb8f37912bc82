/-
  The walk of the law RealOrder.
-/
import Derived.Test.YtnddnhjlaojllaaDoorRealM
namespace Go.Proofs.YtnddnhjlaojllaaDoor
open Go.RowKit

theorem isv_lt (a b : Nat) : isF (⟨#[108, 116]⟩ : ByteArray).toList a b = (ltB a b, true) := by
  rw [show (⟨#[108, 116]⟩ : ByteArray).toList = [108, 116] by decide +kernel]; rfl
theorem isv_le (a b : Nat) : isF (⟨#[108, 101]⟩ : ByteArray).toList a b = (ltB a b || eqB a b, true) := by
  rw [show (⟨#[108, 101]⟩ : ByteArray).toList = [108, 101] by decide +kernel]; rfl
theorem isv_gt (a b : Nat) : isF (⟨#[103, 116]⟩ : ByteArray).toList a b = (gtB a b, true) := by
  rw [show (⟨#[103, 116]⟩ : ByteArray).toList = [103, 116] by decide +kernel]; rfl
theorem isv_ge (a b : Nat) : isF (⟨#[103, 101]⟩ : ByteArray).toList a b = (gtB a b || eqB a b, true) := by
  rw [show (⟨#[103, 101]⟩ : ByteArray).toList = [103, 101] by decide +kernel]; rfl
theorem isv_eq (a b : Nat) : isF (⟨#[101, 113]⟩ : ByteArray).toList a b = (eqB a b, true) := by
  rw [show (⟨#[101, 113]⟩ : ByteArray).toList = [101, 113] by decide +kernel]; rfl
theorem isv_ne (a b : Nat) : isF (⟨#[110, 101]⟩ : ByteArray).toList a b = (!eqB a b, true) := by
  rw [show (⟨#[110, 101]⟩ : ByteArray).toList = [110, 101] by decide +kernel]; rfl
theorem op_minl (a b : Nat) : opF (⟨#[109, 105, 110]⟩ : ByteArray).toList a b = (endF true a b, true) := by
  rw [show (⟨#[109, 105, 110]⟩ : ByteArray).toList = [109, 105, 110] by decide +kernel]; rfl
theorem op_maxl (a b : Nat) : opF (⟨#[109, 97, 120]⟩ : ByteArray).toList a b = (endF false a b, true) := by
  rw [show (⟨#[109, 97, 120]⟩ : ByteArray).toList = [109, 97, 120] by decide +kernel]; rfl
end Go.Proofs.YtnddnhjlaojllaaDoor
