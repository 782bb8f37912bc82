/-
  The contracts of float's and the reference's small functions: bits, canon, clean; sums, products, quotients; tests.
-/
import Derived.Test.YtnddnhjlaojllaaDoorRBase
import Derived.WalkArith
import Derived.Laws.FloatArith
import Derived.Laws.Cover2
import Derived.Laws.Externs
namespace Go.Proofs.YtnddnhjlaojllaaDoor
open Go.RowKit

/-- Is it no number? -/
def nanB (x : Nat) : Bool := FloatKind.f64.format.order x x != some .eq
/-- The bits, with one NaN. -/
def cleanB (x : Nat) : Nat := if nanB x then 9221120237041090560 else x

theorem run_to (x : Nat) (w : World) : (callFunc 36 #[.float .f64 x]).run Tryd.prog w = .ok (.value (.int .u64 x)) w := by
  rw [run_callFunc_extern (e := Extern.MathFloatBits.float64bits) Tryd.func36 rfl rfl (by kernel_rfl) (by kernel_rfl)]
  rfl
theorem run_from (x : Int) (w : World) : (callFunc 35 #[.int .u64 x]).run Tryd.prog w = .ok (.value (.float .f64 x.toNat)) w := by
  rw [run_callFunc_extern (e := Extern.MathFloatBits.float64frombits) Tryd.func35 rfl rfl (by kernel_rfl) (by kernel_rfl)]
  rfl

theorem isNaN_any (x : Nat) (w : World) :
    Calls Tryd.prog 37 #[.float .f64 x] w fun e w' => e = .returned (.bool (nanB x)) ∧ w = w' := by
  go_enter Tryd.func37, Tryd.ntmps37
  go_wp2
  all_goals (go_ret; exact ⟨rfl, rfl⟩)

theorem bits_any (x : Nat) (w : World) :
    Calls Tryd.prog 30 #[.float .f64 x] w fun e w' => e = .returned (.int .u64 (cleanB x)) ∧ w = w' := by
  unfold cleanB
  cases h : nanB x
  · have H := Lib.hid h; clear h
    have hd := run_to
    go_enter Tryd.func30, Tryd.ntmps30
    go_wp2_with (go_at_call 37; refine (isNaN_any _ _).mono ?_; rintro e w' ⟨rfl, rfl⟩; rw [H.out])
    go_ret
    exact ⟨rfl, rfl⟩
  · have H := Lib.hid h; clear h
    have hd := run_to
    go_enter Tryd.func30, Tryd.ntmps30
    go_wp2_with (go_at_call 37; refine (isNaN_any _ _).mono ?_; rintro e w' ⟨rfl, rfl⟩; rw [H.out])
    go_ret
    exact ⟨rfl, rfl⟩
theorem clean_any (x : Nat) (w : World) :
    Calls Tryd.prog 34 #[.float .f64 x] w fun e w' => e = .returned (.int .u64 (cleanB x)) ∧ w = w' := by
  cases h : nanB x
  · have hc : cleanB x = x := by unfold cleanB; rw [h]; rfl
    have h2 : (FloatKind.f64.format.order x x != some .eq) = false := h
    have HC := Lib.hid hc; clear hc h
    have hd := run_to
    go_enter Tryd.func34, Tryd.ntmps34
    go_wp2_with fail
    go_ret
    exact ⟨by rw [HC.out]; rfl, rfl⟩
  · have hc : cleanB x = 9221120237041090560 := by unfold cleanB; rw [h]; rfl
    have h2 : (FloatKind.f64.format.order x x != some .eq) = true := h
    have HC := Lib.hid hc; clear hc h
    go_enter Tryd.func34, Tryd.ntmps34
    go_wp2_with fail
    go_ret
    exact ⟨by rw [HC.out]; rfl, rfl⟩
end Go.Proofs.YtnddnhjlaojllaaDoor
