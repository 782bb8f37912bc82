/-
  The walk of the law RealOrder's plain part: min and max from both sides.
-/
import Derived.Test.YtnddnhjlaojllaaDoorRealJ
namespace Go.Proofs.YtnddnhjlaojllaaDoor
open Go.RowKit

theorem cmp_key {a b : Nat} (na : nanB a = false) (nb : nanB b = false) : ltB a b = decide (key a < key b) ∧ eqB a b = decide (key a = key b) ∧ gtB a b = decide (key b < key a) := by
  rw [nanB_eq, decide_eq_false_iff_not] at na nb
  have h : FloatKind.f64.format.order a b = some (compare (key a) (key b)) := order_key (by omega) (by omega)
  unfold ltB eqB gtB
  rw [h]
  have h3 : compare (key a) (key b) = compareOfLessAndEq (key a) (key b) := rfl
  rw [h3]
  unfold compareOfLessAndEq
  by_cases h1 : key a < key b
  · rw [if_pos h1, decide_eq_true h1, decide_eq_false (by omega), decide_eq_false (by omega)]; decide
  · rw [if_neg h1, decide_eq_false h1]
    by_cases h2 : key a = key b
    · rw [if_pos h2, decide_eq_true h2, decide_eq_false (by omega)]; decide
    · rw [if_neg h2, decide_eq_false h2, decide_eq_true (by omega)]; decide
end Go.Proofs.YtnddnhjlaojllaaDoor
