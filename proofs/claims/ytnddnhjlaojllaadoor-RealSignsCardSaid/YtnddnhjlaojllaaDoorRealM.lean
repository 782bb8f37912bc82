/-
  The walk of the law RealOrder.
-/
import Derived.Test.YtnddnhjlaojllaaDoorRealL
namespace Go.Proofs.YtnddnhjlaojllaaDoor
open Go.RowKit

theorem order_cases {a b : Nat} (na : nanB a = false) (nb : nanB b = false) :
    (ltB a b = true ∧ eqB a b = false ∧ gtB a b = false) ∨ (ltB a b = false ∧ eqB a b = true ∧ gtB a b = false) ∨ (ltB a b = false ∧ eqB a b = false ∧ gtB a b = true) := by
  obtain ⟨h1, h2, h3⟩ := cmp_key na nb
  rw [h1, h2, h3]
  rcases Int.lt_trichotomy (key a) (key b) with h | h | h
  · exact .inl ⟨decide_eq_true h, decide_eq_false (by omega), decide_eq_false (by omega)⟩
  · exact .inr (.inl ⟨decide_eq_false (by omega), decide_eq_true h, decide_eq_false (by omega)⟩)
  · exact .inr (.inr ⟨decide_eq_false (by omega), decide_eq_false (by omega), decide_eq_true h⟩)
end Go.Proofs.YtnddnhjlaojllaaDoor
