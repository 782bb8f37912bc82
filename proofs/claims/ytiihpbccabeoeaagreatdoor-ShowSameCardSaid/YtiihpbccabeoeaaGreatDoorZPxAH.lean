/-
  The document's own parser: a script's tree (plain part).
-/
import Derived.Test.YtiihpbccabeoeaaGreatDoorZPxAF
import Derived.Test.YtiihpbccabeoeaaGreatDoorZPxAG
namespace Go.Proofs.YtiihpbccabeoeaaGreatDoor
open Go.RowKit
set_option linter.unusedVariables false
def treeEnd (p : PR (List Dt)) : Except Nat (List Dt) := match p with
  | .error e => .error e
  | .ok (d, r) => if r.isEmpty then .ok d else .error 2
theorem qtree_eq (cmd : List Tk → PR (List Dt)) (ts : List Tk) : treeF cmd ts = if (linesF ts).isEmpty then .ok [] else treeEnd (listF cmd (linesF ts)) := by
  unfold treeF listF treeEnd
  rw [lines_idem]
  cases (linesF ts).isEmpty with
  | true => rfl
  | false => cases allF cmd (linesF ts) <;> rfl
theorem tree_fin {w : World} {D : Nat → Prop} {T : List Tk} {res : PR (List Dt)} {us : List Value} {j x y : Nat} (h : QF true w D T res us j x) (hy : y = if x = 0 then (if j < T.length then 2 else 0) else x) :
    (y = 0 ∧ ∃ ds, treeEnd res = .ok ds ∧ RdL w D ds us ∧ NdD ds) ∨ (y ≠ 0 ∧ treeEnd res = .error y) := by
  have hop : x = 0 → isOpF [40] (T.drop j) = true → y = 2 := fun hx ho => by
    rw [if_pos hx, if_pos (toks_in (op_pos ho))] at hy
    exact hy
  cases res with
  | error e =>
    rcases h with ⟨h1, h2⟩ | ⟨h1, hx, ho⟩
    · rw [if_neg (by omega)] at hy
      exact .inr ⟨by omega, by rw [hy, h1]; rfl⟩
    · exact .inr ⟨by rw [hop hx ho]; decide, by rw [hop hx ho, h1]; rfl⟩
  | ok p =>
    obtain ⟨ds, r⟩ := p
    rcases h with ⟨hx, hn, hr, hd, hj⟩ | ⟨_, hc, hx⟩
    · rw [if_pos hx] at hy
      rcases Nat.lt_or_ge j T.length with hl | hl
      · rw [if_pos hl] at hy
        refine .inr ⟨by omega, ?_⟩
        have hne : r.isEmpty = false := by
          rw [List.isEmpty_eq_false_iff, ← hd]
          intro e
          have := congrArg List.length e
          rw [List.length_drop, List.length_nil] at this
          omega
        unfold treeEnd
        dsimp only
        rw [hne, hy]
        rfl
      · rw [if_neg (by omega)] at hy
        refine .inl ⟨hy, ds, ?_, hr, hn⟩
        have he : r = [] := by rw [← hd]; exact List.drop_eq_nil_of_le hl
        unfold treeEnd
        dsimp only
        rw [he]
        rfl
    · have hne : r.isEmpty = false := by
        cases r with
        | nil => cases hc
        | cons a l => rfl
      have hy2 : y = 2 := by
        rcases hx with hx | ⟨hx, ho⟩
        · rw [hx] at hy; exact hy
        · exact hop hx ho
      refine .inr ⟨by omega, ?_⟩
      unfold treeEnd
      dsimp only
      rw [hne, hy2]
      rfl
end Go.Proofs.YtiihpbccabeoeaaGreatDoor
