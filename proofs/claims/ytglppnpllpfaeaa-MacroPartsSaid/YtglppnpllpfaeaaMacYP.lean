/-
  The document's expand.
-/
import Derived.Test.YtglppnpllpfaeaaMacX
namespace Go.Proofs.Ytglppnpllpfaeaa
open Go.RowKit
set_option linter.unusedVariables false

theorem cutF_byte {c : UInt8} (h : c ≠ 36) (t : Bs) : cutF 36 (c :: t) = (c :: (cutF 36 t).1, (cutF 36 t).2.1, (cutF 36 t).2.2) := by
  unfold cutF
  rw [show untilF 36 (c :: t) = (untilF 36 t).map (· + 1) by
    conv => lhs; unfold untilF
    rw [if_neg (by rw [beq_iff_eq]; exact h)]]
  cases untilF 36 t <;> rfl
theorem loopC_byte (ref : Ref) (acc : Bs) (refs : Nat) {c : UInt8} (h : c ≠ 36) (t : Bs) : loopC ref acc refs (c :: t) = if 16384 < (acc ++ [c]).length then .error 3 else loopC ref (acc ++ [c]) refs t := by
  rw [loopC_eq, cutF_byte h]
  dsimp only
  rw [List.append_cons]
  by_cases h0 : 16384 < (acc ++ [c]).length
  · rw [if_pos h0, if_pos (by rw [List.length_append]; omega)]
  · rw [if_neg h0]
    exact (loopC_eq ref (acc ++ [c]) refs t).symm
theorem loopC_end (ref : Ref) (acc : Bs) (refs : Nat) (h : acc.length ≤ 16384) : loopC ref acc refs [] = .ok (acc, refs) := by
  have := loopC_free ref acc refs (s := []) (fun c hc => by cases hc) (by simpa using h)
  rw [List.append_nil] at this
  exact this
/-- What stands behind a sign goes behind what it came to. -/
def contF (ref : Ref) (acc t : Bs) : Except Nat ((Bs × Nat) × Nat) → MR
  | .error e => .error e
  | .ok ((y, k), r) => if 16384 < (acc ++ y).length then .error 3 else loopC ref (acc ++ y) r (t.drop k)
theorem loopC_sign (ref : Ref) (acc : Bs) (refs : Nat) (h : acc.length ≤ 16384) (t : Bs) : loopC ref acc refs (36 :: t) = contF ref acc t (oneF ref refs t) := by
  rw [loopC_eq, show cutF 36 (36 :: t) = ([], t, true) from rfl]
  dsimp only
  rw [List.append_nil, if_neg (by omega), if_pos rfl]
  cases oneF ref refs t with
  | error e => rfl
  | ok z => rfl
theorem loopC_last (ref : Ref) (acc : Bs) (refs : Nat) (h : acc.length ≤ 16384) : loopC ref acc refs [36] = if 16384 < (acc ++ [36]).length then .error 3 else loopC ref (acc ++ [36]) refs [] := by
  rw [loopC_sign ref acc refs h]
  rfl
def refStep (k : Nat) : MR → Except Nat ((Bs × Nat) × Nat)
  | .error e => .error e
  | .ok (y, r) => .ok ((y, k), r)
theorem one_dollar (ref : Ref) (refs : Nat) (t : Bs) : oneF ref refs (36 :: t) = .ok (([36], 1), refs) := rfl
theorem one_much {ref : Ref} {refs : Nat} {d : UInt8} (t : Bs) (h : d ≠ 36) (hr : 10000 < refs + 1) : oneF ref refs (d :: t) = .error 3 := by
  unfold oneF
  dsimp only
  rw [if_neg (by rw [beq_iff_eq]; exact h), if_pos hr]
def openD (d e : UInt8) : Prop := d = 40 ∧ e = 41 ∨ d = 123 ∧ e = 125
def closeF (ref : Ref) (refs : Nat) (t : Bs) : Option Nat → Except Nat ((Bs × Nat) × Nat)
  | none => .error 2
  | some k => refStep (k + 2) (ref (refs + 1) (t.take k))
theorem one_open {ref : Ref} {refs : Nat} {d e : UInt8} (t : Bs) (h : openD d e) (hr : ¬ 10000 < refs + 1) : oneF ref refs (d :: t) = closeF ref refs t (closedF d e 0 t) := by
  rcases h with ⟨rfl, rfl⟩ | ⟨rfl, rfl⟩
  · unfold oneF
    dsimp only
    rw [if_neg (by decide), if_neg hr, if_pos (by decide)]
    cases closedF 40 41 0 t <;> rfl
  · unfold oneF
    dsimp only
    rw [if_neg (by decide), if_neg hr, if_neg (by decide), if_pos (by decide)]
    cases closedF 123 125 0 t <;> rfl
theorem one_other {ref : Ref} {refs : Nat} {d : UInt8} (t : Bs) (h36 : d ≠ 36) (h40 : d ≠ 40) (h123 : d ≠ 123) (hr : ¬ 10000 < refs + 1) : oneF ref refs (d :: t) = refStep 1 (ref (refs + 1) [d]) := by
  unfold oneF
  dsimp only
  rw [if_neg (by rw [beq_iff_eq]; exact h36), if_neg hr, if_neg (by rw [beq_iff_eq]; exact h40), if_neg (by rw [beq_iff_eq]; exact h123)]
  rfl
theorem ref_single {l auto : List (Bs × Bs)} {k : Nat} {op : List Bs} {refs : Nat} {d : UInt8} (h : d ≠ 36) : refF l auto (k + 1) op refs [d] = valueF l auto op (fun o => textF (refF l auto k o)) refs [d] := by
  rw [refF_succ, textF_free _ _ (s := [d]) (fun c hc => by obtain rfl := List.mem_singleton.1 hc; exact h) (by simp)]
  have hp : partsF [d] = none := by
    cases hu : untilF 58 [d] with
    | none => exact parts_none1 hu
    | some k =>
      have hk := (until_lt hu).1
      rw [List.length_singleton] at hk
      obtain rfl : k = 0 := by omega
      exact parts_none2 hu rfl
  show partRest l auto k op refs [d] (partsF [d]) = _
  rw [hp]
  rfl
/-- What a call came to goes behind the rest. -/
def contQ (ref : Ref) (acc u : Bs) : MR → MR
  | .error e => .error e
  | .ok (y, r) => if 16384 < (acc ++ y).length then .error 3 else loopC ref (acc ++ y) r u
theorem cont_step (ref : Ref) (acc t u : Bs) (k : Nat) (q : MR) (h : t.drop k = u) : contF ref acc t (refStep k q) = contQ ref acc u q := by
  subst h
  cases q with
  | error e => rfl
  | ok z => rfl
theorem rest_drop {s : ByteArray} {i j k : Nat} (h : k = i + j) : (rest s i).drop j = rest s k := by
  subst h
  unfold rest
  rw [List.drop_drop]
theorem rest_one {s : ByteArray} {i : Nat} (h : i + 1 = s.size) : rest s i = [byteAt s i] := by
  rw [rest_cons (by omega), rest_nil (by omega)]
end Go.Proofs.Ytglppnpllpfaeaa
