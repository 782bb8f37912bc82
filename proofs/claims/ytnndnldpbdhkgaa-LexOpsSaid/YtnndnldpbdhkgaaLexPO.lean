/-
  Plain: operators, and words of one letter between them.
-/
import Derived.Test.YtnndnldpbdhkgaaLexBD
namespace Go.Proofs.Ytnndnldpbdhkgaa
set_option linter.unusedVariables false

/-- The operators of a law, by number. -/
def lawOps : List (List UInt8) := [[59, 59], [38, 38], [124, 124], [62, 62], [59], [124], [40], [41], [60], [62], [10]]
def padO (blank : Bool) (o : List UInt8) : List UInt8 := if blank then 32 :: (o ++ [9]) else o
def opsX (blank : Bool) : Bool → List (List UInt8) → List UInt8
  | _, [] => []
  | first, o :: l => (if first then [] else [97]) ++ (padO blank o ++ opsX blank false l)
def opTk (o : List UInt8) : Tk := ⟨2, o, []⟩
def aTk : Tk := ⟨1, [], [txtP [97]]⟩
def opsT : Bool → List (List UInt8) → List Tk
  | _, [] => []
  | first, o :: l => (if first then [] else [aTk]) ++ (opTk o :: opsT false l)
theorem opsX_snoc (blank : Bool) (o : List UInt8) : ∀ (l : List (List UInt8)) (first : Bool), opsX blank first (l ++ [o]) = opsX blank first l ++ ((if first && l.isEmpty then [] else [97]) ++ padO blank o)
  | [], first => by cases first <;> simp [opsX]
  | x :: l, first => by
    rw [List.cons_append]
    unfold opsX
    rw [opsX_snoc blank o l false]
    simp
theorem opsT_snoc (o : List UInt8) : ∀ (l : List (List UInt8)) (first : Bool), opsT first (l ++ [o]) = opsT first l ++ ((if first && l.isEmpty then [] else [aTk]) ++ [opTk o])
  | [], first => by cases first <;> simp [opsT]
  | x :: l, first => by
    rw [List.cons_append]
    unfold opsT
    rw [opsT_snoc o l false]
    simp
theorem op_take {o : List UInt8} (ho : o ∈ lawOps) {X : List UInt8} (hX : X = [] ∨ ∃ c t, X = c :: t ∧ (c = 9 ∨ c = 97)) : operF (o ++ X) = o ∧ (∃ c t, o ++ X = c :: t ∧ (c == 32 || c == 9) = false ∧ (c == 35) = false ∧ (c == 92) = false ∧ breaksB c = true) ∧ o ≠ [] := by
  simp only [lawOps, List.mem_cons, List.not_mem_nil, or_false] at ho
  rcases hX with rfl | ⟨c, t, rfl, rfl | rfl⟩
  all_goals (rcases ho with rfl | rfl | rfl | rfl | rfl | rfl | rfl | rfl | rfl | rfl | rfl <;> exact ⟨rfl, ⟨_, _, rfl, by decide, by decide, by decide, by decide⟩, by decide⟩)
theorem tokC_blank {c : UInt8} (h : (c == 32 || c == 9) = true) (r : List UInt8) : tokC (c :: r) = tokC r := by
  rw [tokC_eq, tokC_eq r, skipF_cons, if_pos h]
theorem tokC_op {o : List UInt8} (ho : o ∈ lawOps) {X : List UInt8} (hX : X = [] ∨ ∃ c t, X = c :: t ∧ (c = 9 ∨ c = 97)) : tokC (o ++ X) = consT (opTk o) (tokC X) := by
  obtain ⟨h1, ⟨c, t, e, h2, h3, h4, _⟩, h5⟩ := op_take ho hX
  have hs : skipF false (o ++ X) = o ++ X := by rw [e]; exact skip_stay h2 h3 h4 t
  have ht : tokOne (o ++ X) = .ok (⟨2, o, []⟩, X) := by
    rw [tokOne_op (by rw [h1]; exact h5), h1, List.drop_left]
  rw [tokC_eq, hs]
  rw [e] at ht ⊢
  dsimp only
  rw [ht]
  rfl
theorem tokC_a {X : List UInt8} (hX : ∃ c t, X = c :: t ∧ breaksB c = true) : tokC (97 :: X) = consT aTk (tokC X) := by
  obtain ⟨c, t, rfl, hc⟩ := hX
  rw [tokC_eq, skip_stay (by decide) (by decide) (by decide)]
  dsimp only
  rw [tokOne_word (operF_nil (by decide) _) rfl, wordC_cons, if_neg (by decide), lexC_plain (by decide)]
  dsimp only
  rw [wordC_cons, if_pos (by rw [hc]; rfl)]
  rfl
theorem ops_head (blank : Bool) {o : List UInt8} (ho : o ∈ lawOps) {X : List UInt8} (hX : X = [] ∨ ∃ t, X = 97 :: t) : ∃ c t, padO blank o ++ X = c :: t ∧ breaksB c = true := by
  cases blank with
  | true => exact ⟨32, _, rfl, by decide⟩
  | false =>
    obtain ⟨_, ⟨c, t, e, _, _, _, hb⟩, _⟩ := op_take ho (X := X) (by rcases hX with h | ⟨t, h⟩; exact .inl h; exact .inr ⟨97, t, h, .inr rfl⟩)
    exact ⟨c, t, e, hb⟩
theorem ops_rest (blank : Bool) (l : List (List UInt8)) : opsX blank false l = [] ∨ ∃ t, opsX blank false l = 97 :: t := by
  cases l with
  | nil => exact .inl rfl
  | cons o l => exact .inr ⟨_, rfl⟩
theorem consT_ok (x : Tk) (l : List Tk) : consT x (.ok l) = .ok (x :: l) := rfl
theorem tokC_pad (blank : Bool) {o : List UInt8} (ho : o ∈ lawOps) {X : List UInt8} (hX : X = [] ∨ ∃ t, X = 97 :: t) : tokC (padO blank o ++ X) = consT (opTk o) (tokC X) := by
  cases blank with
  | true =>
    show tokC (32 :: (o ++ [9] ++ X)) = _
    rw [tokC_blank (by decide), List.append_assoc, tokC_op ho (X := [9] ++ X) (.inr ⟨9, X, rfl, .inl rfl⟩)]
    show consT (opTk o) (tokC (9 :: X)) = _
    rw [tokC_blank (by decide)]
  | false => exact tokC_op ho (by rcases hX with h | ⟨t, h⟩; exact .inl h; exact .inr ⟨97, t, h, .inr rfl⟩)
theorem tokC_ops (blank : Bool) : ∀ (l : List (List UInt8)) (first : Bool), (∀ o ∈ l, o ∈ lawOps) → tokC (opsX blank first l) = .ok (opsT first l)
  | [], first, _ => rfl
  | o :: l, first, h => by
    have ho := h o (List.mem_cons_self ..)
    have ih := tokC_ops blank l false (fun x hx => h x (List.mem_cons_of_mem _ hx))
    have hr := ops_rest blank l
    unfold opsX opsT
    cases first with
    | true =>
      simp only [if_true, List.nil_append]
      rw [tokC_pad blank ho hr, ih]
      rfl
    | false =>
      simp only [Bool.false_eq_true, if_false, List.singleton_append]
      rw [tokC_a (ops_head blank ho hr), tokC_pad blank ho hr, ih]
      rfl
theorem opsX_len (blank : Bool) : ∀ (l : List (List UInt8)) (first : Bool), (∀ o ∈ l, o ∈ lawOps) → (opsX blank first l).length ≤ 5 * l.length
  | [], first, _ => by simp [opsX]
  | o :: l, first, h => by
    have ih := opsX_len blank l false (fun x hx => h x (List.mem_cons_of_mem _ hx))
    have ho : ∀ o ∈ lawOps, o.length ≤ 2 := by decide
    have ho := ho o (h o (List.mem_cons_self ..))
    have h1 : (padO blank o).length ≤ o.length + 2 := by cases blank <;> simp [padO]
    unfold opsX
    simp only [List.length_append, List.length_cons]
    have h2 : (if first = true then ([] : List UInt8) else [97]).length ≤ 1 := by split <;> simp
    omega
theorem opsX_zero (blank : Bool) : ∀ (l : List (List UInt8)) (first : Bool), (∀ o ∈ l, o ∈ lawOps) → ∀ c ∈ opsX blank first l, (c == 0) = false
  | [], first, _, c, hc => by cases hc
  | o :: l, first, h, c, hc => by
    have ho : ∀ o ∈ lawOps, ∀ c ∈ o, (c == 0) = false := by decide
    have ho := ho o (h o (List.mem_cons_self ..))
    unfold opsX at hc
    rcases List.mem_append.1 hc with hc | hc
    · cases first
      · rw [List.mem_singleton.1 hc]; rfl
      · cases hc
    · rcases List.mem_append.1 hc with hc | hc
      · cases blank
        · exact ho c hc
        · rcases List.mem_cons.1 hc with rfl | hc
          · rfl
          · rcases List.mem_append.1 hc with hc | hc
            · exact ho c hc
            · rw [List.mem_singleton.1 hc]; rfl
      · exact opsX_zero blank l false (fun x hx => h x (List.mem_cons_of_mem _ hx)) c hc
theorem opsT_len : ∀ (l : List (List UInt8)) (first : Bool), (opsT first l).length ≤ 2 * l.length
  | [], first => by simp [opsT]
  | o :: l, first => by
    have ih := opsT_len l false
    unfold opsT
    simp only [List.length_append, List.length_cons]
    have h2 : (if first = true then ([] : List Tk) else [aTk]).length ≤ 1 := by split <;> simp
    omega
end Go.Proofs.Ytnndnldpbdhkgaa
