/-
  Plain: how long what a text comes to may be.
-/
import Derived.Test.YtglppnpllpfaeaaMacD
namespace Go.Proofs.Ytglppnpllpfaeaa
set_option linter.unusedVariables false

theorem loopF_len (ref : Ref) : ∀ (n : Nat) (acc : Bs) (refs : Nat) (s y : Bs) (r : Nat), loopF ref n acc refs s = .ok (y, r) → y.length ≤ 16384 := by
  intro n
  induction n with
  | zero => intro acc refs s y r h; cases h
  | succ n ih =>
    intro acc refs s y r h
    unfold loopF at h
    split at h
    · cases h
    · next hn =>
      split at h
      · cases h2 : oneF ref refs (cutF 36 s).2.1 with
        | error e => rw [h2] at h; cases h
        | ok z =>
          obtain ⟨⟨a, b⟩, c⟩ := z
          rw [h2] at h
          dsimp only at h
          split at h
          · cases h
          · exact ih _ _ _ _ _ h
      · obtain ⟨rfl, rfl⟩ := Prod.mk.inj (Except.ok.inj h)
        omega
theorem textF_len {ref : Ref} {refs : Nat} {s y : Bs} {r : Nat} (h : textF ref refs s = .ok (y, r)) : y.length ≤ 16384 := by
  unfold textF at h
  split at h
  · cases h
  · exact loopF_len _ _ _ _ _ _ _ h
theorem joinF_len (M : Nat) : ∀ (l : List Bs), (∀ x ∈ l, x.length ≤ M) → (joinF l).length ≤ l.length * (M + 1)
  | [], _ => Nat.zero_le _
  | [x], h => by
    have := h x (List.mem_cons_self ..)
    show x.length ≤ 1 * (M + 1)
    omega
  | x :: y :: l, h => by
    have h1 := h x (List.mem_cons_self ..)
    have h2 := joinF_len M (y :: l) fun z hz => h z (List.mem_cons_of_mem _ hz)
    show (x ++ 32 :: joinF (y :: l)).length ≤ _
    rw [List.length_append, List.length_cons]
    have e : (x :: y :: l).length * (M + 1) = (y :: l).length * (M + 1) + (M + 1) := by rw [List.length_cons (as := y :: l), Nat.add_mul, Nat.one_mul]
    omega
theorem wordsG_len : ∀ (s w : Bs), (wordsG w s).length ≤ s.length + 1 ∧ ∀ x ∈ wordsG w s, x.length ≤ w.length + s.length
  | [], w => by
    unfold wordsG
    split
    · exact ⟨Nat.zero_le _, fun x hx => by cases hx⟩
    · exact ⟨Nat.le_refl _, fun x hx => by obtain rfl := List.mem_singleton.1 hx; simp⟩
  | c :: t, w => by
    unfold wordsG
    have h0 := wordsG_len t []
    have h1 := wordsG_len t (w ++ [c])
    simp only [List.length_append, List.length_cons, List.length_nil] at h0 h1 ⊢
    split
    · split
      · exact ⟨by omega, fun x hx => by have := h0.2 x hx; omega⟩
      · refine ⟨by rw [List.length_cons]; omega, fun x hx => ?_⟩
        rcases List.mem_cons.1 hx with rfl | hx
        · omega
        · have := h0.2 x hx; omega
    · exact ⟨by omega, fun x hx => by have := h1.2 x hx; omega⟩
theorem stemF_len (p s : Bs) : (stemF p s).1.length ≤ s.length := by
  unfold stemF
  repeat' split
  all_goals first | exact Nat.zero_le _ | (simp only [List.length_take, List.length_drop]; omega)
theorem fillM_len (p s : Bs) : (fillF p s).length ≤ p.length + s.length := by
  unfold fillF
  split
  · omega
  · simp only [List.length_append, List.length_take, List.length_drop]
    omega
theorem swapW_len (f t s : Bs) : (swapW f t s).length ≤ t.length + s.length := by
  unfold swapW swapOne
  split
  · split
    · have h1 := fillM_len t (stemF f s).1
      have h2 := stemF_len f s
      omega
    · omega
  · split
    · simp only [List.length_append, List.length_take]; omega
    · omega
theorem swappedF_len (v f t : Bs) : (swappedF v f t).length ≤ (v.length + 1) * (t.length + v.length + 1) := by
  unfold swappedF
  obtain ⟨h1, h2⟩ := wordsG_len v []
  have h3 := joinF_len (t.length + v.length) ((wordsF v).map (swapW f t)) fun x hx => by
    obtain ⟨y, hy, rfl⟩ := List.mem_map.1 hx
    have h4 := h2 y hy
    have h5 := swapW_len f t y
    simp only [List.length_nil, Nat.zero_add] at h4
    omega
  rw [List.length_map] at h3
  exact Nat.le_trans h3 (Nat.mul_le_mul_right _ h1)
theorem lastF_mem {l : List (Bs × Bs)} {name v : Bs} (h : lastF l name = some v) : ∃ p ∈ l, p.2 = v := by
  unfold lastF at h
  cases hf : l.reverse.find? (fun p => p.1 == name) with
  | none => rw [hf] at h; cases h
  | some p =>
    rw [hf] at h
    exact ⟨p, List.mem_reverse.1 (List.mem_of_find?_eq_some hf), Option.some.inj h⟩
/-- No macro is great. -/
def Small (l : List (Bs × Bs)) : Prop := ∀ p ∈ l, p.2.length ≤ 100000
theorem Small.last {l : List (Bs × Bs)} {name v : Bs} (h : Small l) (hv : lastF l name = some v) : v.length ≤ 100000 := by
  obtain ⟨p, hp, rfl⟩ := lastF_mem hv
  exact h p hp
theorem valueF_len {l auto : List (Bs × Bs)} (ha : Small auto) {op : List Bs} {ref : List Bs → Ref} {refs : Nat} {name y : Bs} {r : Nat} (h : valueF l auto op (fun o => textF (ref o)) refs name = .ok (y, r)) : y.length ≤ 100000 := by
  unfold valueF at h
  cases h1 : lastF auto name with
  | some v =>
    rw [h1] at h
    obtain ⟨rfl, rfl⟩ := Prod.mk.inj (Except.ok.inj h)
    exact ha.last h1
  | none =>
    rw [h1] at h
    dsimp only at h
    cases h2 : lastF l name with
    | none =>
      rw [h2] at h
      obtain ⟨rfl, rfl⟩ := Prod.mk.inj (Except.ok.inj h)
      exact Nat.zero_le _
    | some v =>
      rw [h2] at h
      dsimp only at h
      split at h
      · cases h
      · have := textF_len h; omega
theorem cutF_le (c : UInt8) (s : Bs) : (cutF c s).1.length ≤ s.length ∧ (cutF c s).2.1.length ≤ s.length := by
  unfold cutF
  cases untilF c s with
  | none => exact ⟨Nat.le_refl _, Nat.zero_le _⟩
  | some k =>
    dsimp only
    rw [List.length_take, List.length_drop]
    omega
theorem partsF_len {t name f g : Bs} (h : partsF t = some (name, f, g)) : name.length ≤ t.length ∧ f.length ≤ t.length ∧ g.length ≤ t.length := by
  unfold partsF at h
  split at h
  · obtain ⟨rfl, h2⟩ := Prod.mk.inj (Option.some.inj h)
    obtain ⟨rfl, rfl⟩ := Prod.mk.inj h2
    have h3 := cutF_le 58 t
    have h4 := cutF_le 61 (cutF 58 t).2.1
    omega
  · cases h
theorem refF_len {l auto : List (Bs × Bs)} (ha : Small auto) {k : Nat} {op : List Bs} {refs : Nat} {s y : Bs} {r : Nat} (h : refF l auto k op refs s = .ok (y, r)) : y.length ≤ 20000000000 := by
  cases k with
  | zero => cases h
  | succ k =>
    unfold refF at h
    cases h1 : textF (refF l auto k op) refs s with
    | error e => rw [h1] at h; cases h
    | ok z =>
      obtain ⟨t, r1⟩ := z
      have ht := textF_len h1
      rw [h1] at h
      dsimp only at h
      cases h2 : partsF t with
      | none =>
        rw [h2] at h
        have := valueF_len ha (ref := refF l auto k) h
        omega
      | some z =>
        obtain ⟨name, f, g⟩ := z
        rw [h2] at h
        dsimp only at h
        cases h3 : valueF l auto op (fun o => textF (refF l auto k o)) r1 name with
        | error e => rw [h3] at h; cases h
        | ok z =>
          obtain ⟨v, r2⟩ := z
          have hv := valueF_len ha (ref := refF l auto k) h3
          have hp := partsF_len h2
          rw [h3] at h
          obtain ⟨rfl, rfl⟩ := Prod.mk.inj (Except.ok.inj h)
          have h4 := swappedF_len v f g
          have h5 : (v.length + 1) * (g.length + v.length + 1) ≤ 100001 * 116385 := Nat.mul_le_mul (by omega) (by omega)
          omega
theorem oneF_le {ref : Ref} {refs : Nat} {s y : Bs} {n r M : Nat} (hM : ∀ a b c d, ref a b = .ok (c, d) → c.length ≤ M) (h : oneF ref refs s = .ok ((y, n), r)) (hcl : ∀ (o c : UInt8) (t : Bs) (k : Nat), closedF o c 0 t = some k → k < t.length) : n ≤ s.length ∧ (y.length ≤ M ∨ y.length ≤ 1) := by
  unfold oneF at h
  cases s with
  | nil =>
    obtain ⟨h1, rfl⟩ := Prod.mk.inj (Except.ok.inj h)
    obtain ⟨rfl, rfl⟩ := Prod.mk.inj h1
    exact ⟨Nat.le_refl _, .inr (Nat.le_refl _)⟩
  | cons c t =>
    dsimp only at h
    split at h
    · obtain ⟨h1, rfl⟩ := Prod.mk.inj (Except.ok.inj h)
      obtain ⟨rfl, rfl⟩ := Prod.mk.inj h1
      exact ⟨by simp, .inr (Nat.le_refl _)⟩
    · split at h
      · cases h
      · have key : ∀ (o d : UInt8), (match closedF o d 0 t with
            | none => (.error 2 : Except Nat ((Bs × Nat) × Nat))
            | some k => match ref (refs + 1) (t.take k) with | .error e => .error e | .ok (y, r) => .ok ((y, k + 2), r)) = .ok ((y, n), r) → n ≤ (c :: t).length ∧ (y.length ≤ M ∨ y.length ≤ 1) := fun o d h => by
          cases h1 : closedF o d 0 t with
          | none => rw [h1] at h; cases h
          | some k =>
            rw [h1] at h
            dsimp only at h
            cases h2 : ref (refs + 1) (t.take k) with
            | error e => rw [h2] at h; cases h
            | ok z =>
              obtain ⟨a, b⟩ := z
              rw [h2] at h
              obtain ⟨h3, rfl⟩ := Prod.mk.inj (Except.ok.inj h)
              obtain ⟨rfl, rfl⟩ := Prod.mk.inj h3
              have := hcl _ _ _ _ h1
              exact ⟨by rw [List.length_cons]; omega, .inl (hM _ _ _ _ h2)⟩
        split at h
        · exact key _ _ h
        · split at h
          · exact key _ _ h
          · cases h2 : ref (refs + 1) [c] with
            | error e => rw [h2] at h; cases h
            | ok z =>
              obtain ⟨a, b⟩ := z
              rw [h2] at h
              obtain ⟨h3, rfl⟩ := Prod.mk.inj (Except.ok.inj h)
              obtain ⟨rfl, rfl⟩ := Prod.mk.inj h3
              exact ⟨by simp, .inl (hM _ _ _ _ h2)⟩
end Go.Proofs.Ytglppnpllpfaeaa
