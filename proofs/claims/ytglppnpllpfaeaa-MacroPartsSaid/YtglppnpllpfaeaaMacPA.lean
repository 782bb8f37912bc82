/-
  Plain: references to names that are there.
-/
import Derived.Test.YtglppnpllpfaeaaMacN
namespace Go.Proofs.Ytglppnpllpfaeaa
set_option linter.unusedVariables false

/-- A text without a sign. -/
def FreeD (s : Bs) : Prop := ∀ c ∈ s, c ≠ 36
theorem until_none {c : UInt8} : ∀ {s : Bs}, (∀ x ∈ s, x ≠ c) → untilF c s = none
  | [], _ => rfl
  | x :: t, h => by
    unfold untilF
    rw [if_neg (by rw [beq_iff_eq]; exact h x (List.mem_cons_self ..)), until_none fun y hy => h y (List.mem_cons_of_mem _ hy)]
    rfl
theorem until_at {c : UInt8} : ∀ {s : Bs} (r : Bs), (∀ x ∈ s, x ≠ c) → untilF c (s ++ c :: r) = some s.length
  | [], r, _ => by rw [List.nil_append]; unfold untilF; rw [if_pos (beq_self_eq_true c)]; rfl
  | x :: t, r, h => by
    rw [List.cons_append]
    unfold untilF
    rw [if_neg (by rw [beq_iff_eq]; exact h x (List.mem_cons_self ..)), until_at r fun y hy => h y (List.mem_cons_of_mem _ hy)]
    rfl
theorem cut_none {c : UInt8} {s : Bs} (h : ∀ x ∈ s, x ≠ c) : cutF c s = (s, [], false) := by unfold cutF; rw [until_none h]
theorem cut_at {c : UInt8} {s : Bs} (r : Bs) (h : ∀ x ∈ s, x ≠ c) : cutF c (s ++ c :: r) = (s, r, true) := by
  unfold cutF
  rw [until_at r h]
  dsimp only
  rw [List.take_left', List.drop_append, Nat.add_sub_cancel_left, List.drop_eq_nil_of_le (by omega)]
  · rfl
  · rfl
theorem loopC_free (ref : Ref) (acc : Bs) (refs : Nat) {s : Bs} (h : FreeD s) (hl : acc.length + s.length ≤ 16384) : loopC ref acc refs s = .ok (acc ++ s, refs) := by
  rw [loopC_eq, cut_none h]
  dsimp only
  rw [if_neg (by rw [List.length_append]; omega), if_neg (by simp)]
theorem textF_free (ref : Ref) (refs : Nat) {s : Bs} (h : FreeD s) (hl : s.length ≤ 16384) : textF ref refs s = .ok (s, refs) := by
  unfold textF
  rw [if_neg (by omega)]
  have := loopC_free ref [] refs h (by simpa using hl)
  rw [List.nil_append] at this
  exact this
/-- A text, then a sign, then what stands behind it. -/
theorem loopC_one (ref : Ref) (acc : Bs) (refs : Nat) {f r : Bs} (h : FreeD f) {y : Bs} {k r' : Nat} (ho : oneF ref refs r = .ok ((y, k), r')) (hl : acc.length + f.length + y.length ≤ 16384) :
    loopC ref acc refs (f ++ 36 :: r) = loopC ref (acc ++ f ++ y) r' (r.drop k) := by
  rw [loopC_eq, cut_at r h]
  dsimp only
  rw [if_neg (by rw [List.length_append]; omega), if_pos rfl, ho]
  dsimp only
  rw [if_neg (by rw [List.length_append, List.length_append]; omega)]
theorem loopC_one_err (ref : Ref) (acc : Bs) (refs : Nat) {f r : Bs} (h : FreeD f) {x : Nat} (ho : oneF ref refs r = .error x) (hl : acc.length + f.length ≤ 16384) :
    loopC ref acc refs (f ++ 36 :: r) = .error x := by
  rw [loopC_eq, cut_at r h]
  dsimp only
  rw [if_neg (by rw [List.length_append]; omega), if_pos rfl, ho]
theorem textF_loop (ref : Ref) (refs : Nat) {s : Bs} (hl : s.length ≤ 16384) : textF ref refs s = loopC ref [] refs s := by
  unfold textF
  rw [if_neg (by omega)]; rfl
/-- What is closed stands where its end is. -/
theorem closed_at {o c : UInt8} (hoc : o ≠ c) : ∀ {s : Bs} (r : Bs), (∀ x ∈ s, x ≠ o ∧ x ≠ c) → closedF o c 0 (s ++ c :: r) = some s.length
  | [], r, _ => by
    rw [List.nil_append, closedF_cons, if_neg (by rw [beq_iff_eq]; exact fun e => hoc e.symm), if_pos (beq_self_eq_true c), if_pos rfl]; rfl
  | x :: t, r, h => by
    obtain ⟨h1, h2⟩ := h x (List.mem_cons_self ..)
    rw [List.cons_append, closedF_cons, if_neg (by rw [beq_iff_eq]; exact h1), if_neg (by rw [beq_iff_eq]; exact h2), closed_at hoc r fun y hy => h y (List.mem_cons_of_mem _ hy)]
    rfl
/-- In parentheses, in braces. -/
theorem one_par {ref : Ref} {refs : Nat} {s : Bs} (r : Bs) (h : ∀ x ∈ s, x ≠ 40 ∧ x ≠ 41) (hr : refs < 10000) : oneF ref refs (40 :: (s ++ 41 :: r)) = match ref (refs + 1) s with | .error e => .error e | .ok (y, q) => .ok ((y, s.length + 2), q) := by
  unfold oneF
  dsimp only
  rw [if_neg (by decide), if_neg (by omega), if_pos (by decide), closed_at (by decide) r h]
  dsimp only
  rw [List.take_left' rfl]
  rfl
theorem one_brace {ref : Ref} {refs : Nat} {s : Bs} (r : Bs) (h : ∀ x ∈ s, x ≠ 123 ∧ x ≠ 125) (hr : refs < 10000) : oneF ref refs (123 :: (s ++ 125 :: r)) = match ref (refs + 1) s with | .error e => .error e | .ok (y, q) => .ok ((y, s.length + 2), q) := by
  unfold oneF
  dsimp only
  rw [if_neg (by decide), if_neg (by omega), if_neg (by decide), if_pos (by decide), closed_at (by decide) r h]
  dsimp only
  rw [List.take_left' rfl]
  rfl
theorem one_single {ref : Ref} {refs : Nat} {c : UInt8} (t : Bs) (h36 : c ≠ 36) (h40 : c ≠ 40) (h123 : c ≠ 123) (hr : refs < 10000) : oneF ref refs (c :: t) = match ref (refs + 1) [c] with | .error e => .error e | .ok (y, q) => .ok ((y, 1), q) := by
  unfold oneF
  dsimp only
  rw [if_neg (by rw [beq_iff_eq]; exact h36), if_neg (by omega), if_neg (by rw [beq_iff_eq]; exact h40), if_neg (by rw [beq_iff_eq]; exact h123)]
  rfl
theorem drop_close {s r : Bs} {o c : UInt8} : (o :: (s ++ c :: r)).drop (s.length + 2) = r := by
  rw [show s.length + 2 = (s.length + 1) + 1 by omega, List.drop_succ_cons, List.drop_append, Nat.add_sub_cancel_left, List.drop_eq_nil_of_le (by omega)]
  rfl
/-- A byte of a name is none of the signs. -/
theorem name_signs {c : UInt8} (h : nameB c = true) : c ≠ 36 ∧ c ≠ 40 ∧ c ≠ 41 ∧ c ≠ 123 ∧ c ≠ 125 ∧ c ≠ 58 := by
  refine ⟨?_, ?_, ?_, ?_, ?_, ?_⟩ <;> (rintro rfl; revert h; decide)
theorem nameF_parts {s : Bs} (h : nameF s = true) : s ≠ [] ∧ s.length ≤ 60 ∧ ∀ c ∈ s, nameB c = true := by
  unfold nameF at h
  rw [Bool.and_eq_true, Bool.and_eq_true, decide_eq_true_eq, List.all_eq_true] at h
  refine ⟨?_, h.1.2, h.2⟩
  rintro rfl
  exact absurd h.1.1 (by simp)
theorem name_free {s : Bs} (h : ∀ c ∈ s, nameB c = true) : FreeD s := fun c hc => (name_signs (h c hc)).1
/-- What a reference to a name comes to. -/
theorem ref_name {l auto : List (Bs × Bs)} {k : Nat} {op : List Bs} {refs : Nat} {s : Bs} (h : ∀ c ∈ s, nameB c = true) (hl : s.length ≤ 16384) : refF l auto (k + 1) op refs s = valueF l auto op (fun o => textF (refF l auto k o)) refs s := by
  rw [refF_succ, textF_free _ _ (name_free h) hl]
  have hp : partsF s = none := by
    unfold partsF
    rw [cut_none fun x hx => (name_signs (h x hx)).2.2.2.2.2]
    rfl
  show partRest l auto k op refs s (partsF s) = _
  rw [hp]
  rfl
theorem value_auto {l auto : List (Bs × Bs)} {op : List Bs} {t : List Bs → Nat → Bs → MR} {refs : Nat} {s v : Bs} (h : lastF auto s = some v) : valueF l auto op t refs s = .ok (v, refs) := by unfold valueF; rw [h]
theorem value_free {l auto : List (Bs × Bs)} {op : List Bs} {ref : List Bs → Ref} {refs : Nat} {s v : Bs} (h0 : lastF auto s = none) (h : lastF l s = some v) (hop : s ∉ op) (hv : FreeD v) (hl : v.length ≤ 16384) : valueF l auto op (fun o => textF (ref o)) refs s = .ok (v, refs) := by
  unfold valueF
  rw [h0, h]
  dsimp only
  rw [if_neg (by simpa using hop), textF_free _ _ hv hl]
/-- MacroAutos: a name twice, between angles. -/
theorem autos_text {l auto : List (Bs × Bs)} {name v : Bs} (hn : ∀ c ∈ name, nameB c = true) (hl : name.length ≤ 60) (hr : ∀ refs, refF l auto 40 [] refs name = .ok (v, refs)) (hv : v.length ≤ 1000) :
    expandF l auto ([60, 36, 40] ++ name ++ [41, 36] ++ [123] ++ name ++ [125, 62]) = .ok ([60] ++ v ++ v ++ [62]) := by
  rw [expandF_out, textF_loop _ _ (by simp only [List.length_append, List.length_cons, List.length_nil]; omega)]
  have e : [60, 36, 40] ++ name ++ [41, 36] ++ [123] ++ name ++ [125, 62] = [60] ++ 36 :: (40 :: (name ++ 41 :: ([] ++ 36 :: (123 :: (name ++ 125 :: [62]))))) := by simp
  rw [e, loopC_one _ _ _ (f := [60]) (fun c hc => by obtain rfl := List.mem_singleton.1 hc; decide) (y := v) (k := name.length + 2) (r' := 1) (by
    rw [one_par _ (fun x hx => ⟨(name_signs (hn x hx)).2.1, (name_signs (hn x hx)).2.2.1⟩) (by omega), hr]) (by simp; omega), drop_close]
  rw [loopC_one _ _ _ (f := []) (fun c hc => by cases hc) (y := v) (k := name.length + 2) (r' := 2) (by
    rw [one_brace _ (fun x hx => ⟨(name_signs (hn x hx)).2.2.2.1, (name_signs (hn x hx)).2.2.2.2.1⟩) (by omega), hr]) (by simp; omega), drop_close]
  rw [loopC_free _ _ _ (fun c hc => by obtain rfl := List.mem_singleton.1 hc; decide) (by simp; omega)]
  show Except.ok _ = Except.ok _
  simp
theorem autos_one {l auto : List (Bs × Bs)} {c : UInt8} {t v : Bs} (hn : ∀ x ∈ c :: t, nameB x = true) (hl : (c :: t).length ≤ 60) (hr : ∀ refs, refF l auto 40 [] refs [c] = .ok (v, refs)) (hv : v.length ≤ 1000) :
    expandF l auto ([36] ++ c :: t) = .ok (v ++ t) := by
  rw [expandF_out, textF_loop _ _ (by simp only [List.length_append, List.length_cons, List.length_nil] at hl ⊢; omega)]
  obtain ⟨s1, s2, _, s4, _⟩ := name_signs (hn c (List.mem_cons_self ..))
  have e : ([36] ++ c :: t : Bs) = [] ++ 36 :: (c :: t) := rfl
  simp only [List.length_cons] at hl
  rw [e, loopC_one _ _ _ (f := []) (fun c hc => by cases hc) (y := v) (k := 1) (r' := 1) (by rw [one_single _ s1 s2 s4 (by omega), hr]) (by simp; omega)]
  rw [List.drop_one, List.tail_cons, loopC_free _ _ _ (name_free fun x hx => hn x (List.mem_cons_of_mem _ hx)) (by simp; omega)]
  show Except.ok _ = Except.ok _
  simp
/-- MacroNested. -/
theorem closed_in {o c : UInt8} (hoc : o ≠ c) : ∀ {s : Bs} (n : Nat) (r : Bs), (∀ x ∈ s, x ≠ o ∧ x ≠ c) → closedF o c n (s ++ r) = (closedF o c n r).map (· + s.length)
  | [], n, r, _ => by
    rw [List.nil_append]
    cases closedF o c n r <;> rfl
  | x :: t, n, r, h => by
    obtain ⟨h1, h2⟩ := h x (List.mem_cons_self ..)
    rw [List.cons_append, closedF_cons, if_neg (by rw [beq_iff_eq]; exact h1), if_neg (by rw [beq_iff_eq]; exact h2), closed_in hoc n r fun y hy => h y (List.mem_cons_of_mem _ hy)]
    cases closedF o c n r with
    | none => rfl
    | some k => rfl
theorem ref_inner {a b v : Bs} (hab : a ≠ b) (ha : ∀ c ∈ a, nameB c = true) (hb : ∀ c ∈ b, nameB c = true) (la : a.length ≤ 60) (lb : b.length ≤ 60) (hv : FreeD v) (lv : v.length ≤ 1000) (refs : Nat) (hr : refs < 9000) :
    refF [(a, b), (b, v)] [] 40 [] refs ([36, 40] ++ a ++ [41]) = .ok (v, refs + 1) := by
  have h1 : lastF [(a, b), (b, v)] a = some b := by
    unfold lastF
    simp [Ne.symm hab]
  have h2 : lastF [(a, b), (b, v)] b = some v := by
    unfold lastF
    simp
  rw [refF_succ]
  have ht : textF (refF [(a, b), (b, v)] [] 39 []) refs ([36, 40] ++ a ++ [41]) = .ok (b, refs + 1) := by
    rw [textF_loop _ _ (by simp only [List.length_append, List.length_cons, List.length_nil]; omega)]
    have e : ([36, 40] ++ a ++ [41] : Bs) = [] ++ 36 :: (40 :: (a ++ 41 :: [])) := by simp
    rw [e, loopC_one _ _ _ (f := []) (fun c hc => by cases hc) (y := b) (k := a.length + 2) (r' := refs + 1) (by
      rw [one_par _ (fun x hx => ⟨(name_signs (ha x hx)).2.1, (name_signs (ha x hx)).2.2.1⟩) (by omega), ref_name ha (by omega), value_free rfl h1 (by simp) (name_free hb) (by omega)]) (by simp; omega), drop_close]
    rw [loopC_free _ _ _ (fun c hc => by cases hc) (by simp; omega)]
    simp
  rw [ht]
  have hp : partsF b = none := by
    unfold partsF
    rw [cut_none fun x hx => (name_signs (hb x hx)).2.2.2.2.2]
    rfl
  show partRest _ _ 39 [] (refs + 1) b (partsF b) = _
  rw [hp]
  show valueF [(a, b), (b, v)] [] [] (fun o => textF (refF [(a, b), (b, v)] [] 39 o)) (refs + 1) b = _
  exact value_free rfl h2 (by simp) hv (by omega)
theorem nested_par {a b v : Bs} (hab : a ≠ b) (ha : ∀ c ∈ a, nameB c = true) (hb : ∀ c ∈ b, nameB c = true) (la : a.length ≤ 60) (lb : b.length ≤ 60) (hv : FreeD v) (lv : v.length ≤ 1000) :
    expandF [(a, b), (b, v)] [] ([36, 40, 36, 40] ++ a ++ [41, 41]) = .ok v := by
  rw [expandF_out, textF_loop _ _ (by simp only [List.length_append, List.length_cons, List.length_nil]; omega)]
  have e : ([36, 40, 36, 40] ++ a ++ [41, 41] : Bs) = [] ++ 36 :: (40 :: (36 :: 40 :: (a ++ 41 :: 41 :: []))) := by simp
  have hc : closedF 40 41 0 (36 :: 40 :: (a ++ 41 :: 41 :: [])) = some (a.length + 3) := by
    rw [closedF_cons, if_neg (by decide), if_neg (by decide), closedF_cons, if_pos (by decide), closed_in (by decide) _ _ fun x hx => ⟨(name_signs (ha x hx)).2.1, (name_signs (ha x hx)).2.2.1⟩]
    rw [closedF_cons, if_neg (by decide), if_pos (by decide), if_neg (by decide), closedF_cons, if_neg (by decide), if_pos (by decide), if_pos (by decide)]
    simp
    omega
  have ho : oneF (refF [(a, b), (b, v)] [] 40 []) 0 (40 :: (36 :: 40 :: (a ++ 41 :: 41 :: []))) = .ok ((v, a.length + 5), 2) := by
    unfold oneF
    dsimp only
    rw [if_neg (by decide), if_neg (by decide), if_pos (by decide), hc]
    dsimp only
    rw [show (36 :: 40 :: (a ++ 41 :: 41 :: []) : Bs).take (a.length + 3) = [36, 40] ++ a ++ [41] by
      rw [show (36 :: 40 :: (a ++ 41 :: 41 :: []) : Bs) = ([36, 40] ++ a ++ [41]) ++ [41] by simp]
      exact List.take_left' (by simp)]
    rw [ref_inner hab ha hb la lb hv lv 1 (by omega)]
  rw [e, loopC_one _ _ _ (f := []) (fun c hc => by cases hc) ho (by simp; omega)]
  rw [show (40 :: (36 :: 40 :: (a ++ 41 :: 41 :: [])) : Bs).drop (a.length + 5) = [] from List.drop_eq_nil_of_le (by simp)]
  rw [loopC_free _ _ _ (fun c hc => by cases hc) (by simp; omega)]
  show Except.ok _ = Except.ok _
  simp
theorem nested_brace {a b v : Bs} (hab : a ≠ b) (ha : ∀ c ∈ a, nameB c = true) (hb : ∀ c ∈ b, nameB c = true) (la : a.length ≤ 60) (lb : b.length ≤ 60) (hv : FreeD v) (lv : v.length ≤ 1000) :
    expandF [(a, b), (b, v)] [] ([36, 123, 36, 40] ++ a ++ [41, 125]) = .ok v := by
  rw [expandF_out, textF_loop _ _ (by simp only [List.length_append, List.length_cons, List.length_nil]; omega)]
  have e : ([36, 123, 36, 40] ++ a ++ [41, 125] : Bs) = [] ++ 36 :: (123 :: (([36, 40] ++ a ++ [41]) ++ 125 :: [])) := by simp
  rw [e, loopC_one _ _ _ (f := []) (fun c hc => by cases hc) (y := v) (k := ([36, 40] ++ a ++ [41]).length + 2) (r' := 2) (by
    rw [one_brace _ (fun x hx => by
      simp only [List.mem_append, List.mem_cons, List.not_mem_nil, or_false] at hx
      rcases hx with ((rfl | rfl) | hx) | rfl
      · decide
      · decide
      · exact ⟨(name_signs (ha x hx)).2.2.2.1, (name_signs (ha x hx)).2.2.2.2.1⟩
      · decide) (by omega), ref_inner hab ha hb la lb hv lv 1 (by omega)]) (by simp; omega), drop_close]
  rw [loopC_free _ _ _ (fun c hc => by cases hc) (by simp; omega)]
  show Except.ok _ = Except.ok _
  simp
end Go.Proofs.Ytglppnpllpfaeaa
