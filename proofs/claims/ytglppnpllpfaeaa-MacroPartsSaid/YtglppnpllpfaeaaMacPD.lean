/-
  Plain: texts one behind the other come to what each comes to, or to too many references.
-/
import Derived.Test.YtglppnpllpfaeaaMacYP
namespace Go.Proofs.Ytglppnpllpfaeaa
set_option linter.unusedVariables false

/-- More references ahead alter nothing, or are too many. -/
def ShiftR (ref : Ref) : Prop := ∀ r s y r', ref r s = .ok (y, r') → r ≤ r' ∧ ∀ d, ref (r + d) s = .ok (y, r' + d) ∨ ref (r + d) s = .error 3
theorem step_ok {k : Nat} {q : MR} {y : Bs} {n r : Nat} (h : refStep k q = .ok ((y, n), r)) : n = k ∧ q = .ok (y, r) := by
  cases q with
  | error e => cases h
  | ok z =>
    obtain ⟨a, b⟩ := z
    simp only [refStep, Except.ok.injEq, Prod.mk.injEq] at h
    obtain ⟨⟨rfl, rfl⟩, rfl⟩ := h
    exact ⟨rfl, rfl⟩
theorem step_err {k : Nat} {e : Nat} : refStep k (.error e) = .error e := rfl
theorem step_of {k : Nat} {y : Bs} {r : Nat} : refStep k (.ok (y, r)) = .ok ((y, k), r) := rfl
theorem shift_step {ref : Ref} (H : ShiftR ref) {r r' k n : Nat} {s y : Bs} (h : refStep k (ref (r + 1) s) = .ok ((y, n), r')) :
    n = k ∧ r ≤ r' ∧ ∀ d, refStep k (ref (r + d + 1) s) = .ok ((y, k), r' + d) ∨ refStep k (ref (r + d + 1) s) = .error 3 := by
  obtain ⟨rfl, hq⟩ := step_ok h
  obtain ⟨hr, hd⟩ := H _ _ _ _ hq
  refine ⟨rfl, by omega, fun d => ?_⟩
  have := hd d
  rw [show r + 1 + d = r + d + 1 by omega] at this
  rcases this with h1 | h1
  · exact Or.inl (by rw [h1]; rfl)
  · exact Or.inr (by rw [h1]; rfl)
/-- How what stands behind a sign is met. -/
theorem one_cases (ref : Ref) (refs : Nat) (d : UInt8) (t : Bs) (h36 : d ≠ 36) :
    10000 < refs + 1 ∨ ¬ 10000 < refs + 1 ∧ ((∃ o e, openD o e ∧ d = o) ∨ (d ≠ 40 ∧ d ≠ 123)) := by
  by_cases h : 10000 < refs + 1
  · exact Or.inl h
  · refine Or.inr ⟨h, ?_⟩
    by_cases h1 : d = 40
    · exact Or.inl ⟨40, 41, Or.inl ⟨rfl, rfl⟩, h1⟩
    · by_cases h2 : d = 123
      · exact Or.inl ⟨123, 125, Or.inr ⟨rfl, rfl⟩, h2⟩
      · exact Or.inr ⟨h1, h2⟩
theorem shift_one {ref : Ref} (H : ShiftR ref) {r : Nat} {s y : Bs} {k r' : Nat} (h : oneF ref r s = .ok ((y, k), r')) :
    r ≤ r' ∧ ∀ d, oneF ref (r + d) s = .ok ((y, k), r' + d) ∨ oneF ref (r + d) s = .error 3 := by
  cases s with
  | nil =>
    simp only [oneF, Except.ok.injEq, Prod.mk.injEq] at h
    obtain ⟨⟨rfl, rfl⟩, rfl⟩ := h
    exact ⟨Nat.le_refl _, fun d => Or.inl rfl⟩
  | cons c t =>
    by_cases h36 : c = 36
    · subst h36
      rw [one_dollar] at h
      simp only [Except.ok.injEq, Prod.mk.injEq] at h
      obtain ⟨⟨rfl, rfl⟩, rfl⟩ := h
      exact ⟨Nat.le_refl _, fun d => Or.inl (one_dollar _ _ _)⟩
    · rcases one_cases ref r c t h36 with hm | ⟨hm, hk⟩
      · rw [one_much t h36 hm] at h
        cases h
      · have much : ∀ d, 10000 < r + d + 1 → oneF ref (r + d) (c :: t) = .error 3 := fun d hd => one_much t h36 hd
        rcases hk with ⟨o, e, ho, rfl⟩ | ⟨h40, h123⟩
        · rw [one_open t ho hm] at h
          cases hc : closedF c e 0 t with
          | none => rw [hc] at h; cases h
          | some j =>
            rw [hc] at h
            obtain ⟨rfl, hr, hd⟩ := shift_step H h
            refine ⟨hr, fun d => ?_⟩
            by_cases hm2 : 10000 < r + d + 1
            · exact Or.inr (much d hm2)
            · rw [one_open t ho hm2, hc]
              exact hd d
        · rw [one_other t h36 h40 h123 hm] at h
          obtain ⟨rfl, hr, hd⟩ := shift_step H h
          refine ⟨hr, fun d => ?_⟩
          by_cases hm2 : 10000 < r + d + 1
          · exact Or.inr (much d hm2)
          · rw [one_other t h36 h40 h123 hm2]
            exact hd d
theorem loopC_long (ref : Ref) (acc : Bs) (refs : Nat) (s : Bs) (h : 16384 < acc.length) : loopC ref acc refs s = .error 3 := by
  rw [loopC_eq, if_pos (by rw [List.length_append]; omega)]
theorem loopC_short {ref : Ref} {acc : Bs} {refs : Nat} {s z : Bs} {r : Nat} (h : loopC ref acc refs s = .ok (z, r)) : acc.length ≤ 16384 := by
  refine Nat.le_of_not_lt fun h1 => ?_
  rw [loopC_long _ _ _ _ h1] at h
  cases h
theorem cont_ok {ref : Ref} {acc t : Bs} {q : Except Nat ((Bs × Nat) × Nat)} {z : Bs} {r' : Nat} (h : contF ref acc t q = .ok (z, r')) :
    ∃ y k r, q = .ok ((y, k), r) ∧ (acc ++ y).length ≤ 16384 ∧ loopC ref (acc ++ y) r (t.drop k) = .ok (z, r') := by
  cases q with
  | error e => cases h
  | ok x =>
    obtain ⟨⟨y, k⟩, r⟩ := x
    unfold contF at h
    dsimp only at h
    by_cases h1 : 16384 < (acc ++ y).length
    · rw [if_pos h1] at h; cases h
    · rw [if_neg h1] at h
      exact ⟨y, k, r, rfl, by omega, h⟩
theorem cont_of {ref : Ref} {acc t : Bs} {y : Bs} {k r : Nat} : contF ref acc t (.ok ((y, k), r)) = loopC ref (acc ++ y) r (t.drop k) := by
  show (if 16384 < (acc ++ y).length then .error 3 else loopC ref (acc ++ y) r (t.drop k)) = _
  by_cases h : 16384 < (acc ++ y).length
  · rw [if_pos h, loopC_long _ _ _ _ h]
  · rw [if_neg h]
theorem loop_byte (ref : Ref) (acc : Bs) (refs : Nat) {c : UInt8} (h : c ≠ 36) (t : Bs) : loopC ref acc refs (c :: t) = loopC ref (acc ++ [c]) refs t := by
  rw [loopC_byte ref acc refs h]
  by_cases h : 16384 < (acc ++ [c]).length
  · rw [if_pos h, loopC_long _ _ _ _ h]
  · rw [if_neg h]
/-- The loop with a text and references ahead. -/
theorem shift_loop {ref : Ref} (H : ShiftR ref) : ∀ (n : Nat) (s : Bs), s.length ≤ n → ∀ (acc : Bs) (r : Nat) (z : Bs) (r' : Nat), loopC ref acc r s = .ok (z, r') →
    r ≤ r' ∧ ∃ y, z = acc ++ y ∧ ∀ (pre : Bs) (d : Nat), loopC ref (pre ++ acc) (r + d) s = .ok (pre ++ z, r' + d) ∨ loopC ref (pre ++ acc) (r + d) s = .error 3 := by
  intro n
  induction n with
  | zero =>
    intro s hs acc r z r' h
    obtain rfl := List.length_eq_zero_iff.1 (Nat.le_zero.1 hs)
    rw [loopC_end _ _ _ (loopC_short h)] at h
    simp only [Except.ok.injEq, Prod.mk.injEq] at h
    obtain ⟨rfl, rfl⟩ := h
    refine ⟨Nat.le_refl _, [], (List.append_nil _).symm, fun pre d => ?_⟩
    by_cases hl : 16384 < (pre ++ acc).length
    · exact Or.inr (loopC_long _ _ _ _ hl)
    · exact Or.inl (loopC_end _ _ _ (by omega))
  | succ n ih =>
    intro s hs acc r z r' h
    cases s with
    | nil => exact ih [] (Nat.zero_le _) acc r z r' h
    | cons c t =>
      rw [List.length_cons] at hs
      by_cases h36 : c = 36
      · subst h36
        have hacc := loopC_short h
        rw [loopC_sign _ _ _ hacc] at h
        obtain ⟨y, k, r1, ho, hl, h1⟩ := cont_ok h
        obtain ⟨hr, hd⟩ := shift_one H ho
        obtain ⟨hr2, y2, rfl, hp⟩ := ih (t.drop k) (by rw [List.length_drop]; omega) _ _ _ _ h1
        refine ⟨by omega, y ++ y2, List.append_assoc _ _ _, fun pre d => ?_⟩
        by_cases hl2 : 16384 < (pre ++ acc).length
        · exact Or.inr (loopC_long _ _ _ _ hl2)
        · rw [loopC_sign _ _ _ (by omega)]
          rcases hd d with h3 | h3
          · rw [h3, cont_of, List.append_assoc]
            exact hp pre d
          · rw [h3]
            exact Or.inr rfl
      · rw [loop_byte _ _ _ h36] at h
        obtain ⟨hr2, y2, rfl, hp⟩ := ih t (by omega) _ _ _ _ h
        refine ⟨hr2, [c] ++ y2, List.append_assoc _ _ _, fun pre d => ?_⟩
        rw [loop_byte _ _ _ h36, List.append_assoc]
        exact hp pre d
theorem shift_text {ref : Ref} (H : ShiftR ref) {r : Nat} {s y : Bs} {r' : Nat} (h : textF ref r s = .ok (y, r')) : r ≤ r' ∧ ∀ d, textF ref (r + d) s = .ok (y, r' + d) ∨ textF ref (r + d) s = .error 3 := by
  by_cases hl : 16384 < s.length
  · unfold textF at h; rw [if_pos hl] at h; cases h
  · rw [textF_loop _ _ (by omega)] at h
    obtain ⟨hr, y2, hy, hp⟩ := shift_loop H _ _ (Nat.le_refl _) _ _ _ _ h
    refine ⟨hr, fun d => ?_⟩
    rw [textF_loop _ _ (by omega)]
    exact hp [] d
theorem shift_value {l auto : List (Bs × Bs)} {op : List Bs} {ref : List Bs → Ref} (H : ∀ o, ShiftR (ref o)) {r : Nat} {s y : Bs} {r' : Nat} (h : valueF l auto op (fun o => textF (ref o)) r s = .ok (y, r')) :
    r ≤ r' ∧ ∀ d, valueF l auto op (fun o => textF (ref o)) (r + d) s = .ok (y, r' + d) ∨ valueF l auto op (fun o => textF (ref o)) (r + d) s = .error 3 := by
  unfold valueF at h ⊢
  cases h1 : lastF auto s with
  | some v =>
    rw [h1] at h
    dsimp only at h ⊢
    simp only [Except.ok.injEq, Prod.mk.injEq] at h
    obtain ⟨rfl, rfl⟩ := h
    exact ⟨Nat.le_refl _, fun d => Or.inl rfl⟩
  | none =>
    rw [h1] at h
    dsimp only at h ⊢
    cases h2 : lastF l s with
    | none =>
      rw [h2] at h
      dsimp only at h ⊢
      simp only [Except.ok.injEq, Prod.mk.injEq] at h
      obtain ⟨rfl, rfl⟩ := h
      exact ⟨Nat.le_refl _, fun d => Or.inl rfl⟩
    | some v =>
      rw [h2] at h
      dsimp only at h ⊢
      by_cases h3 : op.contains s = true
      · rw [if_pos h3] at h; cases h
      · rw [if_neg h3] at h
        obtain ⟨hr, hd⟩ := shift_text (H _) h
        refine ⟨hr, fun d => ?_⟩
        rw [if_neg h3]
        exact hd d
theorem shift_ref (l auto : List (Bs × Bs)) : ∀ (k : Nat) (op : List Bs), ShiftR (refF l auto k op) := by
  intro k
  induction k with
  | zero => intro op r s y r' h; cases h
  | succ k ih =>
    intro op r s y r' h
    rw [refF_succ] at h
    cases ht : textF (refF l auto k op) r s with
    | error e => rw [ht] at h; cases h
    | ok z =>
      obtain ⟨t, r1⟩ := z
      rw [ht] at h
      obtain ⟨hr, hd⟩ := shift_text (ih op) ht
      have h : partRest l auto k op r1 t (partsF t) = .ok (y, r') := h
      have hrest : r1 ≤ r' ∧ ∀ d, partRest l auto k op (r1 + d) t (partsF t) = .ok (y, r' + d) ∨ partRest l auto k op (r1 + d) t (partsF t) = .error 3 := by
        cases hp : partsF t with
        | none =>
          rw [hp] at h
          exact shift_value (ref := refF l auto k) ih h
        | some q =>
          obtain ⟨nm, f, g⟩ := q
          rw [hp] at h
          have h : swapRest f g (valueF l auto op (fun o => textF (refF l auto k o)) r1 nm) = .ok (y, r') := h
          cases hv : valueF l auto op (fun o => textF (refF l auto k o)) r1 nm with
          | error e => rw [hv] at h; cases h
          | ok x =>
            obtain ⟨v, r2⟩ := x
            rw [hv] at h
            simp only [swapRest, Except.ok.injEq, Prod.mk.injEq] at h
            obtain ⟨rfl, rfl⟩ := h
            obtain ⟨hr3, hd3⟩ := shift_value (ref := refF l auto k) ih hv
            refine ⟨hr3, fun d => ?_⟩
            show swapRest f g (valueF l auto op (fun o => textF (refF l auto k o)) (r1 + d) nm) = _ ∨ swapRest f g (valueF l auto op (fun o => textF (refF l auto k o)) (r1 + d) nm) = _
            rcases hd3 d with h4 | h4
            · exact Or.inl (by rw [h4]; rfl)
            · exact Or.inr (by rw [h4]; rfl)
      refine ⟨by omega, fun d => ?_⟩
      rw [refF_succ]
      rcases hd d with h4 | h4
      · rw [h4]
        exact hrest.2 d
      · rw [h4]
        exact Or.inr rfl

/-- Is the run of signs at the end of an even length? -/
def parF : Bool → Bs → Bool
  | b, [] => b
  | b, c :: t => if c == 36 then parF (!b) t else parF true t
theorem par_sign (b : Bool) (t : Bs) : parF b (36 :: t) = parF (!b) t := rfl
theorem par_byte (b : Bool) {c : UInt8} (h : c ≠ 36) (t : Bs) : parF b (c :: t) = parF true t := by
  show (if c == 36 then parF (!b) t else parF true t) = _
  rw [if_neg (by rw [beq_iff_eq]; exact h)]
theorem par_mid : ∀ (u : Bs) (b : Bool) {c : UInt8} (h : c ≠ 36) (v : Bs), parF b (u ++ c :: v) = parF true v
  | [], b, c, h, v => par_byte b h v
  | x :: u, b, c, h, v => by
    show (if x == 36 then parF (!b) (u ++ c :: v) else parF true (u ++ c :: v)) = _
    split
    · exact par_mid u _ h v
    · exact par_mid u _ h v
theorem closed_split {o c : UInt8} : ∀ {t : Bs} {n k : Nat}, closedF o c n t = some k → ∃ u v, t = u ++ c :: v ∧ u.length = k
  | [], n, k, h => by cases h
  | x :: t, n, k, h => by
    unfold closedF at h
    by_cases h1 : (x == o) = true
    · rw [if_pos h1] at h
      obtain ⟨j, hj, rfl⟩ := Option.map_eq_some_iff.1 h
      obtain ⟨u, v, rfl, rfl⟩ := closed_split hj
      exact ⟨x :: u, v, rfl, rfl⟩
    · rw [if_neg h1] at h
      by_cases h2 : (x == c) = true
      · rw [if_pos h2] at h
        by_cases h3 : n = 0
        · rw [if_pos h3] at h
          obtain rfl := Option.some.inj h
          exact ⟨[], t, by rw [beq_iff_eq] at h2; rw [h2]; rfl, rfl⟩
        · rw [if_neg h3] at h
          obtain ⟨j, hj, rfl⟩ := Option.map_eq_some_iff.1 h
          obtain ⟨u, v, rfl, rfl⟩ := closed_split hj
          exact ⟨x :: u, v, rfl, rfl⟩
      · rw [if_neg h2] at h
        obtain ⟨j, hj, rfl⟩ := Option.map_eq_some_iff.1 h
        obtain ⟨u, v, rfl, rfl⟩ := closed_split hj
        exact ⟨x :: u, v, rfl, rfl⟩
theorem closed_more {o c : UInt8} (b : Bs) : ∀ {t : Bs} {n k : Nat}, closedF o c n t = some k → closedF o c n (t ++ b) = some k
  | [], n, k, h => by cases h
  | x :: t, n, k, h => by
    rw [List.cons_append]
    unfold closedF at h ⊢
    by_cases h1 : (x == o) = true
    · rw [if_pos h1] at h ⊢
      obtain ⟨j, hj, rfl⟩ := Option.map_eq_some_iff.1 h
      rw [closed_more b hj]; rfl
    · rw [if_neg h1] at h ⊢
      by_cases h2 : (x == c) = true
      · rw [if_pos h2] at h ⊢
        by_cases h3 : n = 0
        · rw [if_pos h3] at h ⊢
          exact h
        · rw [if_neg h3] at h ⊢
          obtain ⟨j, hj, rfl⟩ := Option.map_eq_some_iff.1 h
          rw [closed_more b hj]; rfl
      · rw [if_neg h2] at h ⊢
        obtain ⟨j, hj, rfl⟩ := Option.map_eq_some_iff.1 h
        rw [closed_more b hj]; rfl
/-- A whole text ahead. -/
theorem loop_app {ref : Ref} : ∀ (n : Nat) (a : Bs), a.length ≤ n → parF true a = true → ∀ (acc : Bs) (r : Nat) (z : Bs) (r1 : Nat) (b : Bs), loopC ref acc r a = .ok (z, r1) →
    loopC ref acc r (a ++ b) = loopC ref z r1 b := by
  intro n
  induction n with
  | zero =>
    intro a ha hev acc r z r1 b h
    obtain rfl := List.length_eq_zero_iff.1 (Nat.le_zero.1 ha)
    rw [loopC_end _ _ _ (loopC_short h)] at h
    simp only [Except.ok.injEq, Prod.mk.injEq] at h
    obtain ⟨rfl, rfl⟩ := h
    rfl
  | succ n ih =>
    intro a ha hev acc r z r1 b h
    cases a with
    | nil => exact ih [] (Nat.zero_le _) hev acc r z r1 b h
    | cons c t =>
      rw [List.length_cons] at ha
      rw [List.cons_append]
      by_cases h36 : c = 36
      · subst h36
        have hacc := loopC_short h
        rw [loopC_sign _ _ _ hacc] at h ⊢
        cases t with
        | nil => cases hev
        | cons d t =>
          rw [List.length_cons] at ha
          rw [List.cons_append]
          obtain ⟨y, k, r2, ho, hl, h1⟩ := cont_ok h
          by_cases hd : d = 36
          · subst hd
            rw [one_dollar] at ho ⊢
            rw [cont_of]
            simp only [Except.ok.injEq, Prod.mk.injEq] at ho
            obtain ⟨⟨rfl, rfl⟩, rfl⟩ := ho
            exact ih t (by omega) (by rw [par_sign, par_sign] at hev; exact hev) _ _ _ _ b h1
          · rw [par_sign, par_byte _ hd] at hev
            rcases one_cases ref r d t hd with hm | ⟨hm, hk⟩
            · rw [one_much t hd hm] at ho; cases ho
            · rcases hk with ⟨o, e, hop, rfl⟩ | ⟨h40, h123⟩
              · have he : e ≠ 36 := by
                  rcases hop with ⟨-, rfl⟩ | ⟨-, rfl⟩ <;> decide
                rw [one_open _ hop hm] at ho ⊢
                cases hc : closedF d e 0 t with
                | none => rw [hc] at ho; cases ho
                | some j =>
                  rw [hc] at ho
                  rw [closed_more b hc]
                  obtain ⟨u, v, rfl, rfl⟩ := closed_split hc
                  have ho2 : refStep (u.length + 2) (ref (r + 1) ((u ++ e :: v).take u.length)) = .ok ((y, k), r2) := ho
                  obtain ⟨rfl, hq⟩ := step_ok ho2
                  rw [List.take_left] at hq
                  have hd1 : ∀ w : Bs, (d :: (u ++ e :: w)).drop (u.length + 2) = w := fun w => by
                    rw [List.drop_succ_cons, show u.length + 1 = u.length + 1 from rfl, List.append_cons, List.drop_left' (by simp)]
                  show contF ref acc (d :: ((u ++ e :: v) ++ b)) (refStep (u.length + 2) (ref (r + 1) (((u ++ e :: v) ++ b).take u.length))) = _
                  rw [List.append_assoc, List.take_left, hq, step_of, cont_of, List.cons_append, hd1]
                  rw [hd1] at h1
                  rw [par_mid _ _ he] at hev
                  exact ih v (by rw [List.length_append, List.length_cons] at ha; omega) hev _ _ _ _ b h1
              · rw [one_other _ hd h40 h123 hm] at ho ⊢
                obtain ⟨rfl, hq⟩ := step_ok ho
                rw [hq, step_of, cont_of]
                exact ih t (by omega) hev _ _ _ _ b h1
      · rw [loop_byte _ _ _ h36] at h ⊢
        exact ih t (by omega) (by rw [par_byte _ h36] at hev; exact hev) _ _ _ _ b h
theorem expand_ok {l auto : List (Bs × Bs)} {s x : Bs} (hl : s.length ≤ 16384) (h : expandF l auto s = .ok x) : ∃ r, loopC (refF l auto 40 []) [] 0 s = .ok (x, r) := by
  unfold expandF at h
  rw [textF_loop _ _ hl] at h
  cases hx : loopC (refF l auto 40 []) [] 0 s with
  | error e => rw [hx] at h; cases h
  | ok z =>
    obtain ⟨y, r⟩ := z
    rw [hx] at h
    obtain rfl := Except.ok.inj h
    exact ⟨r, rfl⟩
theorem parts_law {l auto : List (Bs × Bs)} {a b x y : Bs} (la : a.length ≤ 300) (lb : b.length ≤ 300) (ha : expandF l auto a = .ok x) (hb : expandF l auto b = .ok y) (hev : parF true a = true) :
    expandF l auto (a ++ b) = .error 3 ∨ expandF l auto (a ++ b) = .ok (x ++ y) := by
  obtain ⟨r1, h1⟩ := expand_ok (by omega) ha
  obtain ⟨r2, h2⟩ := expand_ok (by omega) hb
  have h3 := loop_app _ _ (Nat.le_refl _) hev _ _ _ _ b h1
  obtain ⟨-, y2, -, hp⟩ := shift_loop (shift_ref l auto 40 []) _ _ (Nat.le_refl _) _ _ _ _ h2
  unfold expandF
  rw [textF_loop _ _ (by rw [List.length_append]; omega), h3]
  have := hp x r1
  rw [List.append_nil, Nat.zero_add] at this
  rcases this with h4 | h4
  · exact Or.inr (by rw [h4])
  · exact Or.inl (by rw [h4])
theorem par_run : ∀ (n : Nat) (b : Bool), parF b (List.replicate n 36) = (b != decide (n % 2 = 1))
  | 0, b => by cases b <;> rfl
  | n + 1, b => by
    rw [List.replicate_succ, par_sign, par_run n]
    have : (decide ((n + 1) % 2 = 1)) = !decide (n % 2 = 1) := by
      by_cases h : n % 2 = 1
      · rw [decide_eq_true h, decide_eq_false (by omega)]; rfl
      · rw [decide_eq_false h, decide_eq_true (by omega)]; rfl
    rw [this]
    cases b <;> cases decide (n % 2 = 1) <;> rfl
/-- n signs at the end, and no more. -/
theorem par_tail {s : Bs} {n : Nat} (hn : n ≤ s.length) (hs : ∀ j (h : j < s.length), s.length - n ≤ j → s[j] = 36) (h0 : n < s.length → s.getD (s.length - 1 - n) 0 ≠ 36) (h2 : ¬ n % 2 = 1) : parF true s = true := by
  have hd : s.drop (s.length - n) = List.replicate n 36 := by
    refine List.eq_replicate_iff.2 ⟨by rw [List.length_drop]; omega, fun c hc => ?_⟩
    obtain ⟨j, hj, rfl⟩ := List.getElem_of_mem hc
    rw [List.getElem_drop]
    exact hs _ _ (by omega)
  have hr : parF true (List.replicate n 36) = true := by
    rw [par_run, decide_eq_false h2]; rfl
  by_cases hl : n < s.length
  · have h1 := h0 hl
    have hlt : s.length - 1 - n < s.length := by omega
    rw [List.getD_eq_getElem?_getD, List.getElem?_eq_getElem hlt, Option.getD_some] at h1
    have e : s = s.take (s.length - 1 - n) ++ s[s.length - 1 - n] :: List.replicate n 36 := by
      rw [← hd]
      have : s.length - n = s.length - 1 - n + 1 := by omega
      rw [this, ← List.drop_eq_getElem_cons hlt, List.take_append_drop]
    rw [e, par_mid _ _ h1]
    exact hr
  · have : s.length - n = 0 := by omega
    rw [this, List.drop_zero] at hd
    rw [hd]
    exact hr
end Go.Proofs.Ytglppnpllpfaeaa
