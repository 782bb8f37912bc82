/-
  Plain: chains of macros, m0, m1 ..
-/
import Derived.Test.YtglppnpllpfaeaaMacQ
namespace Go.Proofs.Ytglppnpllpfaeaa
set_option linter.unusedVariables false

theorem nm_par (i : Nat) (h : i ≤ 99) : ∀ x ∈ nm i, x ≠ 40 ∧ x ≠ 41 := fun x hx => ⟨(name_signs (nm_name i h x hx)).2.1, (name_signs (nm_name i h x hx)).2.2.1⟩
theorem nm_brace (i : Nat) (h : i ≤ 99) : ∀ x ∈ nm i, x ≠ 123 ∧ x ≠ 125 := fun x hx => ⟨(name_signs (nm_name i h x hx)).2.2.2.1, (name_signs (nm_name i h x hx)).2.2.2.2.1⟩
/-- The pairs m0 .. of a function. -/
def chainL (f : Nat → Bs) (n : Nat) : List (Bs × Bs) := (List.range n).map fun i => (nm i, f i)
theorem chainL_succ (f : Nat → Bs) (n : Nat) : chainL f (n + 1) = chainL f n ++ [(nm n, f n)] := by
  unfold chainL
  rw [List.range_succ, List.map_append]
  rfl
theorem chainL_len (f : Nat → Bs) (n : Nat) : (chainL f n).length = n := by unfold chainL; simp
theorem chainL_at (f : Nat → Bs) (n j : Nat) (h : j < (chainL f n).length) : (chainL f n)[j] = (nm j, f j) := by simp [chainL]
theorem chainL_last (f : Nat → Bs) {n i : Nat} (hn : n ≤ 32) (hi : i < n) : lastF (chainL f n) (nm i) = some (f i) := by
  have hl := chainL_len f n
  have h := lastF_some (l := chainL f n) (name := nm i) (i := i) (by omega) (by rw [chainL_at]) (fun j hj hij e => by
    rw [hl] at hj
    rw [chainL_at] at e
    have := nm_inj (by omega) (by omega) e
    omega)
  rw [h, chainL_at]
/-- A reference to a macro of a chain. -/
theorem chain_ref (f : Nat → Bs) {n i : Nat} (hn : n ≤ 32) (hi : i < n) (k : Nat) (op : List Bs) (refs : Nat) :
    refF (chainL f n) [] (k + 1) op refs (nm i) = if op.contains (nm i) then .error 18 else textF (refF (chainL f n) [] k (op ++ [nm i])) refs (f i) := by
  rw [ref_name (nm_name i (by omega)) (by have := nm_len i; omega)]
  unfold valueF
  rw [show lastF ([] : List (Bs × Bs)) (nm i) = none from rfl, chainL_last f hn hi]
/-- MacroCycles' values. -/
def cyV (n back i : Nat) : Bs := 120 :: (if i + 1 = n then (if back < n then [36, 123] ++ nm back ++ [125] else [101, 110, 100]) else [36, 40] ++ nm (i + 1) ++ [41])
theorem cy_mid {ref : Ref} {refs n back i : Nat} (hi : i + 1 ≠ n) (h99 : i + 1 ≤ 99) (hr : refs < 10000) : textF ref refs (cyV n back i) = match ref (refs + 1) (nm (i + 1)) with | .error e => .error e | .ok (y, q) => if 16384 < 1 + y.length then .error 3 else .ok (120 :: y, q) := by
  have hl := nm_len (i + 1)
  have e : cyV n back i = [120] ++ 36 :: (40 :: (nm (i + 1) ++ 41 :: [])) := by unfold cyV; rw [if_neg hi]; simp
  rw [textF_loop _ _ (by rw [e]; simp; omega), e, loopC_eq, cut_at _ (fun c hc => by obtain rfl := List.mem_singleton.1 hc; decide)]
  dsimp only
  rw [if_neg (by simp), if_pos rfl, one_par _ (nm_par _ h99) hr]
  cases ref (refs + 1) (nm (i + 1)) with
  | error e => rfl
  | ok z =>
    obtain ⟨y, q⟩ := z
    dsimp only
    rw [drop_close, loopC_eq]
    by_cases hy : 16384 < 1 + y.length
    · rw [if_pos (by simp; omega), if_pos hy]
    · rw [if_neg (by simp; omega), if_neg hy]
      rw [show cutF 36 ([] : Bs) = ([], [], false) from rfl]
      dsimp only
      rw [if_neg (by simp; omega), if_neg (by simp)]
      simp
theorem cy_end {n i : Nat} (f : Nat → Bs) (hf : f = cyV n n) (hn : n ≤ 31) : ∀ (d : Nat) (i k : Nat) (op : List Bs) (refs : Nat), i + d + 1 = n → d + 1 ≤ k → (∀ j, i ≤ j → j < n → nm j ∉ op) → refs + d ≤ 9000 →
    refF (chainL f n) [] k op refs (nm i) = .ok (List.replicate (d + 1) 120 ++ [101, 110, 100], refs + d) := by
  intro d
  induction d with
  | zero =>
    intro i k op refs hi hk hop hr
    obtain ⟨k, rfl⟩ : ∃ k', k = k' + 1 := ⟨k - 1, by omega⟩
    rw [chain_ref f (by omega) (by omega), if_neg (by simpa using hop i (Nat.le_refl _) (by omega))]
    have e : f i = [120, 101, 110, 100] := by rw [hf]; unfold cyV; rw [if_pos (by omega), if_neg (by omega)]
    rw [e, textF_free _ _ (by unfold FreeD; decide) (by decide)]
    rfl
  | succ d ih =>
    intro i k op refs hi hk hop hr
    obtain ⟨k, rfl⟩ : ∃ k', k = k' + 1 := ⟨k - 1, by omega⟩
    rw [chain_ref f (by omega) (by omega), if_neg (by simpa using hop i (Nat.le_refl _) (by omega))]
    rw [show f i = cyV n n i by rw [hf], cy_mid (by omega) (by omega) (by omega)]
    rw [ih (i + 1) k (op ++ [nm i]) (refs + 1) (by omega) (by omega) (fun j h1 h2 hm => by
      rcases List.mem_append.1 hm with hm | hm
      · exact hop j (by omega) h2 hm
      · have := nm_inj (by omega) (by omega) (List.mem_singleton.1 hm)
        omega) (by omega)]
    dsimp only
    rw [if_neg (by simp; omega)]
    rw [show refs + 1 + d = refs + (d + 1) by omega]
    rfl
theorem cy_back {n back : Nat} (f : Nat → Bs) (hf : f = cyV n back) (hn : n ≤ 31) (hb : back < n) : ∀ (d : Nat) (i k : Nat) (op : List Bs) (refs : Nat), i + d + 1 = n → d + 2 ≤ k → (∀ j, i ≤ j → j < n → nm j ∉ op) → (∀ j, j < i → nm j ∈ op) → refs + d ≤ 9000 →
    refF (chainL f n) [] k op refs (nm i) = .error 18 := by
  intro d
  induction d with
  | zero =>
    intro i k op refs hi hk hop hop2 hr
    obtain ⟨k, rfl⟩ : ∃ k', k = k' + 1 + 1 := ⟨k - 2, by omega⟩
    rw [chain_ref f (by omega) (by omega), if_neg (by simpa using hop i (Nat.le_refl _) (by omega))]
    have hl := nm_len back
    have e : f i = [120] ++ 36 :: (123 :: (nm back ++ 125 :: [])) := by rw [hf]; unfold cyV; rw [if_pos (by omega), if_pos hb]; simp
    rw [e, textF_loop _ _ (by simp; omega), loopC_one_err _ _ _ (fun c hc => by obtain rfl := List.mem_singleton.1 hc; decide) (by
      rw [one_brace _ (nm_brace back (by omega)) (by omega), chain_ref f (by omega) hb, if_pos (by
        rw [List.contains_iff_mem, List.mem_append]
        rcases Nat.lt_or_ge back i with h | h
        · exact .inl (hop2 back h)
        · obtain rfl : back = i := by omega
          exact .inr (List.mem_singleton.2 rfl))]) (by simp)]
  | succ d ih =>
    intro i k op refs hi hk hop hop2 hr
    obtain ⟨k, rfl⟩ : ∃ k', k = k' + 1 := ⟨k - 1, by omega⟩
    rw [chain_ref f (by omega) (by omega), if_neg (by simpa using hop i (Nat.le_refl _) (by omega))]
    rw [show f i = cyV n back i by rw [hf], cy_mid (by omega) (by omega) (by omega)]
    rw [ih (i + 1) k (op ++ [nm i]) (refs + 1) (by omega) (by omega) (fun j h1 h2 hm => by
      rcases List.mem_append.1 hm with hm | hm
      · exact hop j (by omega) h2 hm
      · have := nm_inj (by omega) (by omega) (List.mem_singleton.1 hm)
        omega) (fun j hj => by
      rw [List.mem_append]
      rcases Nat.lt_or_ge j i with h | h
      · exact .inl (hop2 j h)
      · obtain rfl : j = i := by omega
        exact .inr (List.mem_singleton.2 rfl)) (by omega)]
/-- MacroCycles. -/
theorem cycles_end {n : Nat} (hn : n ≤ 30) (h1 : 1 ≤ n) : expandF (chainL (cyV n n) n) [] [36, 40, 109, 48, 41] = .ok (List.replicate n 120 ++ [101, 110, 100]) := by
  rw [expandF_out, textF_loop _ _ (by decide)]
  have e : ([36, 40, 109, 48, 41] : Bs) = [] ++ 36 :: (40 :: (nm 0 ++ 41 :: [])) := by decide
  have h := cy_end (i := 0) (cyV n n) rfl (by omega) (n - 1) 0 40 [] 1 (by omega) (by omega) (fun j _ _ h => by cases h) (by omega)
  rw [show n - 1 + 1 = n by omega] at h
  rw [e, loopC_one _ _ _ (fun c hc => by cases hc) (by rw [one_par _ (nm_par 0 (by omega)) (by omega), h]) (by simp; omega), drop_close]
  rw [loopC_free _ _ _ (fun c hc => by cases hc) (by simp; omega)]
  show Except.ok _ = Except.ok _
  simp
theorem cycles_back {n back : Nat} (hn : n ≤ 30) (hb : back < n) : expandF (chainL (cyV n back) n) [] [36, 40, 109, 48, 41] = .error 18 := by
  rw [expandF_out, textF_loop _ _ (by decide)]
  have e : ([36, 40, 109, 48, 41] : Bs) = [] ++ 36 :: (40 :: (nm 0 ++ 41 :: [])) := by decide
  have h := cy_back (cyV n back) rfl (by omega) hb (n - 1) 0 40 [] 1 (by omega) (by omega) (fun j _ _ h => by cases h) (fun j hj => by omega) (by omega)
  rw [e, loopC_one_err _ _ _ (fun c hc => by cases hc) (by rw [one_par _ (nm_par 0 (by omega)) (by omega), h]) (by simp)]
  rfl
/-- MacroMany's values. -/
def maV (i : Nat) : Bs := if i = 0 then [] else ([36, 40] ++ nm (i - 1) ++ [41]) ++ ([36, 40] ++ nm (i - 1) ++ [41])
def cnt : Nat → Nat
  | 0 => 1
  | i + 1 => 2 * cnt i + 1
theorem cnt_succ (i : Nat) : cnt (i + 1) = 2 * cnt i + 1 := rfl
theorem many_one {n : Nat} (hn : n ≤ 31) : ∀ (i : Nat), i < n → ∀ (k : Nat) (op : List Bs) (refs : Nat) (r : Bs), i + 1 ≤ k → (∀ j, j ≤ i → nm j ∉ op) → refs ≤ 10000 →
    oneF (refF (chainL maV n) [] k op) refs (40 :: (nm i ++ 41 :: r)) = if refs + cnt i ≤ 10000 then .ok (([], (nm i).length + 2), refs + cnt i) else .error 3 := by
  intro i
  induction i with
  | zero =>
    intro hi k op refs r hk hop hr
    obtain ⟨k, rfl⟩ : ∃ k', k = k' + 1 := ⟨k - 1, by omega⟩
    by_cases h : refs < 10000
    · rw [one_par _ (nm_par 0 (by omega)) h, chain_ref maV (by omega) hi, if_neg (by simpa using hop 0 (Nat.le_refl _))]
      rw [show maV 0 = [] from rfl, textF_free _ _ (fun c hc => by cases hc) (by decide)]
      rw [if_pos (show refs + cnt 0 ≤ 10000 from h)]
      rfl
    · rw [if_neg (show ¬ refs + cnt 0 ≤ 10000 by unfold cnt; omega)]
      unfold oneF
      dsimp only
      rw [if_neg (by decide), if_pos (by omega)]
  | succ i ih =>
    intro hi k op refs r hk hop hr
    obtain ⟨k, rfl⟩ : ∃ k', k = k' + 1 := ⟨k - 1, by omega⟩
    have hc1 : 1 ≤ cnt i := by cases i <;> (unfold cnt; omega)
    have hl := nm_len i
    by_cases h : refs < 10000
    · rw [one_par _ (nm_par (i + 1) (by omega)) h, chain_ref maV (by omega) hi, if_neg (by simpa using hop (i + 1) (Nat.le_refl _))]
      have e : maV (i + 1) = [] ++ 36 :: (40 :: (nm i ++ 41 :: ([] ++ 36 :: (40 :: (nm i ++ 41 :: []))))) := by unfold maV; rw [if_neg (by omega), Nat.add_sub_cancel]; simp
      rw [e, textF_loop _ _ (by simp; omega)]
      have hop2 : ∀ j, j ≤ i → nm j ∉ op ++ [nm (i + 1)] := fun j hj hm => by
        rcases List.mem_append.1 hm with hm | hm
        · exact hop j (by omega) hm
        · have := nm_inj (by omega) (by omega) (List.mem_singleton.1 hm)
          omega
      have i1 := ih (by omega) k (op ++ [nm (i + 1)]) (refs + 1) ([] ++ 36 :: (40 :: (nm i ++ 41 :: []))) (by omega) hop2 (by omega)
      by_cases h2 : refs + 1 + cnt i ≤ 10000
      · rw [if_pos h2] at i1
        rw [loopC_one _ _ _ (fun c hc => by cases hc) i1 (by simp), drop_close]
        have i2 := ih (by omega) k (op ++ [nm (i + 1)]) (refs + 1 + cnt i) [] (by omega) hop2 h2
        by_cases h3 : refs + 1 + cnt i + cnt i ≤ 10000
        · rw [if_pos h3] at i2
          rw [loopC_one _ _ _ (fun c hc => by cases hc) i2 (by simp), drop_close, loopC_free _ _ _ (fun c hc => by cases hc) (by simp)]
          rw [if_pos (show refs + cnt (i + 1) ≤ 10000 by rw [cnt_succ]; omega)]
          dsimp only
          rw [show refs + 1 + cnt i + cnt i = refs + cnt (i + 1) by rw [cnt_succ]; omega]
          rfl
        · rw [if_neg h3] at i2
          rw [loopC_one_err _ _ _ (fun c hc => by cases hc) i2 (by simp)]
          rw [if_neg (show ¬ refs + cnt (i + 1) ≤ 10000 by rw [cnt_succ]; omega)]
      · rw [if_neg h2] at i1
        rw [loopC_one_err _ _ _ (fun c hc => by cases hc) i1 (by simp)]
        rw [if_neg (show ¬ refs + cnt (i + 1) ≤ 10000 by rw [cnt_succ]; omega)]
    · rw [if_neg (show ¬ refs + cnt (i + 1) ≤ 10000 by rw [cnt_succ]; omega)]
      unfold oneF
      dsimp only
      rw [if_neg (by decide), if_pos (by omega)]
theorem many_text {n : Nat} (hn : n ≤ 13) : expandF (chainL maV (n + 1)) [] ([36, 40] ++ nm n ++ [41]) = if cnt n ≤ 10000 then .ok [] else .error 3 := by
  have hl := nm_len n
  rw [expandF_out, textF_loop _ _ (by simp; omega)]
  have e : ([36, 40] ++ nm n ++ [41] : Bs) = [] ++ 36 :: (40 :: (nm n ++ 41 :: [])) := by simp
  have h := many_one (n := n + 1) (by omega) n (by omega) 40 [] 0 [] (by omega) (fun j _ h => by cases h) (by omega)
  rw [Nat.zero_add] at h
  by_cases hc : cnt n ≤ 10000
  · rw [if_pos hc] at h ⊢
    rw [e, loopC_one _ _ _ (fun c hc => by cases hc) h (by simp), drop_close, loopC_free _ _ _ (fun c hc => by cases hc) (by simp)]
    rfl
  · rw [if_neg hc] at h ⊢
    rw [e, loopC_one_err _ _ _ (fun c hc => by cases hc) h (by simp)]
    rfl
end Go.Proofs.Ytglppnpllpfaeaa
