/-
  Plain: MacroSwaps.
-/
import Derived.Test.YtglppnpllpfaeaaMacPB
import Derived.Test.YtglppnpllpfaeaaMacK
namespace Go.Proofs.Ytglppnpllpfaeaa
set_option linter.unusedVariables false

/-- A letter, or a dot. -/
def swC (c : UInt8) : Bool := (97 ≤ c.toNat && c.toNat ≤ 122) || c.toNat == 46
def okW (x : Bs) : Prop := x ≠ [] ∧ x.length ≤ 40 ∧ ∀ c ∈ x, swC c = true
theorem swC_signs {c : UInt8} (h : swC c = true) : c ≠ 36 ∧ c ≠ 40 ∧ c ≠ 41 ∧ c ≠ 58 ∧ c ≠ 61 ∧ c ≠ 37 ∧ blankB c = false := by
  refine ⟨?_, ?_, ?_, ?_, ?_, ?_, ?_⟩
  · rintro rfl; revert h; decide
  · rintro rfl; revert h; decide
  · rintro rfl; revert h; decide
  · rintro rfl; revert h; decide
  · rintro rfl; revert h; decide
  · rintro rfl; revert h; decide
  · cases hb : blankB c with
    | false => rfl
    | true =>
      unfold blankB at hb
      simp only [Bool.or_eq_true, beq_iff_eq] at hb
      rcases hb with (rfl | rfl) | rfl <;> (revert h; decide)
theorem words_join : ∀ (L : List Bs), (∀ x ∈ L, okW x) → wordsG [] (joinF L ++ [32]) = L
  | [], _ => by rfl
  | [x], h => by
    obtain ⟨h1, _, h3⟩ := h x (List.mem_cons_self ..)
    show wordsG [] (x ++ [32]) = _
    rw [wordsG_run x [] [32] fun c hc => (swC_signs (h3 c hc)).2.2.2.2.2.2, List.nil_append, wordsG_blank _ _ _ (by rfl), if_neg h1, wordsG_nil, if_pos rfl]
  | x :: y :: l, h => by
    obtain ⟨h1, _, h3⟩ := h x (List.mem_cons_self ..)
    have ih := words_join (y :: l) fun z hz => h z (List.mem_cons_of_mem _ hz)
    show wordsG [] (x ++ 32 :: joinF (y :: l) ++ [32]) = _
    rw [List.append_assoc, List.cons_append, wordsG_run x [] _ fun c hc => (swC_signs (h3 c hc)).2.2.2.2.2.2, List.nil_append, wordsG_blank _ _ _ (by rfl), if_neg h1, ih]
theorem words_value (L : List Bs) (h : ∀ x ∈ L, okW x) : wordsF ([32] ++ joinF L ++ [32]) = L := by
  unfold wordsF
  rw [List.append_assoc, List.singleton_append, wordsG_blank _ _ _ (by rfl), if_pos rfl]
  exact words_join L h
theorem joinF_snoc (l : List Bs) (x : Bs) : joinF (l ++ [x]) = if l = [] then x else joinF l ++ [32] ++ x := by
  induction l with
  | nil => rfl
  | cons y l ih =>
    rw [if_neg (by simp)]
    cases l with
    | nil => simp [joinF]
    | cons z l =>
      rw [if_neg (by simp)] at ih
      show y ++ 32 :: joinF ((z :: l) ++ [x]) = (y ++ 32 :: joinF (z :: l)) ++ [32] ++ x
      rw [ih]
      simp
theorem join_free : ∀ (L : List Bs), (∀ x ∈ L, okW x) → FreeD (joinF L)
  | [], _ => fun c hc => by cases hc
  | [x], h => fun c hc => (swC_signs ((h x (List.mem_cons_self ..)).2.2 c hc)).1
  | x :: y :: l, h => fun c hc => by
    have hc2 : c ∈ x ++ 32 :: joinF (y :: l) := hc
    rcases List.mem_append.1 hc2 with h1 | h1
    · exact (swC_signs ((h x (List.mem_cons_self ..)).2.2 c h1)).1
    · rcases List.mem_cons.1 h1 with rfl | h1
      · decide
      · exact join_free (y :: l) (fun z hz => h z (List.mem_cons_of_mem _ hz)) c h1
theorem pct_none {s : Bs} (h : ∀ c ∈ s, c ≠ 37) : pct s = -1 := by
  unfold pct
  rw [until_index, until_none h]
theorem pct_head (s : Bs) : pct (37 :: s) = 0 := by
  unfold pct
  rw [until_index]
  unfold untilF
  rw [if_pos (by rfl)]
  rfl
/-- What MacroSwaps wants of a word. -/
def wantW (p : Bool) (f t s : Bs) : Bs := if p && s == f then s else swapOne f t s
def pre (p : Bool) (s : Bs) : Bs := if p then 37 :: s else s
theorem swapW_want (p : Bool) (f t s : Bs) (hf : ∀ c ∈ f, swC c = true) : swapW (pre p f) (pre p t) s = wantW p f t s := by
  cases p with
  | false =>
    show swapW f t s = swapOne f t s
    unfold swapW
    rw [pct_none fun c hc => (swC_signs (hf c hc)).2.2.2.2.2.1, if_neg (by decide)]
  | true =>
    show swapW (37 :: f) (37 :: t) s = if (true && s == f) = true then s else swapOne f t s
    have hfill : ∀ y, fillF (37 :: t) y = y ++ t := fun y => by
      unfold fillF
      rw [pct_head, if_neg (by decide)]
      simp
    have hstem : stemF (37 :: f) s = if s.length < f.length + 1 then ([], false) else if Lib.hasSuffix s f = false then ([], false) else (s.take (s.length - f.length), true) := by
      unfold stemF
      rw [pct_head, if_neg (by decide)]
      simp only [List.length_cons, Int.toNat_zero, List.take_zero, Nat.zero_add, List.drop_succ_cons, List.drop_zero, Nat.sub_zero, Nat.add_sub_cancel]
      rw [show Lib.hasPrefix s [] = true from rfl]
      simp
    unfold swapW
    rw [pct_head, if_pos (by decide), hstem, Bool.true_and]
    by_cases hl : s.length < f.length + 1
    · rw [if_pos hl]
      dsimp only
      rw [if_neg (by simp)]
      by_cases he : s = f
      · rw [if_pos (by rw [he]; exact beq_self_eq_true _)]
      · rw [if_neg (by rw [beq_iff_eq]; exact he)]
        unfold swapOne
        rw [if_neg]
        intro hs
        have := List.isSuffixOf_iff_suffix.1 hs
        obtain ⟨q, hq⟩ := this
        have : q.length + f.length = s.length := by rw [← hq, List.length_append]
        obtain rfl : q = [] := List.eq_nil_of_length_eq_zero (by omega)
        exact he hq.symm
    · rw [if_neg hl, if_neg (show ¬ (s == f) = true by rw [beq_iff_eq]; rintro rfl; omega)]
      unfold swapOne
      cases hs : Lib.hasSuffix s f with
      | false => simp
      | true => simp [hfill]
/-- MacroSwaps' text. -/
theorem swaps_text {L : List Bs} {f t : Bs} (p : Bool) (hL : ∀ x ∈ L, okW x) (hf : okW f) (ht : okW t) (hn : L.length ≤ 20) :
    expandF [([120], [32] ++ joinF L ++ [32])] [] ([36, 40, 120, 58] ++ pre p f ++ [61] ++ pre p t ++ [41]) = .ok (joinF (L.map (wantW p f t))) := by
  have hjl : (joinF L).length ≤ 20 * 41 := Nat.le_trans (joinF_len 40 L fun x hx => (hL x hx).2.1) (Nat.mul_le_mul_right _ hn)
  have hpl : ∀ x : Bs, okW x → (pre p x).length ≤ 41 := fun x hx => by
    have := hx.2.1
    cases p <;> (unfold pre; simp; omega)
  have hpc : ∀ x : Bs, okW x → ∀ c ∈ pre p x, c ≠ 36 ∧ c ≠ 40 ∧ c ≠ 41 ∧ c ≠ 58 ∧ c ≠ 61 := fun x hx c hc => by
    have key : c ∈ x ∨ c = 37 := by
      cases p with
      | false => exact .inl hc
      | true =>
        rcases List.mem_cons.1 hc with h | h
        · exact .inr h
        · exact .inl h
    rcases key with h | rfl
    · have := swC_signs (hx.2.2 c h)
      exact ⟨this.1, this.2.1, this.2.2.1, this.2.2.2.1, this.2.2.2.2.1⟩
    · decide
  have lf := hpl f hf
  have lt := hpl t ht
  have cf := hpc f hf
  have ct := hpc t ht
  obtain ⟨a, ha⟩ : ∃ a, a = pre p f := ⟨_, rfl⟩
  obtain ⟨b, hb⟩ : ∃ b, b = pre p t := ⟨_, rfl⟩
  rw [← ha] at lf cf ⊢
  rw [← hb] at lt ct ⊢
  rw [expandF_out, textF_loop _ _ (by simp; omega)]
  obtain ⟨s, hs⟩ : ∃ s : Bs, s = 120 :: 58 :: (a ++ 61 :: b) := ⟨_, rfl⟩
  have hsc : ∀ c ∈ s, c ≠ 36 ∧ c ≠ 40 ∧ c ≠ 41 := fun c hc => by
    rw [hs] at hc
    rcases List.mem_cons.1 hc with rfl | hc
    · decide
    rcases List.mem_cons.1 hc with rfl | hc
    · decide
    rcases List.mem_append.1 hc with hc | hc
    · exact ⟨(cf c hc).1, (cf c hc).2.1, (cf c hc).2.2.1⟩
    rcases List.mem_cons.1 hc with rfl | hc
    · decide
    · exact ⟨(ct c hc).1, (ct c hc).2.1, (ct c hc).2.2.1⟩
  have hsl : s.length ≤ 100 := by rw [hs]; simp; omega
  have e : ([36, 40, 120, 58] ++ a ++ [61] ++ b ++ [41] : Bs) = [] ++ 36 :: (40 :: (s ++ 41 :: [])) := by rw [hs]; simp
  have hlast : lastF [(([120] : Bs), [32] ++ joinF L ++ [32])] [120] = some ([32] ++ joinF L ++ [32]) := by rfl
  have hr : refF [([120], [32] ++ joinF L ++ [32])] [] 40 [] 1 s = .ok (joinF (L.map (wantW p f t)), 1) := by
    rw [refF_succ, textF_free _ _ (fun c hc => (hsc c hc).1) (by omega)]
    have hp : partsF s = some ([120], a, b) := by
      unfold partsF
      have h1 : cutF 58 s = ([120], a ++ 61 :: b, true) := by
        rw [hs]
        exact cut_at (s := [120]) _ (fun x hx => by obtain rfl := List.mem_singleton.1 hx; decide)
      rw [h1]
      dsimp only
      rw [cut_at _ fun x hx => (cf x hx).2.2.2.2]
      rfl
    show partRest _ _ 39 [] 1 s (partsF s) = _
    rw [hp]
    show swapRest a b (valueF _ _ [] (fun o => textF (refF _ _ 39 o)) 1 [120]) = _
    rw [value_free rfl hlast (by simp) (fun c hc => by
      rcases List.mem_append.1 hc with hc | hc
      · rcases List.mem_append.1 hc with hc | hc
        · obtain rfl := List.mem_singleton.1 hc; decide
        · exact join_free L hL c hc
      · obtain rfl := List.mem_singleton.1 hc; decide) (by simp; omega)]
    show Except.ok (swappedF _ a b, 1) = _
    unfold swappedF
    rw [words_value L hL, ha, hb, List.map_congr_left fun x _ => swapW_want p f t x hf.2.2]
  have hwl : (joinF (L.map (wantW p f t))).length ≤ 20 * 81 := by
    refine Nat.le_trans (joinF_len 80 _ fun x hx => ?_) (Nat.mul_le_mul_right _ (by rw [List.length_map]; exact hn))
    obtain ⟨y, hy, rfl⟩ := List.mem_map.1 hx
    have h1 := (hL y hy).2.1
    have h2 := ht.2.1
    unfold wantW swapOne
    split
    · omega
    · split
      · simp; omega
      · omega
  rw [e, loopC_one _ _ _ (fun c hc => by cases hc) (by rw [one_par _ (fun x hx => (hsc x hx).2) (by omega), hr]) (by simp; omega), drop_close, loopC_free _ _ _ (fun c hc => by cases hc) (by simp; omega)]
  show Except.ok _ = Except.ok _
  simp
end Go.Proofs.Ytglppnpllpfaeaa
