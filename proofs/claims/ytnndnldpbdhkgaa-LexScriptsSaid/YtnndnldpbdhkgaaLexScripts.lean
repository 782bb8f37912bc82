/-
  LexScripts: plain, and the walk.
-/
import Derived.Test.YtnndnldpbdhkgaaLexBD
namespace Go.Proofs.Ytnndnldpbdhkgaa
open Go.RowKit
set_option linter.unusedVariables false

/-- What may stand in a script here. -/
def inS (c : UInt8) : Bool := !(c == 39 || c == 34 || c == 92 || c == 0 || c == 96)
/-- How many parentheses are open behind a text. -/
def bal : Nat → List UInt8 → Option Nat
  | o, [] => some o
  | o, c :: t => if c == 40 then bal (o + 1) t else if c == 41 then (if o = 0 then none else bal (o - 1) t) else bal o t
theorem bal_snoc (c : UInt8) : ∀ (s : List UInt8) (o o' : Nat), bal o s = some o' → bal o (s ++ [c]) = bal o' [c]
  | [], o, o', h => by obtain rfl := Option.some.inj h; rfl
  | x :: s, o, o', h => by
    rw [List.cons_append]
    unfold bal at h ⊢
    split
    · next hx => rw [if_pos hx] at h; exact bal_snoc c s _ _ h
    · next hx =>
      rw [if_neg hx] at h
      split
      · next hy =>
        rw [if_pos hy] at h
        by_cases ho : o = 0
        · rw [if_pos ho] at h; cases h
        · rw [if_neg ho] at h ⊢; exact bal_snoc c s _ _ h
      · next hy => rw [if_neg hy] at h; exact bal_snoc c s _ _ h
theorem bal_sub : ∀ (s : List UInt8) (o : Nat) (r : List UInt8), (∀ c ∈ s, inS c = true) → bal o s = some 0 → subF .n o (s ++ 41 :: r) = some s.length
  | [], o, r, _, h => by
    obtain rfl := Option.some.inj h
    rw [List.nil_append]
    unfold subF
    rfl
  | c :: s, o, r, hi, h => by
    have hc := hi c (List.mem_cons_self ..)
    have hs : ∀ x ∈ s, inS x = true := fun x hx => hi x (List.mem_cons_of_mem _ hx)
    simp only [inS, Bool.not_eq_true', Bool.or_eq_false_iff] at hc
    obtain ⟨⟨⟨⟨h1, h2⟩, h3⟩, _⟩, _⟩ := hc
    rw [List.cons_append]
    unfold bal at h
    unfold subF
    rw [h1, h2, h3, if_neg (by simp), if_neg (by simp), if_neg (by simp)]
    split
    · next hx => rw [if_pos hx] at h; rw [bal_sub s _ r hs h]; rfl
    · next hx =>
      rw [if_neg hx] at h
      split
      · next hy =>
        rw [if_pos hy] at h
        by_cases ho : o = 0
        · rw [if_pos ho] at h; cases h
        · rw [if_neg ho] at h ⊢; rw [bal_sub s _ r hs h]; rfl
      · next hy => rw [if_neg hy] at h; rw [bal_sub s _ r hs h]; rfl
theorem bal_calc : ∀ (s : List UInt8) (o : Nat) (r : List UInt8), bal o s = some 0 → calcF o (s ++ 41 :: 41 :: r) = some s.length
  | [], o, r, h => by
    obtain rfl := Option.some.inj h
    rfl
  | c :: s, o, r, h => by
    rw [List.cons_append]
    unfold bal at h
    unfold calcF
    split
    · next hx => rw [if_pos hx] at h; rw [bal_calc s _ r h]; rfl
    · next hx =>
      rw [if_neg hx] at h
      split
      · next hy =>
        rw [if_pos hy] at h
        by_cases ho : o = 0
        · rw [if_pos ho] at h; cases h
        · rw [if_neg ho] at h ⊢; rw [bal_calc s _ r h]; rfl
      · next hy => rw [if_neg hy] at h; rw [bal_calc s _ r h]; rfl
/-- What stands behind the dollar sign. -/
def scr (kc : Bool) (s r : List UInt8) : List UInt8 := if kc then 40 :: 40 :: (s ++ 41 :: 41 :: r) else 40 :: (s ++ 41 :: r)
def scrK (kc : Bool) : Nat := if kc then 4 else 5
theorem dol_scr (kc : Bool) {s : List UInt8} (hi : ∀ c ∈ s, inS c = true) (hb : bal 0 s = some 0) (hh : kc = true ∨ headIs 40 s = false) (r : List UInt8) (n d : Nat) (q : Bool) :
    lexD (n + 1) (.dol q) d (scr kc s r) = .ok ([.mk (scrK kc) s [] [] [] q], r) := by
  cases kc with
  | true =>
    rw [lexD_dol]
    show (if headIs 123 (40 :: 40 :: (s ++ 41 :: 41 :: r)) = true then _ else if startsF [40, 40] (40 :: 40 :: (s ++ 41 :: 41 :: r)) = true then (match calcF 0 (s ++ 41 :: 41 :: r) with | none => Except.error 2 | some k => Except.ok ([Pt.mk 4 ((s ++ 41 :: 41 :: r).take k) [] [] [] q], (s ++ 41 :: 41 :: r).drop (k + 2))) else _) = _
    rw [if_neg (by simp [headIs]), if_pos (by simp [startsF]), bal_calc s 0 r hb]
    simp [scrK, List.drop_append]
  | false =>
    rw [lexD_dol]
    have hh' : headIs 40 s = false := by rcases hh with h | h; cases h; exact h
    show (if headIs 123 (40 :: (s ++ 41 :: r)) = true then _ else if startsF [40, 40] (40 :: (s ++ 41 :: r)) = true then _ else if headIs 40 (40 :: (s ++ 41 :: r)) = true then (match subF .n 0 (s ++ 41 :: r) with | none => Except.error 2 | some k => Except.ok ([Pt.mk 5 ((s ++ 41 :: r).take k) [] [] [] q], (s ++ 41 :: r).drop (k + 1))) else _) = _
    rw [if_neg (by simp [headIs]), if_neg, if_pos (by simp [headIs]), bal_sub s 0 r hi hb]
    · simp [scrK]
    · cases s with
      | nil => simp [startsF]
      | cons x t =>
        have hx : (x == 40) = false := hh'
        have hx2 : (40 == x) = false := by rw [beq_eq_false_iff_ne] at hx ⊢; exact fun e => hx e.symm
        simp [startsF]
        intro e
        rw [e] at hx2
        simp at hx2
/-- The word, and what stands behind it. -/
def scrW (kc quoted : Bool) (s r : List UInt8) : List UInt8 := if quoted then 34 :: 36 :: scr kc s (34 :: r) else 36 :: scr kc s r
theorem lex_scr (kc quoted : Bool) {s : List UInt8} (hi : ∀ c ∈ s, inS c = true) (hb : bal 0 s = some 0) (hh : kc = true ∨ headIs 40 s = false) (r : List UInt8) :
    ∃ l, lexC (.one false) 0 (scrW kc quoted s r) = .ok (l, r) ∧ tidyF l = [.mk (scrK kc) s [] [] [] quoted] := by
  cases quoted with
  | false =>
    refine ⟨[.mk (scrK kc) s [] [] [] false], ?_, ?_⟩
    · show lexD (2 * (36 :: scr kc s r).length + 1 + 1) (.one false) 0 (36 :: scr kc s r) = _
      rw [lexD_out, if_neg (by decide), if_neg (by decide), if_neg (by decide), if_neg (by decide), if_pos (by decide), dol_scr kc hi hb hh]
    · cases kc <;> rfl
  | true =>
    refine ⟨[quoP [], .mk (scrK kc) s [] [] [] true], ?_, ?_⟩
    · show lexD (2 * (34 :: 36 :: scr kc s (34 :: r)).length + 1 + 1) (.one false) 0 (34 :: 36 :: scr kc s (34 :: r)) = _
      rw [lexD_out, if_neg (by decide), if_pos (by decide)]
      obtain ⟨n, hn⟩ : ∃ n, 2 * (34 :: 36 :: scr kc s (34 :: r)).length + 1 = n + 1 + 1 + 1 := ⟨2 * (scr kc s (34 :: r)).length + 2, by simp only [List.length_cons]; omega⟩
      rw [hn, lexD_dq]
      dsimp only
      rw [if_neg (by decide), lexD_inn, if_neg (by decide), if_neg (by simp), if_neg (by simp), if_pos (by decide), dol_scr kc hi hb hh]
      dsimp only
      rw [lexD_dq]
      rfl
    · cases kc <;> rfl
theorem scrW_head (kc quoted : Bool) (s r : List UInt8) : ∃ c t, scrW kc quoted s r = c :: t ∧ (c = 34 ∨ c = 36) := by
  cases quoted
  · exact ⟨36, _, rfl, .inr rfl⟩
  · exact ⟨34, _, rfl, .inl rfl⟩
theorem word_scr (kc quoted : Bool) {s : List UInt8} (hi : ∀ c ∈ s, inS c = true) (hb : bal 0 s = some 0) (hh : kc = true ∨ headIs 40 s = false) :
    ∃ l, wordC true (scrW kc quoted s []) = .ok (l, []) ∧ tidyF l = [.mk (scrK kc) s [] [] [] quoted] := by
  obtain ⟨l, hl, ht⟩ := lex_scr kc quoted hi hb hh []
  obtain ⟨c, t, e, _⟩ := scrW_head kc quoted s []
  rw [e] at hl ⊢
  refine ⟨l, ?_, ht⟩
  rw [wordC_cons, if_neg (by simp), hl]
  dsimp only
  rw [wordC_nil]
  show Except.ok (_ ++ [], _) = _
  rw [List.append_nil]
theorem toks_scr (kc quoted : Bool) {s : List UInt8} (hi : ∀ c ∈ s, inS c = true) (hb : bal 0 s = some 0) (hh : kc = true ∨ headIs 40 s = false) :
    tokC (scrW kc quoted s [59]) = .ok [⟨1, [], [.mk (scrK kc) s [] [] [] quoted]⟩, ⟨2, [59], []⟩] := by
  obtain ⟨l, hl, ht⟩ := lex_scr kc quoted hi hb hh [59]
  obtain ⟨c, t, e, hc⟩ := scrW_head kc quoted s [59]
  rw [e] at hl ⊢
  have h5 : breaksB c = false ∧ opHead c = false ∧ (c == 32 || c == 9) = false ∧ (c == 35) = false ∧ (c == 92) = false ∧ (c == 38) = false := by rcases hc with rfl | rfl <;> decide
  obtain ⟨h1, h2, h3, h4, h5, h6⟩ := h5
  rw [tokC_eq, skip_stay h3 h4 h5]
  dsimp only
  rw [tokOne_word (operF_nil h2 _) h6, wordC_cons, h1, if_neg (by simp), hl]
  dsimp only
  have e2 : wordC false [59] = .ok ([], [59]) := by rw [wordC_cons]; rfl
  have e3 : tokC [59] = .ok [⟨2, [59], []⟩] := by kernel_rfl
  rw [e2]
  show consT ⟨1, [], tidyF (l ++ [])⟩ (tokC [59]) = _
  rw [List.append_nil, ht, e3]
  rfl
theorem scrW_all (P : UInt8 → Bool) (h1 : P 34 = true) (h2 : P 36 = true) (h3 : P 40 = true) (h4 : P 41 = true) (kc quoted : Bool) (s r : List UInt8) : (scrW kc quoted s r).all P = (s.all P && r.all P) := by
  cases quoted <;> cases kc <;> simp only [scrW, scr, if_true, if_false, Bool.false_eq_true, List.all_cons, List.all_append, h1, h2, h3, h4, Bool.true_and]
theorem scrW_len (kc quoted : Bool) (s r : List UInt8) : (scrW kc quoted s r).length ≤ s.length + r.length + 7 := by
  cases quoted <;> cases kc <;> simp [scrW, scr] <;> omega
theorem inS_zero {c : UInt8} (h : inS c = true) : (c == 0) = false := by
  simp only [inS, Bool.not_eq_true', Bool.or_eq_false_iff] at h
  exact h.1.2
theorem scrW_may {kc quoted : Bool} {s r : List UInt8} (hi : ∀ c ∈ s, inS c = true) (hl : s.length ≤ 200) (hr : r.length ≤ 1) (hz : ∀ c ∈ r, (c == 0) = false) : mayF (scrW kc quoted s r) = 0 := by
  refine may_low (by have := scrW_len kc quoted s r; omega) (fun x hx => ?_)
  have h := scrW_all (fun c => !(c == 0)) rfl rfl rfl rfl kc quoted s r
  have e1 : s.all (fun c => !(c == 0)) = true := List.all_eq_true.2 fun x hx => by rw [inS_zero (hi x hx)]; rfl
  have e2 : r.all (fun c => !(c == 0)) = true := List.all_eq_true.2 fun x hx => by rw [hz x hx]; rfl
  rw [e1, e2] at h
  have := List.all_eq_true.1 h x hx
  simpa using this
theorem scrW_app (kc quoted : Bool) (s r : List UInt8) : scrW kc quoted s [] ++ r = scrW kc quoted s r := by
  cases quoted <;> cases kc <;> simp [scrW, scr]
end Go.Proofs.Ytnndnldpbdhkgaa
