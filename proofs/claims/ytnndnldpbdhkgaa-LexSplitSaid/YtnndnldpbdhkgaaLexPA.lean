/-
  Plain: what is read does not hang on spare fuel.
-/
import Derived.Test.YtnndnldpbdhkgaaLexAI
namespace Go.Proofs.Ytnndnldpbdhkgaa
set_option linter.unusedVariables false

/-- How much fuel is enough. -/
def Md.need (md : Md) (r : List UInt8) : Nat := match md with
  | .one _ => max 1 (2 * r.length)
  | _ => 2 * r.length + 1
theorem headIs_cons {c : UInt8} {r : List UInt8} (h : headIs c r = true) : ∃ t, r = c :: t := by
  cases r with
  | nil => cases h
  | cons x t => exact ⟨t, by rw [beq_iff_eq.1 h]⟩

theorem lexD_fuel : ∀ (n m : Nat) (md : Md) (d : Nat) (r : List UInt8), md.need r ≤ n → md.need r ≤ m → lexD n md d r = lexD m md d r := by
  intro n
  induction n with
  | zero => intro m md d r hn; cases md <;> simp [Md.need] at hn <;> omega
  | succ n ih =>
    intro m md d r hn hm
    cases m with
    | zero => cases md <;> simp [Md.need] at hm <;> omega
    | succ m =>
      cases md with
      | one q =>
        cases r with
        | nil => cases q <;> rfl
        | cons c t =>
          simp only [Md.need, List.length_cons] at hn hm
          have e1 : ∀ d, lexD n .dq d t = lexD m .dq d t := fun d => ih m .dq d t (by simp only [Md.need]; omega) (by simp only [Md.need]; omega)
          have e2 : ∀ q d, lexD n (.dol q) d t = lexD m (.dol q) d t := fun q d => ih m (.dol q) d t (by simp only [Md.need]; omega) (by simp only [Md.need]; omega)
          cases q with
          | false => rw [lexD_out, lexD_out, e1, e2]
          | true => rw [lexD_inn, lexD_inn, e2]
      | dq =>
        rw [lexD_dq, lexD_dq]
        cases r with
        | nil => rfl
        | cons c t =>
          simp only [Md.need, List.length_cons] at hn hm
          dsimp only
          rw [ih m (.one true) d (c :: t) (by simp only [Md.need, List.length_cons]; omega) (by simp only [Md.need, List.length_cons]; omega)]
          split
          · rfl
          · cases h : lexD m (.one true) d (c :: t) with
            | error e => rfl
            | ok x =>
              obtain ⟨l, r1⟩ := x
              have hl := lexD_len _ _ _ _ _ _ h
              simp only [Md.least, List.length_cons] at hl
              dsimp only
              rw [ih m .dq d r1 (by simp only [Md.need]; omega) (by simp only [Md.need]; omega)]
      | br q =>
        rw [lexD_br, lexD_br]
        cases r with
        | nil => rfl
        | cons c t =>
          simp only [Md.need, List.length_cons] at hn hm
          dsimp only
          rw [ih m (.one q) d (c :: t) (by simp only [Md.need, List.length_cons]; omega) (by simp only [Md.need, List.length_cons]; omega)]
          split
          · rfl
          · cases h : lexD m (.one q) d (c :: t) with
            | error e => rfl
            | ok x =>
              obtain ⟨l, r1⟩ := x
              have hl := lexD_len _ _ _ _ _ _ h
              simp only [Md.least, List.length_cons] at hl
              dsimp only
              rw [ih m (.br q) d r1 (by simp only [Md.need]; omega) (by simp only [Md.need]; omega)]
      | dol q =>
        rw [lexD_dol, lexD_dol]
        by_cases h : headIs 123 r = true
        · obtain ⟨t, rfl⟩ := headIs_cons h
          simp only [Md.need, List.length_cons] at hn hm
          rw [if_pos h, if_pos h]
          exact ih m (.brace q) d t (by simp only [Md.need]; omega) (by simp only [Md.need]; omega)
        · rw [if_neg h, if_neg h]
      | brace q =>
        rw [lexD_brace, lexD_brace]
        obtain ⟨r1, hr1⟩ : ∃ r1, r1 = if longB r then r.tail else r := ⟨_, rfl⟩
        have hl1 : r1.length ≤ r.length := by rw [hr1]; split <;> simp
        rw [← hr1]
        by_cases h0 : nameF true r1 = 0
        · rw [if_pos h0, if_pos h0]
        · rw [if_neg h0, if_neg h0]
          have hk := nameF_le true r1
          have hl2 : ((r1.drop (nameF true r1)).drop (opF (r1.drop (nameF true r1))).length).length + 1 ≤ r.length := by
            rw [List.length_drop, List.length_drop]; omega
          rw [ih m (.br q) (d + 1) _ (by simp only [Md.need] at hn ⊢; omega) (by simp only [Md.need] at hm ⊢; omega)]

/-- What is read, with fuel enough. -/
def lexC (md : Md) (d : Nat) (r : List UInt8) : Res := lexD (2 * r.length + 2) md d r
theorem lexC_of {n : Nat} {md : Md} {d : Nat} {r : List UInt8} (h : md.need r ≤ n) : lexD n md d r = lexC md d r :=
  lexD_fuel _ _ _ _ _ h (by cases md <;> simp only [Md.need] <;> omega)

theorem wordD_fuel (wh : Bool) : ∀ (n m : Nat) (r : List UInt8), r.length < n → r.length < m → wordD wh n r = wordD wh m r := by
  intro n
  induction n with
  | zero => intro m r hn; omega
  | succ n ih =>
    intro m r hn hm
    cases m with
    | zero => omega
    | succ m =>
      rw [wordD_succ, wordD_succ]
      cases r with
      | nil => rfl
      | cons c t =>
        dsimp only
        split
        · rfl
        · cases h : lexD (2 * (c :: t).length + 2) (.one false) 0 (c :: t) with
          | error e => rfl
          | ok x =>
            obtain ⟨l, r1⟩ := x
            have hl := lexD_len _ _ _ _ _ _ h
            simp only [Md.least, List.length_cons] at hl hn hm
            dsimp only
            rw [ih m r1 (by omega) (by omega)]
def wordC (wh : Bool) (r : List UInt8) : Res := wordD wh (r.length + 1) r
theorem wordC_nil (wh : Bool) : wordC wh [] = .ok ([], []) := rfl
theorem wordC_cons (wh : Bool) (c : UInt8) (t : List UInt8) : wordC wh (c :: t) = if !wh && breaksB c then .ok ([], c :: t) else match lexC (.one false) 0 (c :: t) with
      | .error e => .error e
      | .ok (l, r1) => (wordC wh r1).ahead l := by
  unfold wordC
  rw [wordD_succ]
  dsimp only
  split
  · rfl
  · show (match lexC (.one false) 0 (c :: t) with | .error e => _ | .ok (l, r1) => _) = _
    cases h : lexC (.one false) 0 (c :: t) with
    | error e => rfl
    | ok x =>
      obtain ⟨l, r1⟩ := x
      have hl := lexD_len _ _ _ _ _ _ h
      simp only [Md.least, List.length_cons] at hl
      dsimp only
      rw [wordD_fuel wh (c :: t).length (r1.length + 1) r1 (by simp only [List.length_cons]; omega) (by omega)]
theorem tokD_fuel : ∀ (n m : Nat) (r : List UInt8), r.length < n → r.length < m → tokD n r = tokD m r := by
  intro n
  induction n with
  | zero => intro m r hn; omega
  | succ n ih =>
    intro m r hn hm
    cases m with
    | zero => omega
    | succ m =>
      rw [tokD_succ, tokD_succ]
      have hs := skip_len false r
      cases h : skipF false r with
      | nil => rfl
      | cons c t =>
        dsimp only
        rw [h] at hs
        simp only [List.length_cons] at hs
        cases h2 : tokOne (c :: t) with
        | error e => rfl
        | ok x =>
          obtain ⟨y, r1⟩ := x
          have hl := tokOne_len (skip_head h) h2
          dsimp only
          rw [ih m r1 (by omega) (by omega)]
def tokC (r : List UInt8) : Except Nat (List Tk) := tokD (r.length + 1) r
theorem tokC_eq (r : List UInt8) : tokC r = match skipF false r with
    | [] => .ok []
    | c :: t => match tokOne (c :: t) with
      | .error e => .error e
      | .ok (x, r1) => consT x (tokC r1) := by
  unfold tokC
  rw [tokD_succ]
  have hs := skip_len false r
  cases h : skipF false r with
  | nil => rfl
  | cons c t =>
    dsimp only
    rw [h] at hs
    simp only [List.length_cons] at hs
    cases h2 : tokOne (c :: t) with
    | error e => rfl
    | ok x =>
      obtain ⟨y, r1⟩ := x
      have hl := tokOne_len (skip_head h) h2
      dsimp only
      rw [tokD_fuel r.length (r1.length + 1) r1 (by omega) (by omega)]
theorem tokC_skip (r : List UInt8) (h : skipF false r = skipF false (skipF false r)) : tokC r = tokC (skipF false r) := by rw [tokC_eq r, tokC_eq (skipF false r), ← h]
theorem tokOne_word {r : List UInt8} (h : operF r = []) (h38 : headIs 38 r = false) : tokOne r = match wordC false r with
    | .error e => .error e
    | .ok (l, r1) => .ok (⟨1, [], tidyF l⟩, r1) := by
  unfold tokOne wordC
  rw [if_pos (by rw [h]; rfl), if_neg (by rw [h38]; simp)]
  rfl
theorem tokOne_op {r : List UInt8} (h : operF r ≠ []) : tokOne r = .ok (⟨2, operF r, []⟩, r.drop (operF r).length) := by
  unfold tokOne
  rw [if_neg (by simpa using h)]
theorem tokensF_C (s : List UInt8) (h : mayF s = 0) : tokensF s = tokC s := by unfold tokensF tokC; rw [if_pos h]
theorem wholeF_C (s : List UInt8) (h : mayF s = 0) : wholeF s = match wordC true s with | .error e => .error e | .ok (l, _) => .ok (tidyF l) := by unfold wholeF wordC; rw [if_pos h]; rfl

/-- A byte that stands for itself in a word. -/
def plainB (c : UInt8) : Bool := !(c == 39 || c == 34 || c == 92 || c == 96 || c == 36)
theorem lexC_plain {c : UInt8} (h : plainB c = true) (d : Nat) (t : List UInt8) : lexC (.one false) d (c :: t) = .ok ([txtP [c]], t) := by
  unfold lexC
  rw [lexD_out]
  simp only [plainB, Bool.not_eq_true', Bool.or_eq_false_iff] at h
  obtain ⟨⟨⟨⟨h1, h2⟩, h3⟩, h4⟩, h5⟩ := h
  rw [h1, h2, h3, h4, h5]
  rfl
theorem ahead_add (l m : List Pt) (R : Res) : (R.ahead m).ahead l = R.ahead (l ++ m) := by
  cases R with
  | error e => rfl
  | ok x => obtain ⟨a, b⟩ := x; show Except.ok _ = Except.ok _; rw [List.append_assoc]
/-- A run of such bytes. -/
theorem wordC_run (wh : Bool) : ∀ (s r : List UInt8), (∀ c ∈ s, plainB c = true ∧ (wh = true ∨ breaksB c = false)) → wordC wh (s ++ r) = (wordC wh r).ahead (s.map fun c => txtP [c])
  | [], r, _ => by
    show wordC wh r = _
    cases wordC wh r with
    | error e => rfl
    | ok x => rfl
  | c :: s, r, h => by
    obtain ⟨h1, h2⟩ := h c (List.mem_cons_self ..)
    rw [List.cons_append, wordC_cons, if_neg (by rcases h2 with h2 | h2 <;> rw [h2] <;> simp), lexC_plain h1]
    dsimp only
    rw [wordC_run wh s r (fun x hx => h x (List.mem_cons_of_mem _ hx)), ahead_add]
    rfl
/-- Texts side by side are one. -/
theorem fold_txt (s : List UInt8) : ∀ (a : List UInt8) (out : List Pt) (b : Bool), (s.map fun c => txtP [c]).foldl stepN (out ++ [txtP a], b) = (out ++ [txtP (a ++ s)], b || !s.isEmpty) := by
  induction s with
  | nil => intro a out b; simp
  | cons c s ih =>
    intro a out b
    rw [List.map_cons, List.foldl_cons]
    have e : stepN (out ++ [txtP a], b) (txtP [c]) = (out ++ [txtP (a ++ [c])], true) := by
      unfold stepN
      rw [if_neg (by show ¬ (txtP [c]).isE = true; simp [txtP, Pt.isE, Pt.kind])]
      rw [addP_yes (by show (txtP a).joins (txtP [c]) = true; rfl)]
      rfl
    rw [e, ih]
    simp
theorem fold_quo (s : List UInt8) : ∀ (a : List UInt8) (out : List Pt) (b : Bool), (s.map fun c => quoP [c]).foldl stepN (out ++ [quoP a], b) = (out ++ [quoP (a ++ s)], b || !s.isEmpty) := by
  induction s with
  | nil => intro a out b; simp
  | cons c s ih =>
    intro a out b
    rw [List.map_cons, List.foldl_cons]
    have e : stepN (out ++ [quoP a], b) (quoP [c]) = (out ++ [quoP (a ++ [c])], true) := by
      unfold stepN
      rw [if_neg (by show ¬ (quoP [c]).isE = true; simp [quoP, Pt.isE, Pt.kind, Pt.text])]
      rw [addP_yes (by show (quoP a).joins (quoP [c]) = true; rfl)]
      rfl
    rw [e, ih]
    simp
theorem tidy_txt {c : UInt8} {s : List UInt8} : tidyF ((c :: s).map fun c => txtP [c]) = [txtP (c :: s)] := by
  have h : normF ((c :: s).map fun c => txtP [c]) = ([txtP (c :: s)], true) := by
    unfold normF
    rw [List.map_cons, List.foldl_cons]
    show List.foldl stepN ([txtP [c]], true) _ = _
    have := fold_txt s [c] [] true
    simpa using this
  unfold tidyF
  rw [h]
  rfl
theorem tidy_quo (s : List UInt8) : tidyF (quoP [] :: s.map fun c => quoP [c]) = [quoP s] := by
  cases s with
  | nil => rfl
  | cons c s =>
    have h : normF (quoP [] :: (c :: s).map fun c => quoP [c]) = ([quoP (c :: s)], true) := by
      unfold normF
      rw [List.map_cons, List.foldl_cons, List.foldl_cons]
      show List.foldl stepN ([quoP [c]], true) _ = _
      have := fold_quo s [c] [] true
      simpa using this
    unfold tidyF
    rw [h]
    rfl
/-- A byte in quotes, and letters behind it. -/
theorem tidy_back (c x : UInt8) (s : List UInt8) : tidyF (quoP [c] :: (x :: s).map fun c => txtP [c]) = [quoP [c], txtP (x :: s)] := by
  have h : normF (quoP [c] :: (x :: s).map fun c => txtP [c]) = ([quoP [c], txtP (x :: s)], true) := by
    unfold normF
    rw [List.map_cons, List.foldl_cons, List.foldl_cons]
    show List.foldl stepN ([quoP [c], txtP [x]], true) _ = _
    have := fold_txt s [x] [quoP [c]] true
    simpa using this
  unfold tidyF
  rw [h]
  rfl
end Go.Proofs.Ytnndnldpbdhkgaa
