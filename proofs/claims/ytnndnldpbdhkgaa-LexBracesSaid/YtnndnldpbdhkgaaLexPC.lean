/-
  Plain: parameters in braces, within each other.
-/
import Derived.Test.YtnndnldpbdhkgaaLexPB
import Derived.Test.YtnndnldpbdhkgaaLexBD
namespace Go.Proofs.Ytnndnldpbdhkgaa
set_option linter.unusedVariables false

/-- The operators of a law, by number; 0: none. -/
def brOps : List (List UInt8) := [[], [58, 45], [45], [58, 61], [61], [58, 63], [63], [58, 43], [43], [37], [37, 37], [35], [35, 35]]
/-- Words in braces, one in the other, and what stands behind. -/
def nestS (name o : List UInt8) : Nat → List UInt8 → List UInt8
  | 0, r => r
  | k + 1, r => 36 :: 123 :: (name ++ (o ++ nestS name o k (125 :: r)))
def nestP (name o : List UInt8) (q : Bool) : Nat → List Pt
  | 0 => []
  | k + 1 => [.mk 3 [] name o (nestP name o q k) q]
theorem nestS_app (name o : List UInt8) : ∀ (k : Nat) (r r' : List UInt8), nestS name o k r ++ r' = nestS name o k (r ++ r')
  | 0, r, r' => rfl
  | k + 1, r, r' => by
    show 36 :: 123 :: (name ++ (o ++ nestS name o k (125 :: r)) ++ r') = _
    rw [List.append_assoc, List.append_assoc, nestS_app name o k]
    rfl
def low : List UInt8 → Prop := fun s => ∀ c ∈ s, lowB c = true
theorem low_letter {c : UInt8} (h : lowB c = true) : letterB c = true ∧ (c == 35) = false := by
  have := all_u8 (P := fun c => !lowB c || (letterB c && !(c == 35))) (by decide +kernel) c
  rw [h] at this
  simpa using this
theorem tail_low : ∀ {s : List UInt8}, low s → ∀ (c : UInt8) (r : List UInt8), (letterB c || digitB c) = false → tailRun (s ++ c :: r) = s.length
  | [], _, c, r, hc => by
    rw [List.nil_append]
    unfold tailRun
    rw [hc]; rfl
  | x :: s, h, c, r, hc => by
    rw [List.cons_append]
    unfold tailRun
    rw [(low_letter (h x (List.mem_cons_self ..))).1, Bool.true_or, if_pos rfl, tail_low (fun y hy => h y (List.mem_cons_of_mem _ hy)) c r hc]
    rfl
theorem tail_low_end : ∀ {s : List UInt8}, low s → tailRun s = s.length
  | [], _ => rfl
  | x :: s, h => by
    unfold tailRun
    rw [(low_letter (h x (List.mem_cons_self ..))).1, Bool.true_or, if_pos rfl, tail_low_end (fun y hy => h y (List.mem_cons_of_mem _ hy))]
    rfl
theorem name_low {s : List UInt8} (h : low s) (hn : s ≠ []) (c : UInt8) (r : List UInt8) (hc : (letterB c || digitB c) = false) : nameF true (s ++ c :: r) = s.length := by
  cases s with
  | nil => exact absurd rfl hn
  | cons x s =>
    have e : runF (x :: s ++ c :: r) = (x :: s).length := by
      rw [List.cons_append]
      unfold runF
      dsimp only
      rw [(low_letter (h x (List.mem_cons_self ..))).1, if_pos rfl, tail_low (fun y hy => h y (List.mem_cons_of_mem _ hy)) c r hc]
      rfl
    unfold nameF
    rw [e, if_pos (by simp)]
theorem name_low_end {s : List UInt8} (h : low s) (hn : s ≠ []) : nameF true s = s.length := by
  cases s with
  | nil => exact absurd rfl hn
  | cons x s =>
    have e : runF (x :: s) = (x :: s).length := by
      unfold runF
      dsimp only
      rw [(low_letter (h x (List.mem_cons_self ..))).1, if_pos rfl, tail_low_end (fun y hy => h y (List.mem_cons_of_mem _ hy))]
      rfl
    unfold nameF
    rw [e, if_pos (by simp)]
theorem long_low {s : List UInt8} (h : low s) (hn : s ≠ []) (r : List UInt8) : longB (s ++ r) = false := by
  cases s with
  | nil => exact absurd rfl hn
  | cons x s =>
    unfold longB
    show ((x == 35) && _ && _) = false
    rw [(low_letter (h x (List.mem_cons_self ..))).2]
    rfl
theorem op_at {o : List UInt8} (ho : o ∈ brOps) (h0 : o ≠ []) {c : UInt8} (hc : c = 36 ∨ c = 125) (r : List UInt8) : opF (o ++ c :: r) = o ∧ headIs 125 (o ++ c :: r) = false ∧ ∃ x t, o ++ c :: r = x :: t ∧ (letterB x || digitB x) = false := by
  simp only [brOps, List.mem_cons, List.not_mem_nil, or_false] at ho
  rcases ho with rfl | rfl | rfl | rfl | rfl | rfl | rfl | rfl | rfl | rfl | rfl | rfl | rfl
  · exact absurd rfl h0
  all_goals (rcases hc with rfl | rfl <;> exact ⟨rfl, rfl, _, _, rfl, by decide⟩)
theorem op_end {o : List UInt8} (ho : o ∈ brOps) (h0 : o ≠ []) : opF o = o ∧ headIs 125 o = false ∧ ∃ x t, o = x :: t ∧ (letterB x || digitB x) = false := by
  simp only [brOps, List.mem_cons, List.not_mem_nil, or_false] at ho
  rcases ho with rfl | rfl | rfl | rfl | rfl | rfl | rfl | rfl | rfl | rfl | rfl | rfl | rfl
  · exact absurd rfl h0
  all_goals exact ⟨rfl, rfl, _, _, rfl, by decide⟩
theorem nest_head (name o : List UInt8) (k : Nat) (r : List UInt8) : ∃ c t, nestS name o k (125 :: r) = c :: t ∧ (c = 36 ∨ c = 125) := by
  cases k
  · exact ⟨125, r, rfl, .inr rfl⟩
  · exact ⟨36, _, rfl, .inl rfl⟩
theorem lexC_one36 (q : Bool) (d : Nat) (t : List UInt8) : lexC (.one q) d (36 :: t) = lexC (.dol q) d t := by
  cases q with
  | false => rw [lexC_out, if_neg (by decide), if_neg (by decide), if_neg (by decide), if_neg (by decide), if_pos (by decide)]
  | true => rw [lexC_inn, if_neg (by decide), if_neg (by simp), if_neg (by simp), if_pos (by decide)]
theorem br_shut (d : Nat) (q : Bool) (r : List UInt8) : lexC (.br q) d (125 :: r) = .ok ([], r) := by
  rw [lexC_br]; rfl
theorem dq_shut (d : Nat) (r : List UInt8) : lexC .dq d (34 :: r) = .ok ([], r) := by
  rw [lexC_dq]; rfl
theorem dol_brace (d : Nat) (q : Bool) (t : List UInt8) : lexC (.dol q) d (123 :: t) = lexC (.brace q) d t := by
  rw [lexC_dol, if_pos (by rfl)]; rfl
section
variable {name o : List UInt8} (hn : low name) (hne : name ≠ []) (ho : o ∈ brOps) (h0 : o ≠ [])
include hn hne ho h0
/-- A parameter with an operator: what stands behind it is a word. -/
theorem brace_op (d : Nat) (q : Bool) {X : List UInt8} (hX : X = [] ∨ ∃ c t, X = c :: t ∧ (c = 36 ∨ c = 125)) : lexC (.brace q) d (name ++ (o ++ X)) = if d = 40 then .error 3 else match lexC (.br q) (d + 1) X with
      | .error e => .error e
      | .ok (l, r3) => .ok ([.mk 3 [] name o (tidyF l) q], r3) := by
  have hx : ∃ x t, o ++ X = x :: t ∧ (letterB x || digitB x) = false ∧ opF (o ++ X) = o ∧ headIs 125 (o ++ X) = false := by
    rcases hX with rfl | ⟨c, t, rfl, hc⟩
    · rw [List.append_nil]
      obtain ⟨h1, h2, x, t, h3, h4⟩ := op_end ho h0
      exact ⟨x, t, h3, h4, h1, h2⟩
    · obtain ⟨h1, h2, x, t', h3, h4⟩ := op_at ho h0 hc t
      exact ⟨x, t', h3, h4, h1, h2⟩
  obtain ⟨x, t, e, hl, hop, h125⟩ := hx
  have hname : nameF true (name ++ (o ++ X)) = name.length := by rw [e]; exact name_low hn hne x t hl
  rw [lexC_brace, long_low hn hne]
  simp only [Bool.false_eq_true, if_false, Bool.or_false]
  rw [hname, List.drop_left, List.take_left, if_neg (by simpa using hne), h125]
  simp only [Bool.false_eq_true, if_false]
  rw [hop, List.drop_left, if_neg (by simpa using h0)]
  rfl
theorem nest_dol (q : Bool) : ∀ (k d : Nat) (r : List UInt8), d ≤ 40 → (d + k ≤ 39 → lexC (.dol q) d (123 :: (name ++ (o ++ nestS name o k (125 :: r)))) = .ok (nestP name o q (k + 1), r)) ∧
    (40 ≤ d + k → lexC (.dol q) d (123 :: (name ++ (o ++ nestS name o k (125 :: r)))) = .error 3)
  | 0, d, r, hd => by
    show (d + 0 ≤ 39 → lexC (.dol q) d (123 :: (name ++ (o ++ 125 :: r))) = _) ∧ (40 ≤ d + 0 → lexC (.dol q) d (123 :: (name ++ (o ++ 125 :: r))) = _)
    rw [dol_brace, brace_op hn hne ho h0 d q (X := 125 :: r) (.inr ⟨125, r, rfl, .inr rfl⟩)]
    refine ⟨fun h => ?_, fun h => ?_⟩
    · rw [if_neg (by omega), br_shut]
      rfl
    · rw [if_pos (by omega)]
  | k + 1, d, r, hd => by
    have ih := nest_dol q k (d + 1) (125 :: r)
    rw [dol_brace, brace_op hn hne ho h0 d q (X := nestS name o (k + 1) (125 :: r)) (.inr (nest_head name o (k + 1) r))]
    by_cases h40 : d = 40
    · exact ⟨fun h => by omega, fun h => by rw [if_pos h40]⟩
    · rw [if_neg h40]
      obtain ⟨i1, i2⟩ := ih (by omega)
      refine ⟨fun h => ?_, fun h => ?_⟩
      · rw [lexC_br]
        rw [show nestS name o (k + 1) (125 :: r) = 36 :: 123 :: (name ++ (o ++ nestS name o k (125 :: 125 :: r))) from rfl]
        dsimp only
        rw [if_neg (by decide), lexC_one36, i1 (by omega)]
        dsimp only
        rw [br_shut]
        rfl
      · rw [lexC_br]
        rw [show nestS name o (k + 1) (125 :: r) = 36 :: 123 :: (name ++ (o ++ nestS name o k (125 :: 125 :: r))) from rfl]
        dsimp only
        rw [if_neg (by decide), lexC_one36, i2 (by omega)]
/-- The last brace lacks. -/
theorem nest_open (q : Bool) (k : Nat) (hk : k ≤ 39) : lexC (.dol q) 0 (123 :: (name ++ (o ++ nestS name o k []))) = .error 2 := by
  cases k with
  | zero =>
    show lexC (.dol q) 0 (123 :: (name ++ (o ++ []))) = _
    rw [dol_brace, brace_op hn hne ho h0 0 q (X := []) (.inl rfl), if_neg (by omega)]
    rfl
  | succ k =>
    obtain ⟨i1, _⟩ := nest_dol hn hne ho h0 q k 1 [] (by omega)
    rw [dol_brace, brace_op hn hne ho h0 0 q (X := nestS name o (k + 1) []) (.inr ⟨36, _, rfl, .inl rfl⟩), if_neg (by omega), lexC_br]
    rw [show nestS name o (k + 1) [] = 36 :: 123 :: (name ++ (o ++ nestS name o k [125])) from rfl]
    dsimp only
    rw [if_neg (by decide), lexC_one36, i1 (by omega)]
    dsimp only
    rw [lexC_br]
    rfl
end
section
variable {name : List UInt8} (hn : low name) (hne : name ≠ [])
include hn hne
theorem plain_dol (q : Bool) (d : Nat) (r : List UInt8) : lexC (.dol q) d (123 :: (name ++ 125 :: r)) = .ok ([.mk 3 [] name [] [] q], r) := by
  have hname : nameF true (name ++ 125 :: r) = name.length := name_low hn hne 125 r (by decide)
  rw [dol_brace, lexC_brace, long_low hn hne]
  simp only [Bool.false_eq_true, if_false]
  rw [hname, List.drop_left, List.take_left, if_neg (by simpa using hne), if_pos (by rfl)]
  rfl
theorem plain_open (q : Bool) (d : Nat) : lexC (.dol q) d (123 :: name) = .error 2 := by
  have hname : nameF true name = name.length := name_low_end hn hne
  have hlong : longB name = false := by have := long_low hn hne []; rwa [List.append_nil] at this
  rw [dol_brace, lexC_brace, hlong]
  simp only [Bool.false_eq_true, if_false]
  rw [hname, List.drop_length, if_neg (by simpa using hne)]
  rfl
end
/-- All of it: the whole text, and the text without its last byte. -/
def brText (name o : List UInt8) (k : Nat) (q : Bool) : List UInt8 := if q then 34 :: nestS name o k [34] else nestS name o k []
def brOpen (name o : List UInt8) (k : Nat) (q : Bool) : List UInt8 := if q then 34 :: nestS name o k [] else 36 :: 123 :: (name ++ (o ++ nestS name o (k - 1) []))
theorem brText_open (name o : List UInt8) (k : Nat) (q : Bool) (hk : 1 ≤ k) : brText name o k q = brOpen name o k q ++ [if q then 34 else 125] := by
  obtain ⟨k, rfl⟩ : ∃ j, k = j + 1 := ⟨k - 1, by omega⟩
  cases q with
  | true =>
    show 34 :: nestS name o (k + 1) [34] = 34 :: (nestS name o (k + 1) [] ++ [34])
    rw [nestS_app]
    rfl
  | false =>
    show 36 :: 123 :: (name ++ (o ++ nestS name o k [125])) = 36 :: 123 :: ((name ++ (o ++ nestS name o k [])) ++ [125])
    rw [List.append_assoc, List.append_assoc, nestS_app]
    rfl
theorem one_ahead {l m : List Pt} {r : List UInt8} : Res.ahead l (.ok (m, r)) = .ok (l ++ m, r) := rfl
theorem quoted_tidy (x : Pt) (h1 : x.kind = 3) : tidyF [quoP [], x] = [x] := by
  cases x with
  | mk k t n o w q =>
    simp only [Pt.kind] at h1
    subst h1
    rfl
theorem bare_tidy (x : Pt) (h1 : x.kind = 3) : tidyF [x] = [x] := by
  cases x with
  | mk k t n o w q =>
    simp only [Pt.kind] at h1
    subst h1
    rfl
def wholeW (r : List UInt8) : Except Nat (List Pt) := match wordC true r with | .error e => .error e | .ok (l, _) => .ok (tidyF l)
theorem dq_one (X : List UInt8) : lexC (.one false) 0 (34 :: 36 :: X) = (match lexC (.dol true) 0 X with
      | .error e => Except.error e
      | .ok (l, r1) => (lexC .dq 0 r1).ahead l : Res).ahead [quoP []] := by
  rw [lexC_out, if_neg (by decide), if_pos (by decide), lexC_dq]
  dsimp only
  rw [if_neg (by decide), lexC_one36]
  rfl
theorem word_bare {X : List UInt8} {x : Pt} (hx : x.kind = 3) (h : lexC (.dol false) 0 X = .ok ([x], [])) : wholeW (36 :: X) = .ok [x] := by
  unfold wholeW
  rw [wordC_cons, if_neg (by simp), lexC_one36, h]
  dsimp only
  rw [wordC_nil]
  show Except.ok (tidyF ([x] ++ [])) = _
  rw [List.append_nil, bare_tidy x hx]
theorem word_bare_e {X : List UInt8} {e : Nat} (h : lexC (.dol false) 0 X = .error e) : wholeW (36 :: X) = .error e := by
  unfold wholeW
  rw [wordC_cons, if_neg (by simp), lexC_one36, h]
theorem word_quo {X : List UInt8} {x : Pt} (hx : x.kind = 3) (h : lexC (.dol true) 0 X = .ok ([x], [34])) : wholeW (34 :: 36 :: X) = .ok [x] := by
  unfold wholeW
  rw [wordC_cons, if_neg (by simp), dq_one, h]
  dsimp only
  rw [dq_shut]
  show (match (wordC true []).ahead ([quoP []] ++ ([x] ++ [])) with | .error e => Except.error e | .ok (l, _) => .ok (tidyF l)) = _
  rw [wordC_nil]
  show Except.ok (tidyF ([quoP []] ++ ([x] ++ []) ++ [])) = _
  rw [List.append_nil, List.append_nil]
  show Except.ok (tidyF [quoP [], x]) = _
  rw [quoted_tidy x hx]
theorem word_quo_e {X : List UInt8} {e : Nat} (h : lexC (.dol true) 0 X = .error e) : wholeW (34 :: 36 :: X) = .error e := by
  unfold wholeW
  rw [wordC_cons, if_neg (by simp), dq_one, h]
  rfl
theorem word_quo_end {X : List UInt8} {l : List Pt} (h : lexC (.dol true) 0 X = .ok (l, [])) : wholeW (34 :: 36 :: X) = .error 2 := by
  unfold wholeW
  rw [wordC_cons, if_neg (by simp), dq_one, h]
  dsimp only
  rw [lexC_dq]
  rfl
/-- What the law asks of the words. -/
theorem br_law {name o : List UInt8} (hn : low name) (hne : name ≠ []) (ho : o ∈ brOps) (k : Nat) (hk : o = [] → k = 0) (q : Bool) :
    (k ≤ 39 → wholeW (brText name o (k + 1) q) = .ok (nestP name o q (k + 1)) ∧ wholeW (brOpen name o (k + 1) q) = .error 2) ∧ (40 ≤ k → wholeW (brText name o (k + 1) q) = .error 3) := by
  have hd : ∀ (q : Bool) (r : List UInt8), (k ≤ 39 → lexC (.dol q) 0 (123 :: (name ++ (o ++ nestS name o k (125 :: r)))) = .ok (nestP name o q (k + 1), r)) ∧ (40 ≤ k → lexC (.dol q) 0 (123 :: (name ++ (o ++ nestS name o k (125 :: r)))) = .error 3) := fun q r => by
    by_cases h0 : o = []
    · have hk0 := hk h0
      subst h0 hk0
      exact ⟨fun _ => plain_dol hn hne q 0 r, fun h => by omega⟩
    · have h := nest_dol hn hne ho h0 q k 0 r (by omega)
      exact ⟨fun h1 => h.1 (by omega), fun h1 => h.2 (by omega)⟩
  have hop : k ≤ 39 → lexC (.dol false) 0 (123 :: (name ++ (o ++ nestS name o k []))) = .error 2 := fun h1 => by
    by_cases h0 : o = []
    · have hk0 := hk h0
      subst h0 hk0
      have := plain_open hn hne false 0
      show lexC (.dol false) 0 (123 :: (name ++ [])) = _
      rwa [List.append_nil]
    · exact nest_open hn hne ho h0 false k h1
  have hk3 : ∀ q, ∃ x : Pt, nestP name o q (k + 1) = [x] ∧ x.kind = 3 := fun q => ⟨_, rfl, rfl⟩
  obtain ⟨x, hx1, hx2⟩ := hk3 q
  cases q with
  | false =>
    refine ⟨fun h1 => ⟨?_, word_bare_e (hop h1)⟩, fun h1 => word_bare_e ((hd false []).2 h1)⟩
    have h := (hd false []).1 h1
    rw [hx1] at h ⊢
    exact word_bare hx2 h
  | true =>
    refine ⟨fun h1 => ⟨?_, word_quo_end ((hd true []).1 h1)⟩, fun h1 => word_quo_e ((hd true [34]).2 h1)⟩
    have h := (hd true [34]).1 h1
    rw [hx1] at h ⊢
    exact word_quo hx2 h
/-- The text, as the law makes it. -/
def preN (name o : List UInt8) : Nat → List UInt8
  | 0 => []
  | k + 1 => preN name o k ++ (36 :: 123 :: (name ++ o))
theorem preN_front (name o : List UInt8) : ∀ k, preN name o (k + 1) = (36 :: 123 :: (name ++ o)) ++ preN name o k
  | 0 => by simp [preN]
  | k + 1 => by
    show preN name o (k + 1) ++ _ = _ ++ (preN name o k ++ _)
    rw [preN_front name o k, List.append_assoc]
theorem nestS_pre (name o : List UInt8) : ∀ (k : Nat) (r : List UInt8), nestS name o k r = preN name o k ++ (List.replicate k 125 ++ r)
  | 0, r => rfl
  | k + 1, r => by
    show 36 :: 123 :: (name ++ (o ++ nestS name o k (125 :: r))) = _
    rw [nestS_pre name o k, preN_front, List.replicate_succ']
    simp
theorem preN_len (name o : List UInt8) : ∀ k, (preN name o k).length = k * (name.length + o.length + 2)
  | 0 => by simp [preN]
  | k + 1 => by
    show (preN name o k ++ _).length = _
    rw [List.length_append, preN_len name o k]
    simp only [List.length_cons, List.length_append, Nat.succ_mul]
theorem brOps_len {o : List UInt8} (h : o ∈ brOps) : o.length ≤ 2 ∧ ∀ c ∈ o, (c == 0) = false := by
  have : ∀ o ∈ brOps, o.length ≤ 2 ∧ ∀ c ∈ o, (c == 0) = false := by decide
  exact this o h
theorem preN_zero {name o : List UInt8} (h : ∀ c ∈ name, (c == 0) = false) (ho : ∀ c ∈ o, (c == 0) = false) : ∀ k, ∀ c ∈ preN name o k, (c == 0) = false
  | 0, c, hc => by cases hc
  | k + 1, c, hc => by
    rcases List.mem_append.1 hc with hc | hc
    · exact preN_zero h ho k c hc
    · rcases List.mem_cons.1 hc with rfl | hc
      · rfl
      · rcases List.mem_cons.1 hc with rfl | hc
        · rfl
        · rcases List.mem_append.1 hc with hc | hc
          · exact h c hc
          · exact ho c hc
theorem brText_pre (name o : List UInt8) (k : Nat) (q : Bool) : brText name o k q = if q then 34 :: (preN name o k ++ List.replicate k 125 ++ [34]) else preN name o k ++ List.replicate k 125 := by
  unfold brText
  rw [nestS_pre, nestS_pre]
  cases q <;> simp
theorem brText_zero {name o : List UInt8} (h : ∀ c ∈ name, (c == 0) = false) (ho : ∀ c ∈ o, (c == 0) = false) (k : Nat) (q : Bool) : ∀ c ∈ brText name o k q, (c == 0) = false := fun c hc => by
  have hr : ∀ c ∈ List.replicate k (125 : UInt8), (c == 0) = false := fun c hc => by rw [(List.mem_replicate.1 hc).2]; rfl
  rw [brText_pre] at hc
  cases q with
  | true =>
    rcases List.mem_cons.1 hc with rfl | hc
    · rfl
    · rcases List.mem_append.1 hc with hc | hc
      · rcases List.mem_append.1 hc with hc | hc
        · exact preN_zero h ho k c hc
        · exact hr c hc
      · rw [List.mem_singleton.1 hc]; rfl
  | false =>
    rcases List.mem_append.1 hc with hc | hc
    · exact preN_zero h ho k c hc
    · exact hr c hc
theorem brText_len {name o : List UInt8} (hn : name.length ≤ 40) (ho : o.length ≤ 2) {k : Nat} (hk : k ≤ 50) (q : Bool) : (brText name o k q).length ≤ 2300 := by
  have h : k * (name.length + o.length + 2) ≤ 50 * 44 := Nat.mul_le_mul hk (by omega)
  rw [brText_pre]
  cases q
  · simp only [Bool.false_eq_true, if_false, List.length_append, preN_len, List.length_replicate]; omega
  · simp only [if_true, List.length_cons, List.length_append, preN_len, List.length_replicate, List.length_nil]; omega
theorem wholeF_W (s : List UInt8) (h : mayF s = 0) : wholeF s = wholeW s := wholeF_C s h
end Go.Proofs.Ytnndnldpbdhkgaa
