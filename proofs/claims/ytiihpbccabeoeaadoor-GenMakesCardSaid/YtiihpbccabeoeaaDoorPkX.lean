/-
  Plain: blanks, line ends and comments alone; and a word among them.
  Plain: commands that stand in each other.
-/
import Derived.Test.YtiihpbccabeoeaaDoorPkE
import Derived.Test.YtiihpbccabeoeaaDoorPkD
namespace Go.Proofs.YtiihpbccabeoeaaDoor
set_option linter.unusedVariables false

def nlT : Tk := ⟨2, [10], []⟩
def emptyT (k : Nat) : List UInt8 := match k with
  | 0 => [32]
  | 1 => [9]
  | 2 => [10]
  | _ => [35, 32, 99, 59, 39, 40, 10]
def emptyS (l : List Nat) : List UInt8 := (l.map emptyT).flatten
theorem emptyS_cons (k : Nat) (l : List Nat) : emptyS (k :: l) = emptyT k ++ emptyS l := by simp [emptyS]
theorem tokC_same {r s : List UInt8} (h : skipF false r = skipF false s) : tokC r = tokC s := by rw [tokC_eq r, tokC_eq s, h]
theorem empty_toks : ∀ (l : List Nat) (r : List UInt8), ∃ k, tokC (emptyS l ++ r) = consL (List.replicate k nlT) (tokC r)
  | [], r => ⟨0, by cases h : tokC r with | error e => simp [emptyS, consL, h] | ok x => simp [emptyS, consL, h]⟩
  | x :: l, r => by
    obtain ⟨k, hk⟩ := empty_toks l r
    rw [emptyS_cons, List.append_assoc]
    have hnl : tokC (10 :: (emptyS l ++ r)) = consL (List.replicate (k + 1) nlT) (tokC r) := by
      rw [tokC_sep, hk]
      cases tokC r with
      | error e => rfl
      | ok y => rfl
    match x with
    | 0 => exact ⟨k, by rw [show emptyT 0 ++ (emptyS l ++ r) = 32 :: (emptyS l ++ r) from rfl, tokC_blank (by decide), hk]⟩
    | 1 => exact ⟨k, by rw [show emptyT 1 ++ (emptyS l ++ r) = 9 :: (emptyS l ++ r) from rfl, tokC_blank (by decide), hk]⟩
    | 2 => exact ⟨k + 1, hnl⟩
    | y + 3 =>
      refine ⟨k + 1, ?_⟩
      rw [← hnl]
      refine tokC_same ?_
      show skipF false (35 :: 32 :: 99 :: 59 :: 39 :: 40 :: 10 :: (emptyS l ++ r)) = skipF false (10 :: (emptyS l ++ r))
      rw [skipF_cons, if_neg (by decide), if_pos (by decide), skipF_true, skipF_cons, if_neg (by decide), if_neg (by decide), if_neg (by decide)]
      rfl
theorem lines_nls : ∀ (k : Nat) (r : List Tk), linesF (List.replicate k nlT ++ r) = linesF r
  | 0, r => rfl
  | k + 1, r => by
    rw [List.replicate_succ, List.cons_append]
    exact lines_nls k r
theorem emptyT_bytes (k : Nat) : (emptyT k).length ≤ 7 ∧ ∀ c ∈ emptyT k, c ≠ 0 := by
  match k with
  | 0 => decide
  | 1 => decide
  | 2 => decide
  | y + 3 =>
    show [35, 32, 99, 59, 39, 40, 10].length ≤ 7 ∧ ∀ c ∈ ([35, 32, 99, 59, 39, 40, 10] : List UInt8), c ≠ 0
    decide
theorem emptyS_bytes : ∀ l : List Nat, (emptyS l).length ≤ 7 * l.length ∧ ∀ c ∈ emptyS l, c ≠ 0
  | [] => ⟨by simp [emptyS], by simp [emptyS]⟩
  | x :: l => by
    obtain ⟨h1, h2⟩ := emptyS_bytes l
    obtain ⟨h3, h4⟩ := emptyT_bytes x
    rw [emptyS_cons, List.length_append, List.length_cons]
    refine ⟨by omega, fun c hc => ?_⟩
    rcases List.mem_append.1 hc with hc | hc
    · exact h4 c hc
    · exact h2 c hc
theorem may_plain {s : List UInt8} (hl : s.length ≤ 16384) (h : ∀ c ∈ s, c ≠ 0) : mayF s = 0 := by
  unfold mayF
  rw [if_neg (by omega), if_neg]
  intro hc
  rw [List.contains_iff_mem] at hc
  exact h 0 hc rfl
theorem empty_none (l : List Nat) (hl : l.length ≤ 40) : parseF (emptyS l) = .ok [] := by
  obtain ⟨hb, hz⟩ := emptyS_bytes l
  obtain ⟨k, hk⟩ := empty_toks l []
  rw [List.append_nil] at hk
  have ht : tokensF (emptyS l) = .ok (List.replicate k nlT) := by
    rw [tokensF_C _ (may_plain (by omega) hz), hk, show tokC [] = .ok [] from rfl]
    show Except.ok (List.replicate k nlT ++ []) = _
    rw [List.append_nil]
  unfold parseF scriptF
  rw [ht]
  have hn := lines_nls k []
  rw [List.append_nil] at hn
  show treeF (commandF 40) (List.replicate k nlT) = _
  unfold treeF
  rw [hn]
  rfl
def aNode : List Dt := ndR 1 false [] [wordR [txtP [97]]] [] [] [] []
theorem a_command (r : List Tk) : commandF 40 (aTk :: nlT :: r) = .ok (aNode, nlT :: r) := by rfl
theorem empty_one (l : List Nat) (hl : l.length ≤ 40) : parseF (emptyS l ++ [97] ++ [10] ++ emptyS l) = .ok aNode := by
  obtain ⟨hb, hz⟩ := emptyS_bytes l
  obtain ⟨k2, hk2⟩ := empty_toks l []
  rw [List.append_nil] at hk2
  obtain ⟨k, hk⟩ := empty_toks l (97 :: 10 :: emptyS l)
  have hs : emptyS l ++ [97] ++ [10] ++ emptyS l = emptyS l ++ 97 :: 10 :: emptyS l := by simp
  have ht : tokensF (emptyS l ++ 97 :: 10 :: emptyS l) = .ok (List.replicate k nlT ++ (aTk :: nlT :: List.replicate k2 nlT)) := by
    rw [tokensF_C _ (may_plain (by simp; omega) (fun c hc => by
      rcases List.mem_append.1 hc with hc | hc
      · exact hz c hc
      · rcases List.mem_cons.1 hc with rfl | hc
        · decide
        · rcases List.mem_cons.1 hc with rfl | hc
          · decide
          · exact hz c hc)), hk, tokC_a ⟨10, emptyS l, rfl, by decide⟩, tokC_sep, hk2, show tokC [] = .ok [] from rfl]
    show Except.ok (List.replicate k nlT ++ (aTk :: nlT :: (List.replicate k2 nlT ++ []))) = _
    rw [List.append_nil]
  rw [hs]
  unfold parseF scriptF
  rw [ht]
  show treeF (commandF 40) (List.replicate k nlT ++ (aTk :: nlT :: List.replicate k2 nlT)) = _
  unfold treeF
  rw [lines_nls]
  have hn := lines_nls k2 []
  rw [List.append_nil] at hn
  have h1 : linesF (aTk :: nlT :: List.replicate k2 nlT) = aTk :: nlT :: List.replicate k2 nlT := rfl
  rw [h1]
  have hp : pipelineF (commandF 40) (aTk :: nlT :: List.replicate k2 nlT) = .ok (aNode, nlT :: List.replicate k2 nlT) := by
    unfold pipelineF
    rw [show (if isWF [33] (aTk :: nlT :: List.replicate k2 nlT) then (aTk :: nlT :: List.replicate k2 nlT).tail else aTk :: nlT :: List.replicate k2 nlT) = aTk :: nlT :: List.replicate k2 nlT from rfl, a_command]
    rfl
  have ha : andOrF (commandF 40) (aTk :: nlT :: List.replicate k2 nlT) = .ok (aNode, nlT :: List.replicate k2 nlT) := by
    unfold andOrF
    rw [hp]
    rfl
  have hall : allF (commandF 40) (aTk :: nlT :: List.replicate k2 nlT) = .ok (aNode, []) := by
    unfold allF
    rw [ha]
    show allLoop (commandF 40) ((nlT :: List.replicate k2 nlT).length + 1) aNode (nlT :: List.replicate k2 nlT) = _
    unfold allLoop
    have he : endsF (nlT :: List.replicate k2 nlT) = (true, []) := by
      show (true, linesF (List.replicate k2 nlT)) = _
      rw [hn]; rfl
    rw [he]
    rfl
  rw [hall]
  rfl
end Go.Proofs.YtiihpbccabeoeaaDoor
namespace Go.Proofs.YtiihpbccabeoeaaDoor
set_option linter.unusedVariables false

def wT (s : List UInt8) : Tk := ⟨1, [], [txtP s]⟩
def oT (s : List UInt8) : Tk := ⟨2, s, []⟩
/-- A byte of a word that is text alone; one with which a word may begin. -/
def runB (c : UInt8) : Bool := plainB c && !breaksB c
def headB (c : UInt8) : Bool := !opHead c && !(c == 32 || c == 9) && !(c == 35) && !(c == 92) && !(c == 38)
def Brk (X : List UInt8) : Prop := X = [] ∨ ∃ y t, X = y :: t ∧ breaksB y = true
theorem tokC_w {c : UInt8} {s X : List UInt8} (h0 : headB c = true) (hs : (c :: s).all runB = true) (hX : Brk X) : tokC (c :: s ++ X) = consT (wT (c :: s)) (tokC X) := by
  simp only [headB, Bool.and_eq_true, Bool.not_eq_true'] at h0
  obtain ⟨⟨⟨⟨h1, h2⟩, h3⟩, h4⟩, h5⟩ := h0
  rw [tokC_eq, List.cons_append, skip_stay h2 h3 h4]
  dsimp only
  rw [tokOne_word (operF_nil h1 _) h5, ← List.cons_append, wordC_run false (c :: s) X (fun x hx => by
    have := List.all_eq_true.1 hs x hx
    simp only [runB, Bool.and_eq_true, Bool.not_eq_true'] at this
    exact ⟨this.1, .inr this.2⟩)]
  have hw : wordC false X = .ok ([], X) := by
    rcases hX with rfl | ⟨y, t, rfl, hy⟩
    · exact wordC_nil false
    · rw [wordC_cons, if_pos (by rw [hy]; rfl)]
  rw [hw]
  show (match (Except.ok (⟨1, [], tidyF (((c :: s).map fun c => txtP [c]) ++ [])⟩, X) : Except Nat (Tk × List UInt8)) with
      | .error e => Except.error e
      | .ok (x, r1) => consT x (tokC r1)) = _
  rw [List.append_nil, tidy_txt]
  rfl
theorem tokC_o {o t X : List UInt8} {c : UInt8} (ho : o = c :: t) (h : operF (o ++ X) = o) (h2 : (c == 32 || c == 9) = false) (h3 : (c == 35) = false) (h4 : (c == 92) = false) : tokC (o ++ X) = consT (oT o) (tokC X) := by
  have ht : tokOne (o ++ X) = .ok (⟨2, o, []⟩, X) := by
    rw [tokOne_op (by rw [h, ho]; exact List.cons_ne_nil _ _), h, List.drop_left]
  have hs : skipF false (o ++ X) = o ++ X := by rw [ho]; exact skip_stay h2 h3 h4 _
  rw [tokC_eq, hs]
  rw [ho] at ht ⊢
  dsimp only [List.cons_append] at ht ⊢
  rw [ht]
  rfl
theorem consL_consL (a b : List Tk) (r : Except Nat (List Tk)) : consL a (consL b r) = consL (a ++ b) r := by
  cases r with
  | error e => rfl
  | ok l => show Except.ok _ = Except.ok _; rw [List.append_assoc]
theorem consT_L (x : Tk) (r : Except Nat (List Tk)) : consT x r = consL [x] r := by cases r <;> rfl
theorem Brk.sp (X : List UInt8) : Brk (32 :: X) := .inr ⟨_, _, rfl, by decide⟩
theorem Brk.semi (X : List UInt8) : Brk (59 :: X) := .inr ⟨_, _, rfl, by decide⟩
theorem sp_w {c : UInt8} {s X : List UInt8} (h0 : headB c = true) (hs : (c :: s).all runB = true) : tokC (c :: s ++ 32 :: X) = consL [wT (c :: s)] (tokC X) := by
  rw [tokC_w h0 hs (Brk.sp X), tokC_blank (by decide), consT_L]
theorem semi_w {c : UInt8} {s X : List UInt8} (h0 : headB c = true) (hs : (c :: s).all runB = true) : tokC (c :: s ++ 59 :: 32 :: X) = consL [wT (c :: s), oT [59]] (tokC X) := by
  rw [tokC_w h0 hs (Brk.semi _), show (59 :: 32 :: X : List UInt8) = [59] ++ 32 :: X from rfl, tokC_o (t := []) (c := 59) rfl rfl (by decide) (by decide) (by decide), tokC_blank (by decide), consT_L, consT_L, consL_consL]
  rfl
def deepL : Nat → List UInt8
  | 0 => [123, 32]
  | 1 => [40, 32]
  | 2 => [119, 104, 105, 108, 101, 32, 97, 59, 32, 100, 111, 32]
  | _ => [105, 102, 32, 97, 59, 32, 116, 104, 101, 110, 32, 98, 59, 32, 101, 108, 115, 101, 32]
def deepR : Nat → List UInt8
  | 0 => [59, 32, 125]
  | 1 => [32, 41]
  | 2 => [59, 32, 100, 111, 110, 101]
  | _ => [59, 32, 102, 105]
def deepLT : Nat → List Tk
  | 0 => [wT [123]]
  | 1 => [oT [40]]
  | 2 => [wT [119, 104, 105, 108, 101], wT [97], oT [59], wT [100, 111]]
  | _ => [wT [105, 102], wT [97], oT [59], wT [116, 104, 101, 110], wT [98], oT [59], wT [101, 108, 115, 101]]
def deepRT : Nat → List Tk
  | 0 => [oT [59], wT [125]]
  | 1 => [oT [41]]
  | 2 => [oT [59], wT [100, 111, 110, 101]]
  | _ => [oT [59], wT [102, 105]]
def deepS (k : Nat) : Nat → List UInt8
  | 0 => [97]
  | n + 1 => deepL k ++ deepS k n ++ deepR k
def deepT (k : Nat) : Nat → List Tk
  | 0 => [wT [97]]
  | n + 1 => deepLT k ++ deepT k n ++ deepRT k
theorem left_toks (k : Nat) (X : List UInt8) : tokC (deepL k ++ X) = consL (deepLT k) (tokC X) := by
  match k with
  | 0 => exact sp_w (c := 123) (s := []) (by decide) (by decide)
  | 1 =>
    show tokC ([40] ++ 32 :: X) = _
    rw [tokC_o (t := []) (c := 40) rfl rfl (by decide) (by decide) (by decide), tokC_blank (by decide), consT_L]
    rfl
  | 2 =>
    show tokC (119 :: [104, 105, 108, 101] ++ 32 :: (97 :: [] ++ 59 :: 32 :: (100 :: [111] ++ 32 :: X))) = _
    rw [sp_w (by decide) (by decide), semi_w (by decide) (by decide), sp_w (by decide) (by decide), consL_consL, consL_consL]
    rfl
  | k + 3 =>
    show tokC (105 :: [102] ++ 32 :: (97 :: [] ++ 59 :: 32 :: (116 :: [104, 101, 110] ++ 32 :: (98 :: [] ++ 59 :: 32 :: (101 :: [108, 115, 101] ++ 32 :: X))))) = _
    rw [sp_w (by decide) (by decide), semi_w (by decide) (by decide), sp_w (by decide) (by decide), semi_w (by decide) (by decide), sp_w (by decide) (by decide), consL_consL, consL_consL, consL_consL, consL_consL]
    rfl
theorem semi_end {c : UInt8} {s X : List UInt8} (h0 : headB c = true) (hs : (c :: s).all runB = true) (hX : Brk X) : tokC (59 :: 32 :: (c :: s ++ X)) = consL [oT [59], wT (c :: s)] (tokC X) := by
  rw [show (59 :: 32 :: (c :: s ++ X) : List UInt8) = [59] ++ 32 :: (c :: s ++ X) from rfl, tokC_o (t := []) (c := 59) rfl rfl (by decide) (by decide) (by decide), tokC_blank (by decide), tokC_w h0 hs hX, consT_L, consT_L, consL_consL]
  rfl
theorem right_toks (k : Nat) (X : List UInt8) (hX : Brk X) : tokC (deepR k ++ X) = consL (deepRT k) (tokC X) := by
  match k with
  | 0 => exact semi_end (c := 125) (s := []) (by decide) (by decide) hX
  | 1 =>
    show tokC (32 :: ([41] ++ X)) = _
    rw [tokC_blank (by decide), tokC_o (t := []) (c := 41) rfl rfl (by decide) (by decide) (by decide), consT_L]
    rfl
  | 2 => exact semi_end (c := 100) (s := [111, 110, 101]) (by decide) (by decide) hX
  | k + 3 => exact semi_end (c := 102) (s := [105]) (by decide) (by decide) hX
theorem right_brk (k : Nat) (X : List UInt8) : Brk (deepR k ++ X) := by
  match k with
  | 0 => exact Brk.semi _
  | 1 => exact Brk.sp _
  | 2 => exact Brk.semi _
  | k + 3 => exact Brk.semi _
theorem deep_toks (k : Nat) : ∀ (n : Nat) (X : List UInt8), Brk X → tokC (deepS k n ++ X) = consL (deepT k n) (tokC X)
  | 0, X, hX => by
    show tokC (97 :: [] ++ X) = consL [wT [97]] (tokC X)
    rw [tokC_w (by decide) (by decide) hX, consT_L]
  | n + 1, X, hX => by
    show tokC (deepL k ++ deepS k n ++ deepR k ++ X) = consL (deepLT k ++ deepT k n ++ deepRT k) (tokC X)
    rw [List.append_assoc, List.append_assoc, left_toks, deep_toks k n _ (right_brk k X), right_toks k X hX, consL_consL, consL_consL, List.append_assoc]
theorem deepS_bytes (k : Nat) : ∀ n, (deepS k n).length ≤ 1 + 25 * n ∧ ∀ c ∈ deepS k n, c ≠ 0
  | 0 => ⟨by show 1 ≤ 1; omega, fun c hc => by rw [List.mem_singleton.1 hc]; decide⟩
  | n + 1 => by
    obtain ⟨h1, h2⟩ := deepS_bytes k n
    have hl : (deepL k).length ≤ 19 ∧ (deepR k).length ≤ 6 ∧ (∀ c ∈ deepL k, c ≠ 0) ∧ ∀ c ∈ deepR k, c ≠ 0 := by
      match k with
      | 0 => decide
      | 1 => decide
      | 2 => decide
      | k + 3 => exact (show ([105, 102, 32, 97, 59, 32, 116, 104, 101, 110, 32, 98, 59, 32, 101, 108, 115, 101, 32] : List UInt8).length ≤ 19 ∧ ([59, 32, 102, 105] : List UInt8).length ≤ 6 ∧ (∀ c ∈ ([105, 102, 32, 97, 59, 32, 116, 104, 101, 110, 32, 98, 59, 32, 101, 108, 115, 101, 32] : List UInt8), c ≠ 0) ∧ ∀ c ∈ ([59, 32, 102, 105] : List UInt8), c ≠ 0 by decide)
    show (deepL k ++ deepS k n ++ deepR k).length ≤ _ ∧ ∀ c ∈ deepL k ++ deepS k n ++ deepR k, c ≠ 0
    rw [List.length_append, List.length_append]
    refine ⟨by omega, fun c hc => ?_⟩
    rcases List.mem_append.1 hc with hc | hc
    · rcases List.mem_append.1 hc with hc | hc
      · exact hl.2.2.1 c hc
      · exact h2 c hc
    · exact hl.2.2.2 c hc
theorem deep_tokens (k n : Nat) (hn : n ≤ 60) : tokensF (deepS k n) = .ok (deepT k n) := by
  obtain ⟨h1, h2⟩ := deepS_bytes k n
  rw [tokensF_C _ (may_plain (by omega) h2)]
  have h := deep_toks k n [] (.inl rfl)
  rw [List.append_nil, show tokC [] = .ok [] from rfl] at h
  rw [h]
  show Except.ok (_ ++ []) = _
  rw [List.append_nil]
theorem allLoop_s (cmd : List Tk → PR (List Dt)) (n : Nat) (acc : List Dt) (ts : List Tk) : allLoop cmd (n + 1) acc ts = if (endsF ts).1 && moreF (endsF ts).2 then (match andOrF cmd (endsF ts).2 with
    | .error e => .error e
    | .ok (d, r) => allLoop cmd n (acc ++ d) r) else .ok (acc, (endsF ts).2) := rfl
theorem redirs_s (scr : Bs → Except Nat Unit) (n : Nat) (acc : List Dt) (ts : List Tk) : redirsF scr (n + 1) acc ts = if redirB ts then (match redirF scr ts with
    | .error e => .error e
    | .ok (d, r) => redirsF scr n (acc ++ d) r) else .ok (acc, ts) := rfl
/-- What may stand behind a command. -/
structure Tail (X : List Tk) : Prop where
  pipe : isOpF [124] X = false
  aa : isOpF [38, 38] X = false
  oo : isOpF [124, 124] X = false
  red : redirB X = false
  wd : ((atF X).kind == 1) = false
  opn : isOpF [40] X = false
  more : ((endsF X).1 && moreF (endsF X).2) = false
section
variable {cmd : List Tk → PR (List Dt)} {L X : List Tk} {d : List Dt}
theorem pipe_one (hb : isWF [33] L = false) (hc : cmd L = .ok (d, X)) (hd : d.length = 8) (ht : Tail X) : pipelineF cmd L = .ok (d, X) := by
  unfold pipelineF
  rw [hb, if_neg (by simp), hc]
  dsimp only
  unfold pipeLoop
  rw [if_neg (by rw [ht.pipe]; simp)]
  dsimp only
  rw [if_pos ⟨hd, rfl⟩]
theorem and_one (hb : isWF [33] L = false) (hc : cmd L = .ok (d, X)) (hd : d.length = 8) (ht : Tail X) : andOrF cmd L = .ok (d, X) := by
  unfold andOrF
  rw [pipe_one hb hc hd ht]
  dsimp only
  unfold andLoop
  rw [if_neg (by rw [ht.aa]; simp), if_neg (by rw [ht.oo]; simp)]
theorem all_one (hb : isWF [33] L = false) (hc : cmd L = .ok (d, X)) (hd : d.length = 8) (ht : Tail X) : allF cmd L = .ok (d, (endsF X).2) := by
  unfold allF
  rw [and_one hb hc hd ht]
  dsimp only
  rw [allLoop_s, if_neg (by rw [ht.more]; simp)]
theorem list_one (hl : linesF L = L) (hb : isWF [33] L = false) (hc : cmd L = .ok (d, X)) (hd : d.length = 8) (ht : Tail X) : listF cmd L = .ok (d, (endsF X).2) := by
  unfold listF
  rw [hl, all_one hb hc hd ht]
  dsimp only
  unfold seqF
  rw [if_pos hd]
theorem all_err {x : Nat} (hb : isWF [33] L = false) (hc : cmd L = .error x) : allF cmd L = .error x := by
  unfold allF andOrF pipelineF
  rw [hb, if_neg (by simp), hc]
theorem list_err {x : Nat} (hl : linesF L = L) (hb : isWF [33] L = false) (hc : cmd L = .error x) : listF cmd L = .error x := by
  unfold listF
  rw [hl, all_err hb hc]
end
theorem Tail.nil : Tail [] := ⟨rfl, rfl, rfl, rfl, rfl, rfl, rfl⟩
theorem Tail.par (X : List Tk) : Tail (oT [41] :: X) := ⟨rfl, rfl, rfl, rfl, rfl, rfl, rfl⟩
theorem Tail.semi {s : List UInt8} (h : reservedL.contains s = true) (h2 : startsL.contains s = false) (h3 : (s == [33]) = false) (X : List Tk) : Tail (oT [59] :: wT s :: X) := by
  refine ⟨rfl, rfl, rfl, rfl, rfl, rfl, ?_⟩
  show moreF (wT s :: X) = false
  have hb : beginsF (wT s :: X) = false := by
    show (if reservedL.contains s then startsL.contains s else true) = false
    rw [h, if_pos rfl, h2]
  unfold moreF
  rw [hb]
  exact h3
theorem redirs_none (scr : Bs → Except Nat Unit) {X : List Tk} (h : redirB X = false) : redirsF scr (X.length + 1) [] X = .ok ([], X) := by
  rw [redirs_s, h]
  rfl
theorem with_none {scr : Bs → Except Nat Unit} {X : List Tk} (h : redirB X = false) (kind : Nat) (nt : Bool) (nm : List UInt8) (ws gs rs ks ar : List Dt) : ∃ ds : List Dt, ds.length = 8 ∧ withRedirs scr (.ok (ndR kind nt nm ws gs rs ks ar, X)) = .ok (ds, X) := by
  refine ⟨(ndR kind nt nm ws gs rs ks ar).set 5 (.sl 2 []), rfl, ?_⟩
  unfold withRedirs
  dsimp only
  rw [redirs_none scr h]
/-- A word that is a command. -/
theorem word_cmd0 {s : List UInt8} (hr : reservedL.contains s = false) (hs : s ≠ []) (hc : cutEq s = none) (hn1 : ∀ x ∈ startsL, (s == x) = false) {X : List Tk} (h1r : redirB X = false) (h1w : ((atF X).kind == 1) = false) (h1o : isOpF [40] X = false) : ∀ K, commandF K (wT s :: X) = if K = 0 then .error 3 else .ok (ndR 1 false [] [wordR [txtP s]] [] [] [] [], X) := by
  have hb : beginsF (wT s :: X) = true := by
    show (if reservedL.contains s then startsL.contains s else true) = true
    rw [hr]; rfl
  intro K
  cases K with
  | zero => unfold commandF; rw [hb]; rfl
  | succ K =>
    have hw : ∀ x, x ∈ startsL → isWF x (wT s :: X) = false := fun x hx => hn1 x hx
    unfold commandF
    rw [if_pos hb, if_neg (Nat.succ_ne_zero K)]
    unfold innerF compoundF
    rw [show isOpF [40] (wT s :: X) = false from rfl, hw [123] (by decide), hw [105, 102] (by decide), hw [119, 104, 105, 108, 101] (by decide), hw [117, 110, 116, 105, 108] (by decide), hw [102, 111, 114] (by decide), hw [99, 97, 115, 101] (by decide), show opensF (wT s :: X) = false from h1o, Bool.and_false]
    simp only [Bool.false_eq_true, if_false]
    have h1 : wordF (scrF (commandF K)) (wT s :: X) = .ok ([txtP s], X) := by
      show (match subsF (scrF (commandF K)) [txtP s] with
        | .error e => (.error e : PR (List Pt))
        | .ok _ => .ok ([txtP s], X)) = _
      rw [show subsF (scrF (commandF K)) [txtP s] = .ok () from by simp [subsF, subsP, txtP]]
    have h2 : assignF [txtP s] = none := by
      show (match cutEq s with
        | none => none
        | some (nm, rest) => if nameOkF nm then some (nm, if rest.isEmpty then ([] : List Pt) else txtP rest :: []) else none) = none
      rw [hc]
    show simpleF (scrF (commandF K)) (X.length + 1 + 1) [] [] [] (wT s :: X) = _
    unfold simpleF
    rw [show redirB (wT s :: X) = false from rfl, if_neg (by simp), show ((atF (wT s :: X)).kind == 1) = true from rfl, if_pos rfl, h1]
    dsimp only [List.isEmpty_nil]
    rw [if_pos rfl, h2]
    dsimp only
    unfold simpleF
    rw [h1r, if_neg (by simp), h1w, if_neg (by simp)]
    rfl
theorem word_cmd {s : List UInt8} (hr : reservedL.contains s = false) (hs : s ≠ []) (hc : cutEq s = none) (hn1 : ∀ x ∈ startsL, (s == x) = false) {X : List Tk} (ht : Tail X) (K : Nat) : commandF K (wT s :: X) = if K = 0 then .error 3 else .ok (ndR 1 false [] [wordR [txtP s]] [] [] [] [], X) := word_cmd0 hr hs hc hn1 ht.red ht.wd ht.opn K
theorem a_cmd {X : List Tk} (ht : Tail X) (K : Nat) : commandF K (wT [97] :: X) = if K = 0 then .error 3 else .ok (ndR 1 false [] [wordR [txtP [97]]] [] [] [] [], X) := word_cmd (by decide) (by decide) (by decide) (by decide) ht K
theorem b_cmd {X : List Tk} (ht : Tail X) (K : Nat) : commandF K (wT [98] :: X) = if K = 0 then .error 3 else .ok (ndR 1 false [] [wordR [txtP [98]]] [] [] [] [], X) := word_cmd (by decide) (by decide) (by decide) (by decide) ht K
theorem deep_head (k n : Nat) (X : List Tk) : linesF (deepT k n ++ X) = deepT k n ++ X ∧ isWF [33] (deepT k n ++ X) = false ∧ beginsF (deepT k n ++ X) = true := by
  cases n with
  | zero => exact ⟨rfl, rfl, rfl⟩
  | succ n =>
    match k with
    | 0 => exact ⟨rfl, rfl, rfl⟩
    | 1 => exact ⟨rfl, rfl, rfl⟩
    | 2 => exact ⟨rfl, rfl, rfl⟩
    | k + 3 => exact ⟨rfl, rfl, rfl⟩
theorem right_tail (k : Nat) (X : List Tk) : Tail (deepRT k ++ X) := by
  match k with
  | 0 => exact Tail.semi (by decide) (by decide) (by decide) X
  | 1 => exact Tail.par X
  | 2 => exact Tail.semi (by decide) (by decide) (by decide) X
  | k + 3 => exact Tail.semi (by decide) (by decide) (by decide) X
theorem deep_cmd (k : Nat) : ∀ (n K : Nat) (X : List Tk), Tail X → (n < K → ∃ ds : List Dt, ds.length = 8 ∧ commandF K (deepT k n ++ X) = .ok (ds, X)) ∧ (K ≤ n → commandF K (deepT k n ++ X) = .error 3)
  | 0, K, X, ht => by
    have h := a_cmd ht K
    exact ⟨fun hK => ⟨_, rfl, h.trans (if_neg (by omega))⟩, fun hK => h.trans (if_pos (by omega))⟩
  | n + 1, 0, X, ht => by
    refine ⟨fun h => by omega, fun _ => ?_⟩
    unfold commandF
    rw [(deep_head k (n + 1) X).2.2]
    rfl
  | n + 1, K + 1, X, ht => by
    obtain ⟨hok, herr⟩ := deep_cmd k n K (deepRT k ++ X) (right_tail k X)
    obtain ⟨hl, hb, _⟩ := deep_head k n (deepRT k ++ X)
    have e0 : deepT k (n + 1) ++ X = deepLT k ++ (deepT k n ++ (deepRT k ++ X)) := by
      show deepLT k ++ deepT k n ++ deepRT k ++ X = _
      rw [List.append_assoc, List.append_assoc]
    have e1 : commandF (K + 1) (deepT k (n + 1) ++ X) = innerF (commandF K) (scrF (commandF K)) (deepLT k ++ (deepT k n ++ (deepRT k ++ X))) := by
      rw [← e0]
      show (if beginsF _ then _ else _) = _
      rw [(deep_head k (n + 1) X).2.2, if_pos rfl]
    rw [e1]
    clear e0 e1
    have hok2 : n + 1 < K + 1 → ∃ ds : List Dt, ds.length = 8 ∧ listF (commandF K) (deepT k n ++ (deepRT k ++ X)) = .ok (ds, (endsF (deepRT k ++ X)).2) := fun h => by
      obtain ⟨ds, h1, h2⟩ := hok (by omega)
      exact ⟨ds, h1, list_one hl hb h2 h1 (right_tail k X)⟩
    have herr2 : K + 1 ≤ n + 1 → listF (commandF K) (deepT k n ++ (deepRT k ++ X)) = .error 3 := fun h => list_err hl hb (herr (by omega))
    generalize deepT k n = TT at *
    match k with
    | 0 =>
      have e2 : innerF (commandF K) (scrF (commandF K)) (deepLT 0 ++ (TT ++ (deepRT 0 ++ X))) = withRedirs (scrF (commandF K)) (shutF (commandF K) 12 (needW [125]) (TT ++ (deepRT 0 ++ X))) := rfl
      rw [e2]
      unfold shutF
      refine ⟨fun h => ?_, fun h => ?_⟩
      · obtain ⟨ds, h1, h2⟩ := hok2 h
        rw [h2]
        exact with_none ht.red _ _ _ _ _ _ _ _
      · rw [herr2 h]; rfl
    | 1 =>
      have e2 : innerF (commandF K) (scrF (commandF K)) (deepLT 1 ++ (TT ++ (deepRT 1 ++ X))) = withRedirs (scrF (commandF K)) (shutF (commandF K) 13 (needOp [41]) (TT ++ (deepRT 1 ++ X))) := rfl
      rw [e2]
      unfold shutF
      refine ⟨fun h => ?_, fun h => ?_⟩
      · obtain ⟨ds, h1, h2⟩ := hok2 h
        rw [h2]
        exact with_none ht.red _ _ _ _ _ _ _ _
      · rw [herr2 h]; rfl
    | 2 =>
      have e2 : innerF (commandF K) (scrF (commandF K)) (deepLT 2 ++ (TT ++ (deepRT 2 ++ X))) = withRedirs (scrF (commandF K)) (whileF (commandF K) 7 (wT [97] :: oT [59] :: wT [100, 111] :: (TT ++ (deepRT 2 ++ X)))) := rfl
      rw [e2]
      unfold whileF
      have ha := a_cmd (Tail.semi (s := [100, 111]) (by decide) (by decide) (by decide) (TT ++ (deepRT 2 ++ X))) K
      refine ⟨fun h => ?_, fun h => ?_⟩
      · obtain ⟨ds, h1, h2⟩ := hok2 h
        rw [if_neg (by omega)] at ha
        rw [list_one rfl rfl ha rfl (Tail.semi (s := [100, 111]) (by decide) (by decide) (by decide) _)]
        show ∃ ds : List Dt, ds.length = 8 ∧ withRedirs (scrF (commandF K)) (match bodyF (commandF K) (wT [100, 111] :: (TT ++ (deepRT 2 ++ X))) with
          | .error e => .error e
          | .ok (b, r2) => .ok (ndR 7 false [] [] [] [] (ndR 1 false [] [wordR [txtP [97]]] [] [] [] [] ++ b) [], r2)) = _
        unfold bodyF
        rw [show needW [100, 111] (wT [100, 111] :: (TT ++ (deepRT 2 ++ X))) = .ok ((), TT ++ (deepRT 2 ++ X)) from rfl]
        dsimp only
        rw [h2]
        exact with_none ht.red _ _ _ _ _ _ _ _
      · by_cases hK : K = 0
        · rw [if_pos hK] at ha
          rw [list_err rfl rfl ha]
          rfl
        · rw [if_neg hK] at ha
          rw [list_one rfl rfl ha rfl (Tail.semi (s := [100, 111]) (by decide) (by decide) (by decide) _)]
          show withRedirs (scrF (commandF K)) (match bodyF (commandF K) (wT [100, 111] :: (TT ++ (deepRT 2 ++ X))) with
            | .error e => .error e
            | .ok (b, r2) => .ok (ndR 7 false [] [] [] [] (ndR 1 false [] [wordR [txtP [97]]] [] [] [] [] ++ b) [], r2)) = _
          unfold bodyF
          rw [show needW [100, 111] (wT [100, 111] :: (TT ++ (deepRT 2 ++ X))) = .ok ((), TT ++ (deepRT 2 ++ X)) from rfl]
          dsimp only
          rw [herr2 h]
          rfl
    | k + 3 =>
      have e2 : innerF (commandF K) (scrF (commandF K)) (deepLT (k + 3) ++ (TT ++ (deepRT (k + 3) ++ X))) = withRedirs (scrF (commandF K)) (choiceF (commandF K) (wT [97] :: oT [59] :: wT [116, 104, 101, 110] :: wT [98] :: oT [59] :: wT [101, 108, 115, 101] :: (TT ++ (deepRT (k + 3) ++ X)))) := rfl
      rw [e2]
      unfold choiceF choiceLoop
      have tb := Tail.semi (s := [101, 108, 115, 101]) (by decide) (by decide) (by decide) (TT ++ (deepRT (k + 3) ++ X))
      have ta := Tail.semi (s := [116, 104, 101, 110]) (by decide) (by decide) (by decide) (wT [98] :: oT [59] :: wT [101, 108, 115, 101] :: (TT ++ (deepRT (k + 3) ++ X)))
      have ha := a_cmd ta K
      have hb2 := b_cmd tb K
      by_cases hK : K = 0
      · refine ⟨fun h => by omega, fun h => ?_⟩
        rw [if_pos hK] at ha
        rw [list_err rfl rfl ha]
        rfl
      · rw [if_neg hK] at ha hb2
        rw [list_one rfl rfl ha rfl ta]
        dsimp only
        rw [show needW [116, 104, 101, 110] (endsF (oT [59] :: wT [116, 104, 101, 110] :: wT [98] :: oT [59] :: wT [101, 108, 115, 101] :: (TT ++ (deepRT (k + 3) ++ X)))).2 = .ok ((), wT [98] :: oT [59] :: wT [101, 108, 115, 101] :: (TT ++ (deepRT (k + 3) ++ X))) from rfl]
        dsimp only
        rw [list_one rfl rfl hb2 rfl tb]
        dsimp only
        rw [show isWF [101, 108, 105, 102] (endsF (oT [59] :: wT [101, 108, 115, 101] :: (TT ++ (deepRT (k + 3) ++ X)))).2 = false from rfl, if_neg (by simp), show isWF [101, 108, 115, 101] (endsF (oT [59] :: wT [101, 108, 115, 101] :: (TT ++ (deepRT (k + 3) ++ X)))).2 = true from rfl, if_pos rfl, show (endsF (oT [59] :: wT [101, 108, 115, 101] :: (TT ++ (deepRT (k + 3) ++ X)))).2.tail = TT ++ (deepRT (k + 3) ++ X) from rfl]
        refine ⟨fun h => ?_, fun h => ?_⟩
        · obtain ⟨ds, h1, h2⟩ := hok2 h
          rw [h2]
          exact with_none ht.red _ _ _ _ _ _ _ _
        · rw [herr2 h]; rfl
/-- How deep commands may stand in each other. -/
theorem deep_parse (k n : Nat) (hn : n ≤ 60) : (39 < n → parseF (deepS k n) = .error 3) ∧ (n ≤ 39 → ∃ ds : List Dt, ds.length = 8 ∧ parseF (deepS k n) = .ok ds) := by
  obtain ⟨hok, herr⟩ := deep_cmd k n 40 [] Tail.nil
  obtain ⟨hl, hb, hbg⟩ := deep_head k n []
  rw [List.append_nil] at *
  have he : (deepT k n).isEmpty = false := by cases h : deepT k n with
    | nil => rw [h] at hbg; cases hbg
    | cons x t => rfl
  unfold parseF scriptF
  rw [deep_tokens k n hn]
  show (_ → treeF (commandF 40) (deepT k n) = _) ∧ (_ → ∃ ds : List Dt, ds.length = 8 ∧ treeF (commandF 40) (deepT k n) = _)
  unfold treeF
  rw [hl, he, if_neg (by simp)]
  refine ⟨fun h => ?_, fun h => ?_⟩
  · rw [all_err hb (herr (by omega))]
  · obtain ⟨ds, h1, h2⟩ := hok (by omega)
    rw [all_one hb h2 h1 Tail.nil]
    refine ⟨ds, h1, ?_⟩
    show Except.ok (seqF ds) = _
    unfold seqF
    rw [if_pos h1]
end Go.Proofs.YtiihpbccabeoeaaDoor
