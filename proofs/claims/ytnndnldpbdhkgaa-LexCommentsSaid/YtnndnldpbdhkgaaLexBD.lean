/-
  LexBack: plain, and the walk.
-/
import Derived.Test.YtnndnldpbdhkgaaLexBC
import Derived.Test.YtnndnldpbdhkgaaLexPA
namespace Go.Proofs.Ytnndnldpbdhkgaa
open Go.RowKit
set_option linter.unusedVariables false

/-- A small letter. -/
def lowB (c : UInt8) : Bool := decide (97 ≤ c.toNat) && decide (c.toNat ≤ 122)
theorem all_u8 {P : UInt8 → Bool} (h : ∀ n : Fin 256, P (UInt8.ofNat n.val) = true) (c : UInt8) : P c = true := by
  have := h ⟨c.toNat, c.toNat_lt⟩
  simpa using this
/-- With what an operator begins. -/
def opHead (c : UInt8) : Bool := c == 50 || c == 59 || c == 38 || c == 124 || c == 62 || c == 40 || c == 41 || c == 60 || c == 10
theorem operF_nil {c : UInt8} (h : opHead c = false) (t : List UInt8) : operF (c :: t) = [] := by
  unfold operF findF
  rw [List.find?_eq_none.2 (fun o ho => ?_)]
  · rfl
  · simp only [opHead, Bool.or_eq_false_iff] at h
    obtain ⟨⟨⟨⟨⟨⟨⟨⟨h1, h2⟩, h3⟩, h4⟩, h5⟩, h6⟩, h7⟩, h8⟩, h9⟩ := h
    have hc : ∀ a : UInt8, (c == a) = (a == c) := fun a => by rw [Bool.eq_iff_iff, beq_iff_eq, beq_iff_eq]; exact ⟨Eq.symm, Eq.symm⟩
    rw [hc] at h1 h2 h3 h4 h5 h6 h7 h8 h9
    simp only [operL, List.mem_cons, List.not_mem_nil, or_false] at ho
    rcases ho with rfl | rfl | rfl | rfl | rfl | rfl | rfl | rfl | rfl | rfl | rfl | rfl | rfl <;> simp [startsF, *]
theorem low_plain {c : UInt8} (h : lowB c = true) : plainB c = true ∧ breaksB c = false ∧ opHead c = false ∧ (c == 32 || c == 9) = false ∧ (c == 35) = false ∧ (c == 92) = false ∧ (c == 0) = false := by
  have := all_u8 (P := fun c => !lowB c || (plainB c && !breaksB c && !opHead c && !(c == 32 || c == 9) && !(c == 35) && !(c == 92) && !(c == 0))) (by decide +kernel) c
  rw [h] at this
  simpa [and_assoc] using this
theorem skip_stay {c : UInt8} (h1 : (c == 32 || c == 9) = false) (h2 : (c == 35) = false) (h3 : (c == 92) = false) (t : List UInt8) : skipF false (c :: t) = c :: t := by
  rw [skipF_cons, h1, h2, h3]
  simp
theorem tokC_nil : tokC [] = .ok [] := rfl
theorem wordC_all {s : List UInt8} (h : ∀ c ∈ s, lowB c = true) : wordC false s = .ok (s.map fun c => txtP [c], []) := by
  have := wordC_run false s [] (fun c hc => ⟨(low_plain (h c hc)).1, .inr (low_plain (h c hc)).2.1⟩)
  rw [List.append_nil] at this
  rw [this, wordC_nil]
  show Except.ok _ = _
  rw [List.append_nil]
def lowToks (s : List UInt8) : List Tk := match s with | [] => [] | c :: t => [⟨1, [], [txtP (c :: t)]⟩]
theorem tokC_low {s : List UInt8} (h : ∀ c ∈ s, lowB c = true) : tokC s = .ok (lowToks s) := by
  cases s with
  | nil => rfl
  | cons c t =>
    obtain ⟨h1, h2, h3, h4, h5, h6, _⟩ := low_plain (h c (List.mem_cons_self ..))
    rw [tokC_eq, skip_stay h4 h5 h6]
    dsimp only
    rw [tokOne_word (operF_nil h3 t) (by show (c == 38) = false; simp only [opHead, Bool.or_eq_false_iff] at h3; exact h3.1.1.1.1.1.1.2), wordC_all h]
    dsimp only
    rw [tidy_txt]
    rfl
theorem back_nl {s : List UInt8} (h : ∀ c ∈ s, lowB c = true) : tokC (92 :: 10 :: s) = .ok (lowToks s) := by
  have e : skipF false (92 :: 10 :: s) = skipF false s := by
    rw [skipF_cons]; rfl
  rw [tokC_eq, e, ← tokC_low h, tokC_eq]
def backParts (c : UInt8) (s : List UInt8) : List Pt := match s with | [] => [quoP [c]] | x :: t => [quoP [c], txtP (x :: t)]
theorem back_c {c : UInt8} {s : List UInt8} (hc : c ≠ 10) (h : ∀ c ∈ s, lowB c = true) : tokC (92 :: c :: s) = .ok [⟨1, [], backParts c s⟩] := by
  have e : skipF false (92 :: c :: s) = 92 :: c :: s := by
    rw [skipF_cons, if_neg (by decide), if_neg (by decide), if_pos (by decide)]
    dsimp only
    rw [if_neg (by simpa using hc)]
  rw [tokC_eq, e]
  dsimp only
  have e2 : lexC (.one false) 0 (92 :: c :: s) = .ok ([quoP [c]], s) := by
    unfold lexC
    rw [lexD_out, if_neg (by decide), if_neg (by decide), if_pos (by decide)]
    dsimp only
    rw [if_neg (by simpa using hc)]
  rw [tokOne_word (operF_nil (by decide) _) rfl, wordC_cons, if_neg (by decide), e2]
  dsimp only
  rw [wordC_all h]
  cases s with
  | nil => rfl
  | cons x t =>
    show consT ⟨1, [], tidyF (quoP [c] :: (x :: t).map fun c => txtP [c])⟩ (tokC []) = _
    rw [tidy_back]
    rfl
/-- Parts without words in a row. -/
theorem flat_reads {w : World} {D : Nat → Prop} {v : Value} {raw : List Pt} (hown : w.ownsRow 0 39 6 v raw.length (cellsL raw (raw.map fun _ => .slice none 0 0))) (hw : ∀ i (h : i < raw.length), raw[i].word = []) (hD : ∀ g, v.ownBlock = some g → D g) : ∃ n, PtsAt w D n raw v :=
  OwnPts.reads (D := D) ⟨raw.map fun _ => .slice none 0 0, 0, by simp, hown, fun i h h' => by
    rw [hw i h]
    simp only [List.getElem_map]
    exact PtsAt.nil _ _ 0⟩ hD
theorem one_own (w : World) (kd : Nat) (T : ByteArray) (q : Bool) : (w.alloc (.cells #[.int .i64 kd, .string T, .string ⟨#[]⟩, .string ⟨#[]⟩, .slice none 0 0, .bool q] 39)).ownsRow 0 39 6 (.slice (some ⟨w.heap.size, 0, none⟩) 1 1) 1 [.int .i64 kd, .string T, .string ⟨#[]⟩, .string ⟨#[]⟩, .slice none 0 0, .bool q] :=
  World.ownsRow_lit w #[.int .i64 kd, .string T, .string ⟨#[]⟩, .string ⟨#[]⟩, .slice none 0 0, .bool q] 1 (Nat.zero_le _) (by unfold maxLen; omega) rfl
theorem one_reads (w : World) (kd : Nat) (T : ByteArray) (q : Bool) : ∃ n, PtsAt (w.alloc (.cells #[.int .i64 kd, .string T, .string ⟨#[]⟩, .string ⟨#[]⟩, .slice none 0 0, .bool q] 39)) (fun _ => True) n [.mk kd T.data.toList [] [] [] q] (.slice (some ⟨w.heap.size, 0, none⟩) 1 1) := by
  refine flat_reads (raw := [.mk kd T.data.toList [] [] [] q]) ?_ (fun i h => ?_) (fun _ _ => trivial)
  · exact one_own w kd T q
  · obtain rfl : i = 0 := by simp at h; omega
    rfl
theorem may_low {s : List UInt8} (hl : s.length ≤ 16384) (h : ∀ c ∈ s, (c == 0) = false) : mayF s = 0 := by
  unfold mayF
  rw [if_neg (by omega), if_neg]
  intro hc
  rw [List.contains_iff_mem] at hc
  have := h 0 hc
  cases this
end Go.Proofs.Ytnndnldpbdhkgaa
