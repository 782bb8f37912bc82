/-
  Word, whole.
-/
import Derived.Test.YtnndnldpbdhkgaaLexAG
namespace Go.Proofs.Ytnndnldpbdhkgaa
open Go.RowKit
set_option linter.unusedVariables false

theorem rest0 (s : ByteArray) : rest s 0 = s.data.toList := List.drop_zero
theorem word_any (s : ByteArray) (w : World) (hs : s.size ≤ 140737488351232) : Calls Try.prog 22 #[.string s] w (WordPost w (wholeF s.data.toList)) := by
  unfold wholeF
  by_cases h : mayF s.data.toList = 0
  · rw [if_pos h]
    have hl : s.size ≤ 16384 := by
      unfold mayF at h
      rw [← Lib.size_eq] at h
      split at h
      · cases h
      · omega
    have := word_rest s w (by omega) h
    rw [rest0, Lib.size_eq] at this
    exact this
  · rw [if_neg h]
    exact word_long s w hs _ rfl h
end Go.Proofs.Ytnndnldpbdhkgaa
