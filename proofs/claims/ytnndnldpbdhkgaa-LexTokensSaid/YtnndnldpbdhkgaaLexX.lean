/-
  The contract of sub: a script, up to what closes it.
-/
import Derived.Test.YtnndnldpbdhkgaaLexW
namespace Go.Proofs.Ytnndnldpbdhkgaa
open Go.RowKit
set_option linter.unusedVariables false

theorem sub_q1 : ∀ (o : Nat) (l : List UInt8), subF .q1 o l = (passQ 39 false l).bind fun k => (subF .n o (l.drop k)).map (· + k)
  | _, [] => rfl
  | o, c :: t => by
    rw [subF, passQ]
    by_cases h : (c == 39) = true
    · rw [h]; simp
    · have h' : (c == 39) = false := by simpa using h
      rw [h']
      have h2 : (c == 92 && (39 : UInt8) == 34) = false := by rw [show ((39 : UInt8) == 34) = false by decide]; simp
      rw [h2, if_neg (by simp), if_neg (by simp), sub_q1 o t]
      cases passQ 39 false t with
      | none => rfl
      | some k =>
        simp only [Option.bind_some, Option.map_some]
        rw [List.drop_succ_cons]
        cases subF .n o (t.drop k) with
        | none => rfl
        | some m => simp; omega
mutual
theorem sub_q2 : ∀ (o : Nat) (l : List UInt8), subF .q2 o l = (passQ 34 false l).bind fun k => (subF .n o (l.drop k)).map (· + k)
  | _, [] => rfl
  | o, c :: t => by
    rw [subF, passQ]
    by_cases h : (c == 34) = true
    · rw [h]; simp
    · have h' : (c == 34) = false := by simpa using h
      rw [h', show ((34 : UInt8) == 34) = true from rfl, Bool.and_true]
      by_cases h2 : (c == 92) = true
      · rw [h2]
        show (subF .bq o t).map _ = ((passQ 34 true t).map _).bind _
        rw [sub_bq o t]
        cases passQ 34 true t with
        | none => rfl
        | some k =>
          simp only [Option.bind_some, Option.map_some]
          rw [List.drop_succ_cons]
          cases subF .n o (t.drop k) with
          | none => rfl
          | some m => simp; omega
      · have h2' : (c == 92) = false := by simpa using h2
        rw [h2']
        show (subF .q2 o t).map _ = ((passQ 34 false t).map _).bind _
        rw [sub_q2 o t]
        cases passQ 34 false t with
        | none => rfl
        | some k =>
          simp only [Option.bind_some, Option.map_some]
          rw [List.drop_succ_cons]
          cases subF .n o (t.drop k) with
          | none => rfl
          | some m => simp; omega
theorem sub_bq : ∀ (o : Nat) (l : List UInt8), subF .bq o l = (passQ 34 true l).bind fun k => (subF .n o (l.drop k)).map (· + k)
  | _, [] => rfl
  | o, c :: t => by
    rw [subF, passQ, sub_q2 o t]
    cases passQ 34 false t with
    | none => rfl
    | some k =>
      simp only [Option.bind_some, Option.map_some]
      rw [List.drop_succ_cons]
      cases subF .n o (t.drop k) with
      | none => rfl
      | some m => simp; omega
end

/-- How far the script has come. -/
def SubAt (s : ByteArray) (i o I : Nat) : Prop := i ≤ I ∧ subF .n 0 (rest s i) = (subF .n o (rest s I)).map (· + (I - i))
theorem SubAt.start (s : ByteArray) (i : Nat) : SubAt s i 0 i := ⟨Nat.le_refl _, by rw [Nat.sub_self]; cases subF .n 0 (rest s i) <;> rfl⟩
theorem SubAt.on {s : ByteArray} {i o o' I k : Nat} (h : SubAt s i o I) (hs : subF .n o (rest s I) = (subF .n o' (rest s (I + k))).map (· + k)) : SubAt s i o' (I + k) := by
  refine ⟨by have := h.1; omega, ?_⟩
  rw [h.2, hs]
  have := h.1
  cases subF .n o' (rest s (I + k)) with
  | none => rfl
  | some m => simp; omega
theorem SubAt.over {s : ByteArray} {i o I : Nat} (h : SubAt s i o I) (hI : s.size ≤ I) : subF .n 0 (rest s i) = none := by
  rw [h.2, rest_nil hI]; rfl
theorem SubAt.stop {s : ByteArray} {i I : Nat} (h : SubAt s i 0 I) (hI : I < s.size) (hc : byteAt s I = 41) : subF .n 0 (rest s i) = some (I - i) := by
  rw [h.2, rest_cons hI, hc]
  have e : subF .n 0 (41 :: rest s (I + 1)) = some 0 := rfl
  rw [e]
  simp
theorem sub_else {o : Nat} {c : UInt8} {t : List UInt8} (h1 : (c == 39) = false) (h2 : (c == 34) = false) (h3 : (c == 92) = false) (h4 : (c == 40) = false) (h5 : (c == 41) = false) : subF .n o (c :: t) = (subF .n o t).map (· + 1) := by
  rw [subF, h1, h2, h3, h4, h5]; rfl
theorem sub_back {o : Nat} {s : ByteArray} {I : Nat} (hI : I < s.size) (hc : byteAt s I = 92) : subF .n o (rest s I) = (subF .n o (rest s (I + 2))).map (· + 2) := by
  rw [rest_cons hI, hc]
  have e : subF .n o (92 :: rest s (I + 1)) = (subF .bn o (rest s (I + 1))).map (· + 1) := rfl
  rw [e]
  rcases Nat.lt_or_ge (I + 1) s.size with hl | hl
  · rw [rest_cons hl, subF]
    cases subF .n o (rest s (I + 1 + 1)) with
    | none => rfl
    | some k => rfl
  · rw [rest_nil hl, rest_nil (by omega : s.size ≤ I + 2)]; rfl
theorem sub_quote1 {o : Nat} {s : ByteArray} {I : Nat} (hI : I < s.size) (hc : byteAt s I = 39) : subF .n o (rest s I) = (passQ 39 false (rest s (I + 1))).bind fun k => (subF .n o (rest s (I + (k + 1)))).map (· + (k + 1)) := by
  rw [rest_cons hI, hc]
  have e : subF .n o (39 :: rest s (I + 1)) = (subF .q1 o (rest s (I + 1))).map (· + 1) := rfl
  rw [e, sub_q1]
  cases passQ 39 false (rest s (I + 1)) with
  | none => rfl
  | some k =>
    simp only [Option.bind_some]
    rw [rest_drop, show I + 1 + k = I + (k + 1) by omega]
    cases subF .n o (rest s (I + (k + 1))) with
    | none => rfl
    | some m => simp; omega
theorem sub_quote2 {o : Nat} {s : ByteArray} {I : Nat} (hI : I < s.size) (hc : byteAt s I = 34) : subF .n o (rest s I) = (passQ 34 false (rest s (I + 1))).bind fun k => (subF .n o (rest s (I + (k + 1)))).map (· + (k + 1)) := by
  rw [rest_cons hI, hc]
  have e : subF .n o (34 :: rest s (I + 1)) = (subF .q2 o (rest s (I + 1))).map (· + 1) := rfl
  rw [e, sub_q2]
  cases passQ 34 false (rest s (I + 1)) with
  | none => rfl
  | some k =>
    simp only [Option.bind_some]
    rw [rest_drop, show I + 1 + k = I + (k + 1) by omega]
    cases subF .n o (rest s (I + (k + 1))) with
    | none => rfl
    | some m => simp; omega
end Go.Proofs.Ytnndnldpbdhkgaa
