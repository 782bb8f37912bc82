/-
  The contract of single: what stands in single quotes.
-/
import Derived.Test.YtnndnldpbdhkgaaLexS
namespace Go.Proofs.Ytnndnldpbdhkgaa
open Go.RowKit
set_option linter.unusedVariables false

def UntilS (c : UInt8) (l : List UInt8) : Option Nat → Prop
  | none => ∀ j : Nat, l[j]? ≠ some c
  | some k => k < l.length ∧ l[k]? = some c ∧ ∀ j : Nat, j < k → l[j]? ≠ some c
theorem untilF_spec (c : UInt8) (l : List UInt8) : UntilS c l (untilF c l) := by
  induction l with
  | nil => intro j; simp
  | cons x t ih =>
    unfold untilF
    by_cases h : x = c
    · subst h
      rw [beq_self_eq_true, if_pos rfl]
      exact ⟨by simp, by simp, fun j hj => absurd hj (Nat.not_lt_zero _)⟩
    · rw [beq_eq_false_iff_ne.2 h, if_neg (by simp)]
      cases e : untilF c t with
      | none =>
        rw [e] at ih
        intro j
        cases j with
        | zero => simp [h]
        | succ j => simpa using ih j
      | some k =>
        rw [e] at ih
        obtain ⟨h1, h3, h4⟩ := ih
        refine ⟨by simpa using h1, by simpa using h3, fun j hj => ?_⟩
        cases j with
        | zero => simp [h]
        | succ j => simpa using h4 j (Nat.lt_of_succ_lt_succ hj)
theorem untilF_none {c : UInt8} {l : List UInt8} (h : untilF c l = none) : Lib.indexByte l c = -1 := by
  have hs : UntilS c l none := h ▸ untilF_spec c l
  have hge := Lib.indexByte_ge l c
  by_cases h1 : Lib.indexByte l c = -1
  · exact h1
  · obtain ⟨o, ho⟩ := Int.eq_ofNat_of_zero_le (show 0 ≤ Lib.indexByte l c by omega)
    obtain ⟨a, b⟩ := Lib.indexByte_some ho
    exact absurd a (hs o)
theorem untilF_some {c : UInt8} {l : List UInt8} {k : Nat} (h : untilF c l = some k) : Lib.indexByte l c = k ∧ k < l.length := by
  have hs : UntilS c l (some k) := h ▸ untilF_spec c l
  obtain ⟨h1, h2, h3⟩ := hs
  refine ⟨?_, h1⟩
  have hge := Lib.indexByte_ge l c
  by_cases h4 : Lib.indexByte l c = -1
  · exact absurd h2 (Lib.indexByte_none h4 k)
  · obtain ⟨o, ho⟩ := Int.eq_ofNat_of_zero_le (show 0 ≤ Lib.indexByte l c by omega)
    obtain ⟨a, b⟩ := Lib.indexByte_some ho
    rw [ho]
    rcases Nat.lt_trichotomy o k with x | x | x
    · exact absurd a (h3 o x)
    · rw [x]
    · exact absurd h2 (b k x)

theorem rest_len (s : ByteArray) (i : Nat) : (rest s i).length = s.size - i := by
  unfold rest
  rw [List.length_drop, ← Lib.size_eq]
theorem rest_drop (s : ByteArray) (i k : Nat) : (rest s i).drop k = rest s (i + k) := by
  unfold rest
  rw [List.drop_drop]

theorem scan_end {w : World} {b : Nat} {s : ByteArray} {i d j j' : Int} (h : ScanAt w b s i d) (n : Nat) (hj : j' = j) : ScanAt ((w.drewN n).setCell ⟨b, 1, none⟩ (.int .i64 j)) b s j' d := by
  subst hj
  exact (h.drewN n).set1 _
theorem keep_end (w : World) (n b o : Nat) (v : Value) : Keeps (fun k => k = b) w ((w.drewN n).setCell ⟨b, o, none⟩ v) := ((Keeps.refl _ _).drewN _).setCell _ _ fun _ => rfl
theorem keep_end0 (w : World) (b o : Nat) (v : Value) : Keeps (fun k => k = b) w (w.setCell ⟨b, o, none⟩ v) := (Keeps.refl _ _).setCell _ _ fun _ => rfl
def SingleYes (w : World) (b : Nat) (s : ByteArray) (t : List UInt8) (j d : Int) (e : Ending) (w' : World) : Prop :=
  ∃ r : ByteArray, e = .returned (.string r) ∧ r.data.toList = t ∧ ScanAt w' b s j d ∧ Keeps (fun k => k = b) w w'
def FailPost (w : World) (b x : Nat) (e : Ending) (w' : World) : Prop := e = failed x ∧ Keeps (fun k => k = b) w w'
theorem single_no (b : Nat) (s : ByteArray) (i : Nat) (d : Int) (w : World) (h : ScanAt w b s i d) (hs : s.size ≤ 140737488351232) (hi : i ≤ s.size) (hn : untilF 39 (rest s i) = none) :
    Calls Try.prog 53 #[.pointer (some ⟨b, 0, none⟩)] w (FailPost w b 2) := by
  obtain ⟨c0, c1, c2, f1, f2⟩ := h.cells
  have hn2 := untilF_none hn
  rw [← rest_take] at hn2
  clear hn
  go_enter Try.func53, Try.ntmps53
  go_wp2_with fail
  go_quiet ((go_at_call 39; exact Calls.quiet_of_same (Try.strings_IndexByte _ _ _)))
  go_wp2_with fail
  refine (fail_any 2 _).mono ?_
  rintro e w1 ⟨rfl, rfl⟩
  go_wp2_with fail
  exact ⟨rfl, rfl, (Keeps.refl _ _).drewN _⟩
theorem single_yes (b : Nat) (s : ByteArray) (i k : Nat) (d : Int) (w : World) (h : ScanAt w b s i d) (hs : s.size ≤ 140737488351232) (hi : i ≤ s.size) (hn : untilF 39 (rest s i) = some k) :
    Calls Try.prog 53 #[.pointer (some ⟨b, 0, none⟩)] w (SingleYes w b s ((rest s i).take k) ((i + (k + 1) : Nat) : Int) d) := by
  obtain ⟨c0, c1, c2, f1, f2⟩ := h.cells
  obtain ⟨hn2, hk⟩ := untilF_some hn
  rw [rest_len] at hk
  rw [← rest_take] at hn2
  clear hn
  have e1 : IntKind.i64.wrap ((i : Int) + (k : Int)) = (i : Int) + (k : Int) := IntWalk.i64_in _ (by omega)
  have e2 : ((i : Int) + (k : Int)).toNat = i + k := by omega
  have p1 : 0 ≤ (i : Int) + (k : Int) := by omega
  have p2 : (i : Int) + (k : Int) ≤ (s.size : Int) := by omega
  have p3 : (i : Int) ≤ (i : Int) + (k : Int) := by omega
  go_enter Try.func53, Try.ntmps53
  go_wp2_with fail
  go_quiet ((go_at_call 39; exact Calls.quiet_of_same (Try.strings_IndexByte _ _ _)))
  go_wp2_with fail
  go_quiet (fail)
  go_wp2_with fail
  go_ret
  refine ⟨_, rfl, ?_, ?_, ?_⟩
  · rw [Lib.extract_data]
    unfold rest
    congr 1
    omega
  · exact scan_end h _ (by omega)
  · exact keep_end _ _ _ _ _
end Go.Proofs.Ytnndnldpbdhkgaa
