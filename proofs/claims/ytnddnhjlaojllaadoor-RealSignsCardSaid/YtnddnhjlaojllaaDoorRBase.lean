/-
  The contracts of the reference's small functions on texts: Begins, At; small words.
-/
import Derived.Test.YtnddnhjlaojllaaDoorProg
import Derived.WalkKit
import Derived.WalkSpells
import Derived.WalkLawsBesides
import Derived.Lib.Strings
import Derived.Lib.Bytealg
import Derived.Lib.IndexLaws
import Derived.Lib.Hide
import Derived.Outline
import Derived.Deep.QuietTactic
import Derived.BigQuiet
namespace Go.Proofs.YtnddnhjlaojllaaDoor
open Go.RowKit

set_option maxHeartbeats 400000 in
theorem begins_any (s p : ByteArray) (w : World) :
    Calls Tryd.prog 20 #[.string s, .string p] w fun e w' => e = .returned (.bool (Lib.hasPrefix s.data.toList p.data.toList)) ∧ w = w' := by
  rw [← Lib.hasPrefix_of_take, ← Lib.size_eq, ← Lib.size_eq]
  go_enter Tryd.func20, Tryd.ntmps20
  go_wp2
  · rename_i h
    go_ret
    refine ⟨?_, rfl⟩
    show Ending.returned (Value.bool ((s.extract 0 p.size).toList == p.toList)) = _
    rw [Lib.extract_toList, Lib.toList_data]
    simp [h]
  · rename_i h
    go_ret
    refine ⟨?_, rfl⟩
    show Ending.returned (Value.bool false) = _
    simp [h]
/-- The loop of At, from k on: the place as the loop knows it. -/
theorem indexByte_from (l : List UInt8) (c : UInt8) (k : Nat) (h : ∀ j, j < k → l[j]? ≠ some c) (hk : k < l.length) (hc : l[k] = c) : Lib.indexByte l c = k := by
  have hge := Lib.indexByte_ge l c
  by_cases h1 : Lib.indexByte l c = -1
  · exact absurd (by rw [List.getElem?_eq_getElem hk, hc]) (Lib.indexByte_none h1 k)
  · obtain ⟨o, ho⟩ := Int.eq_ofNat_of_zero_le (show 0 ≤ Lib.indexByte l c by omega)
    obtain ⟨a, b⟩ := Lib.indexByte_some ho
    rw [ho]
    rcases Nat.lt_trichotomy o k with x | x | x
    · exact absurd a (h o x)
    · rw [x]
    · exact absurd (by rw [List.getElem?_eq_getElem hk, hc]) (b k x)

theorem indexByte_nowhere (l : List UInt8) (c : UInt8) (h : ∀ j, j < l.length → l[j]? ≠ some c) : Lib.indexByte l c = -1 := by
  have hge := Lib.indexByte_ge l c
  by_cases h1 : Lib.indexByte l c = -1
  · exact h1
  · obtain ⟨o, ho⟩ := Int.eq_ofNat_of_zero_le (show 0 ≤ Lib.indexByte l c by omega)
    obtain ⟨a, b⟩ := Lib.indexByte_some ho
    have : o < l.length := by
      rcases Nat.lt_or_ge o l.length with x | x
      · exact x
      · rw [List.getElem?_eq_none x] at a; cases a
    exact absurd a (h o this)

theorem ret_int {k : IntKind} {a b : Int} (h : b = a) : Ending.returned (.int k a) = .returned (.int k b) := by rw [h]

theorem byte_yes {a b : UInt8} (h : ((a.toNat : Int) == (b.toNat : Int)) = true) : a = b := by
  have h' : (a.toNat : Int) = (b.toNat : Int) := beq_iff_eq.1 h
  exact UInt8.toNat.inj (by omega)

theorem byte_no {a b : UInt8} (h : ((a.toNat : Int) == (b.toNat : Int)) = false) : a ≠ b := by
  intro e
  rw [e] at h
  simp at h

theorem not_yet {s : ByteArray} {c : UInt8} {k : Nat} (h : ∀ j, j < k → s.data.toList[j]? ≠ some c) (hk : k < s.size) (hc : s[k] ≠ c) : ∀ j, j < k + 1 → s.data.toList[j]? ≠ some c := by
  intro j hj
  by_cases e : j = k
  · subst e
    have hl : j < s.data.toList.length := by rw [← Lib.size_eq]; exact hk
    rw [List.getElem?_eq_getElem hl]
    intro x
    exact hc (Option.some.inj x)
  · exact h j (by omega)

theorem ret_str {a b : ByteArray} (h : a.data.toList = b.data.toList) : Ending.returned (.string a) = .returned (.string b) := by
  rw [← Lib.mk_data a, h, Lib.mk_data b]

theorem ret_bool {a b : Bool} (h : a = b) : Ending.returned (.bool a) = .returned (.bool b) := by rw [h]

theorem ret_sb {a c : ByteArray} {b d : Bool} (h : a.data.toList = c.data.toList) (h2 : b = d) : Ending.returned (.tuple #[.string a, .bool b]) = .returned (.tuple #[.string c, .bool d]) := by
  rw [← Lib.mk_data a, h, Lib.mk_data c, h2]

theorem ba_ext {a b : ByteArray} (h : a.data.toList = b.data.toList) : a = b := by rw [← Lib.mk_data a, h, Lib.mk_data b]

theorem drewN_below (w : World) (n : Nat) : Below w.heap.size w (w.drewN n) := by
  induction n with
  | zero => exact Below.refl _ _
  | succ n ih => exact ih.drew

end Go.Proofs.YtnddnhjlaojllaaDoor
