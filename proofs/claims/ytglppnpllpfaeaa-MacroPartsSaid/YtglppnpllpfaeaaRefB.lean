/-
  The contract of the reference's At: where a byte is first.
-/
import Derived.Test.YtglppnpllpfaeaaRefA
namespace Go.Proofs.Ytglppnpllpfaeaa
open Go.RowKit

/-- The loop of At, from k on: the place as the loop knows it. -/
theorem indexByte_from (l : List UInt8) (c : UInt8) (k : Nat) (h : ∀ j, j < k → l[j]? ≠ some c) (hk : k < l.length) (hc : l[k] = c) : Lib.indexByte l c = k := by
  have hge := Lib.indexByte_ge l c
  by_cases h1 : Lib.indexByte l c = -1
  · exact absurd (by rw [List.getElem?_eq_getElem hk, hc]) (Lib.indexByte_none h1 k)
  · obtain ⟨o, ho⟩ := Int.eq_ofNat_of_zero_le (show 0 ≤ Lib.indexByte l c by omega)
    obtain ⟨a, b⟩ := Lib.indexByte_some ho
    rw [ho]
    rcases Nat.lt_trichotomy o k with x | x | x
    · exact absurd a (h o x)
    · rw [x]
    · exact absurd (by rw [List.getElem?_eq_getElem hk, hc]) (b k x)

theorem indexByte_nowhere (l : List UInt8) (c : UInt8) (h : ∀ j, j < l.length → l[j]? ≠ some c) : Lib.indexByte l c = -1 := by
  have hge := Lib.indexByte_ge l c
  by_cases h1 : Lib.indexByte l c = -1
  · exact h1
  · obtain ⟨o, ho⟩ := Int.eq_ofNat_of_zero_le (show 0 ≤ Lib.indexByte l c by omega)
    obtain ⟨a, b⟩ := Lib.indexByte_some ho
    have : o < l.length := by
      rcases Nat.lt_or_ge o l.length with x | x
      · exact x
      · rw [List.getElem?_eq_none x] at a; cases a
    exact absurd a (h o this)

theorem ret_int {k : IntKind} {a b : Int} (h : b = a) : Ending.returned (.int k a) = .returned (.int k b) := by rw [h]

theorem byte_yes {a b : UInt8} (h : ((a.toNat : Int) == (b.toNat : Int)) = true) : a = b := by
  have h' : (a.toNat : Int) = (b.toNat : Int) := beq_iff_eq.1 h
  exact UInt8.toNat.inj (by omega)

theorem byte_no {a b : UInt8} (h : ((a.toNat : Int) == (b.toNat : Int)) = false) : a ≠ b := by
  intro e
  rw [e] at h
  simp at h

theorem not_yet {s : ByteArray} {c : UInt8} {k : Nat} (h : ∀ j, j < k → s.data.toList[j]? ≠ some c) (hk : k < s.size) (hc : s[k] ≠ c) : ∀ j, j < k + 1 → s.data.toList[j]? ≠ some c := by
  intro j hj
  by_cases e : j = k
  · subst e
    have hl : j < s.data.toList.length := by rw [← Lib.size_eq]; exact hk
    rw [List.getElem?_eq_getElem hl]
    intro x
    exact hc (Option.some.inj x)
  · exact h j (by omega)

set_option maxHeartbeats 400000 in
theorem at_any (s : ByteArray) (c : UInt8) (w : World) (hs : s.size ≤ 9223372036854775807) :
    Calls Try.prog 39 #[.string s, .int .u8 (c.toNat : Int)] w fun e w' => e = .returned (.int .i64 (Lib.indexByte s.data.toList c)) ∧ w = w' := by
  go_enter Try.func39, Try.ntmps39
  go_wp2
  go_loop [5] (fun i => ∃ k : Nat, k ≤ s.size ∧ i = .int .i64 k ∧ ∀ j, j < k → s.data.toList[j]? ≠ some c) (fun i => s.size - (intOf i).toNat)
  case atStart => exact ⟨0, Nat.zero_le _, rfl, fun j hj => absurd hj (Nat.not_lt_zero j)⟩
  case round =>
    obtain ⟨k, hk, rfl, hno⟩ := hrel
    have HN := Lib.hid hno; clear hno
    by_cases hlt : k < s.size
    · go_wp2
      · have h : ((s[k].toNat : Int) == (c.toNat : Int)) = true := by assumption
        go_ret
        exact ⟨ret_int (indexByte_from _ _ k HN.out (by rw [← Lib.size_eq]; exact hlt) (byte_yes h)), rfl⟩
      · have h : ((s[k].toNat : Int) == (c.toNat : Int)) = false := by assumption
        go_round
        case rel => exact ⟨k + 1, by omega, by go_num, not_yet HN.out hlt (byte_no h)⟩
        case measure => simp [intOf]; omega
    · go_wp2
      go_ret
      exact ⟨ret_int (indexByte_nowhere _ _ (by rw [← Lib.size_eq]; obtain rfl : k = s.size := by omega
                                                exact HN.out)), rfl⟩
end Go.Proofs.Ytglppnpllpfaeaa
