/-
  The contracts of Suffix and of its reference.
-/
import Derived.Test.YteglipnoifaaaaaStemA
import Derived.Test.YteglipnoifaaaaaSlices
namespace Go.Proofs.Yteglipnoifaaaaa
open Go.RowKit

/-- One element more. -/
def sufStep (s best x : ByteArray) : ByteArray := if best.size < x.size ∧ x.size < s.size ∧ Lib.hasSuffix s.data.toList x.data.toList = true then x else best

/-- The longest so far, of the first k. -/
def sufB (s : ByteArray) (z : Nat → ByteArray) : Nat → ByteArray
  | 0 => ByteArray.empty
  | k + 1 => sufStep s (sufB s z k) (z k)

theorem sufB_size (s : ByteArray) (z : Nat → ByteArray) (k : Nat) : (sufB s z k).size ≤ s.size := by
  induction k with
  | zero => exact Nat.zero_le _
  | succ k ih =>
    show (sufStep s (sufB s z k) (z k)).size ≤ _
    unfold sufStep
    split <;> omega

def RetSuf (w : World) (b : ByteArray) (e : Ending) (w' : World) : Prop := e = .returned (.tuple #[.string b, .bool (!b.toList.isEmpty)]) ∧ w = w'

set_option maxHeartbeats 400000 in
theorem suffix_any (s : ByteArray) (a : Option Addr) (n c : Nat) (z : Nat → ByteArray) (w : World) (hs : s.size ≤ 9223372036854775807) (hn : n ≤ 1000000000) (hz : ∀ k, (z k).size ≤ 9223372036854775807) (hr : Reads w a n (fun k => .string (z k))) :
    Calls Try.prog 8 #[.string s, .slice a n c] w (RetSuf w (sufB s z n)) := by
  have HZ := Lib.hid hz; clear hz
  go_enter Try.func8, Try.ntmps8
  go_wp2
  go_loop [6, 11] (fun b i => ∃ k : Nat, k ≤ n ∧ i = .int .i64 k ∧ b = .string (sufB s z k)) (fun _ i => n - (intOf i).toNat)
  case atStart => exact ⟨0, Nat.zero_le _, rfl, rfl⟩
  case round =>
    obtain ⟨k, hk, rfl, rfl⟩ := hrel
    have hbs := sufB_size s z k
    by_cases hlt : k < n
    · obtain ⟨b, off, rfl, _, hc0⟩ := hr k hlt
      have hx := HZ.out k
      obtain ⟨x, hxe⟩ : ∃ x, x = z k := ⟨_, rfl⟩
      have hc : w.cell? ⟨b, off + k, none⟩ = some (.string x) := by rw [hxe]; exact hc0
      rw [← hxe] at hx
      clear hc0
      obtain ⟨y, hye⟩ : ∃ y, y = sufB s z k := ⟨_, rfl⟩
      have HX := Lib.hid hxe; have HY := Lib.hid hye
      rw [← hye] at hbs ⊢
      clear hxe hye
      have hstep : sufB s z (k + 1) = sufStep s y x := by rw [HX.out, HY.out]; rfl
      have HS := Lib.hid hstep; clear hstep
      go_wp2_with (go_at_call 20; refine (Try.strings_HasSuffix _ _ _ hs).mono ?_; rintro e w' ⟨rfl, rfl⟩)
      all_goals
        go_round
        case rel => exact ⟨k + 1, by omega, by go_num, congrArg Value.string (by rw [HS.out, sufStep]; first | (rw [if_pos ⟨by assumption, by assumption, by assumption⟩]) | (rw [if_neg (by rintro ⟨h1, h2, h3⟩; first | omega | simp_all)]))⟩
        case measure => simp [intOf]; omega
    · go_wp2
      obtain rfl : k = n := by omega
      go_ret2
      exact ⟨rfl, rfl⟩

set_option maxHeartbeats 400000 in
theorem refSuffix_any (s : ByteArray) (a : Option Addr) (n c : Nat) (z : Nat → ByteArray) (w : World) (hs : s.size ≤ 9223372036854775807) (hn : n ≤ 1000000000) (hz : ∀ k, (z k).size ≤ 9223372036854775807) (hr : Reads w a n (fun k => .string (z k))) :
    Calls Try.prog 9 #[.string s, .slice a n c] w (RetSuf w (sufB s z n)) := by
  have HZ := Lib.hid hz; clear hz
  go_enter Try.func9, Try.ntmps9
  go_wp2
  go_loop [6, 7] (fun b i => ∃ k : Nat, k ≤ n ∧ i = .int .i64 k ∧ b = .string (sufB s z k)) (fun _ i => n - (intOf i).toNat)
  case atStart => exact ⟨0, Nat.zero_le _, rfl, rfl⟩
  case round =>
    obtain ⟨k, hk, rfl, rfl⟩ := hrel
    have hbs := sufB_size s z k
    by_cases hlt : k < n
    · obtain ⟨b, off, rfl, _, hc0⟩ := hr k hlt
      have hx := HZ.out k
      obtain ⟨x, hxe⟩ : ∃ x, x = z k := ⟨_, rfl⟩
      have hc : w.cell? ⟨b, off + k, none⟩ = some (.string x) := by rw [hxe]; exact hc0
      rw [← hxe] at hx
      clear hc0
      obtain ⟨y, hye⟩ : ∃ y, y = sufB s z k := ⟨_, rfl⟩
      have HX := Lib.hid hxe; have HY := Lib.hid hye
      rw [← hye] at hbs ⊢
      clear hxe hye
      have hstep : sufB s z (k + 1) = sufStep s y x := by rw [HX.out, HY.out]; rfl
      have HS := Lib.hid hstep; clear hstep
      go_wp2_with (go_at_call 10; refine (ends_any _ _ _ hs).mono ?_; rintro e w' ⟨rfl, rfl⟩)
      all_goals
        go_round
        case rel => exact ⟨k + 1, by omega, by go_num, congrArg Value.string (by rw [HS.out, sufStep]; first | (rw [if_pos ⟨by assumption, by assumption, by assumption⟩]) | (rw [if_neg (by rintro ⟨h1, h2, h3⟩; first | omega | simp_all)]))⟩
        case measure => simp [intOf]; omega
    · go_wp2
      obtain rfl : k = n := by omega
      go_ret2
      exact ⟨rfl, rfl⟩

/-! ### The plain law -/

theorem sufB_max (s : ByteArray) (z : Nat → ByteArray) (n k : Nat) (hk : k < n) (h0 : (z k).size < s.size) (h1 : Lib.hasSuffix s.data.toList (z k).data.toList = true) : (z k).size ≤ (sufB s z n).size := by
  induction n with
  | zero => omega
  | succ n ih =>
    show _ ≤ (sufStep s (sufB s z n) (z n)).size
    by_cases e : k = n
    · subst e
      unfold sufStep
      split
      · exact Nat.le_refl _
      · rename_i h
        have : ¬ (sufB s z k).size < (z k).size := fun x => h ⟨x, h0, h1⟩
        omega
    · have := ih (by omega)
      unfold sufStep
      split <;> omega

theorem sufB_fits (s : ByteArray) (z : Nat → ByteArray) (n : Nat) : sufB s z n = ByteArray.empty ∨ (Lib.hasSuffix s.data.toList (sufB s z n).data.toList = true ∧ (sufB s z n).size < s.size) := by
  induction n with
  | zero => exact Or.inl rfl
  | succ n ih =>
    show sufStep s (sufB s z n) (z n) = _ ∨ (Lib.hasSuffix _ (sufStep s (sufB s z n) (z n)).data.toList = true ∧ (sufStep s (sufB s z n) (z n)).size < _)
    unfold sufStep
    split
    · rename_i h; exact Or.inr ⟨h.2.2, h.2.1⟩
    · exact ih

end Go.Proofs.Yteglipnoifaaaaa
