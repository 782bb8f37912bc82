/-
  The contracts of Swap, of its reference, and of Clone.
-/
import Derived.Test.YtglppnpllpfaeaaSame
import Derived.Test.YtglppnpllpfaeaaShelf
import Derived.Deep.AppendLies
namespace Go.Proofs.Ytglppnpllpfaeaa
open Go.RowKit

/-- One text with another end. -/
def swapB (f t s : ByteArray) : ByteArray := if Lib.hasSuffix s.data.toList f.data.toList = true then s.extract 0 (s.size - f.size) ++ t else s

/-- The cells of the first n texts. -/
def strCells (n : Nat) (z : Nat → ByteArray) : List Value := (List.range n).map fun k => .string (z k)

theorem strCells_length (n : Nat) (z : Nat → ByteArray) : (strCells n z).length = n := by simp [strCells]

theorem strCells_at {n k : Nat} {z : Nat → ByteArray} (h : k < n) : (strCells n z)[k]? = some (.string (z k)) := by
  simp [strCells, h]

theorem strCells_oneCell (n : Nat) (z : Nat → ByteArray) : ∀ u ∈ strCells n z, u.oneCell' = true := by
  intro u hu
  simp only [strCells, List.mem_map] at hu
  obtain ⟨k, _, rfl⟩ := hu
  rfl

theorem strCells_ext {n m : Nat} {z y : Nat → ByteArray} (hn : n = m) (h : ∀ k, k < n → z k = y k) : strCells n z = strCells m y := by
  subst hn
  unfold strCells
  exact List.map_congr_left fun k hk => by rw [h k (List.mem_range.1 hk)]

theorem strCells_snoc (n : Nat) (z : Nat → ByteArray) (x : ByteArray) (h : x = z n) : strCells n z ++ [.string x] = strCells (n + 1) z := by
  rw [h, strCells, strCells, List.range_succ, List.map_append]; rfl

/-- A slice that the call made, of these texts. -/
def RetStrs (n : Nat) (z : Nat → ByteArray) (w : World) (e : Ending) (w' : World) : Prop :=
  ∃ a c, e = .returned (.slice a n c) ∧ Reads w' a n (fun k => .string (z k)) ∧ Below w.heap.size w w'

theorem reads_own {w : World} {B g cap n : Nat} {z : Nat → ByteArray} (h : w.ownsRow B 9 1 (.slice (some ⟨g, 0, none⟩) n cap) n (strCells n z)) : Reads w (some ⟨g, 0, none⟩) n (fun k => .string (z k)) := by
  intro k hk
  have hc := h.cellAt k (by omega)
  rw [strCells_at hk] at hc
  exact ⟨g, 0, rfl, cell_lt hc, by rw [Nat.zero_add]; exact hc⟩

theorem reads_none {w : World} {z : Nat → Value} (a : Option Addr) : Reads w a 0 z := fun k hk => absurd hk (Nat.not_lt_zero k)

/-- Either nothing, or a row at the head of a block of its own. -/
theorem own_forms {w : World} {B n : Nat} {v : Value} {xs : List Value} (h : w.ownsRow B 9 1 v n xs) : (v = .slice none 0 0 ∧ n = 0) ∨ ∃ g cap, v = .slice (some ⟨g, 0, none⟩) n cap :=
  Joins.ownsRow_forms h

def RetOwn (n : Nat) (z : Nat → ByteArray) (w : World) (e : Ending) (w' : World) : Prop :=
  ∃ v, e = .returned v ∧ w'.ownsRow w.heap.size 9 1 v n (strCells n z) ∧ Below w.heap.size w w'

theorem clone_any (a : Option Addr) (n c : Nat) (z : Nat → ByteArray) (w : World) (hn : n ≤ 1000000000) (hr : Reads w a n (fun k => .string (z k))) :
    Calls Try.prog 70 #[.slice a n c] w (RetOwn n z w) := by
  rcases Nat.eq_zero_or_pos n with h0 | h0
  · subst h0
    cases a with
    | none =>
      refine (Try.slices_Clone_string_nil 0 c w).mono ?_
      rintro e w' ⟨rfl, rfl⟩
      exact ⟨_, rfl, World.ownsRow_nil _ _ _ _, Below.refl _ _⟩
    | some a =>
      refine (Try.slices_Clone_string_zero a c w).mono ?_
      rintro e w' ⟨v, rfl, hown, _, hb⟩
      exact ⟨_, rfl, hown, hb⟩
  · obtain ⟨b, off, rfl, _, _⟩ := hr 0 h0
    refine (Try.slices_Clone_string b off n c ((List.range n).map z) w (by simp) (by omega) ?_).mono ?_
    · intro j hj
      simp only [List.length_map, List.length_range] at hj
      obtain ⟨b', off', he, _, hc⟩ := hr j hj
      simp only [Option.some.injEq, Addr.mk.injEq, and_true] at he
      obtain ⟨rfl, rfl⟩ := he
      rw [hc]
      simp [hj]
    · rintro e w' ⟨v, rfl, hown, _, hb⟩
      refine ⟨_, rfl, ?_, hb⟩
      rw [List.take_of_length_le (by simp)] at hown
      simpa [strCells, Function.comp_def] using hown
end Go.Proofs.Ytglppnpllpfaeaa
