/-
  The law TopNames: three tables of pairs, each pair of two equal numbers.
-/
import Derived.Test.YtnndnldpbdhkgaaProg
import Derived.WalkKit
import Derived.WalkSpells
import Derived.WalkLawsBesides
import Derived.ProofKit
import Derived.Lib.Hide
import Derived.Below
import Derived.Lib.SmallJoins
import Derived.Deep.QuietTactic
import Derived.BigQuiet
namespace Go.Proofs.Ytnndnldpbdhkgaa
open Go.RowKit Go.Joins

theorem are_any (b n : Nat) (c : Nat) (w : World) (hn : n ≤ 100)
    (hc : ∀ i, i < n → ∃ z, w.cell? ⟨b, i * 2, none⟩ = some (.int .i64 z) ∧ w.cell? ⟨b, i * 2 + 1, none⟩ = some (.int .i64 z)) :
    Calls Try.prog 34 #[.slice (some ⟨b, 0, none⟩) n c] w fun e w' => e = .returned (.bool true) ∧ ∃ q, w' = w.drewN q := by
  have HC := Lib.hid hc; clear hc
  go_enter Try.func34, Try.ntmps34
  go_wp2_with fail
  go_loopw [3] (fun i wr => ∃ k q : Nat, k ≤ n ∧ i = .int .i64 k ∧ wr = w.drewN q) (fun i _ => n - (intOf i).toNat)
  case atStart => exact ⟨0, 0, Nat.zero_le _, rfl, rfl⟩
  case round =>
    obtain ⟨k, q, hk, rfl, rfl⟩ := hrel
    by_cases hlt : k < n
    · obtain ⟨z, h0, h1⟩ := HC.out k hlt
      have c64 : Try.prog.cellsOf 64 = 2 := by kernel_rfl
      go_wp2
      go_quiet (fail)
      go_wp2
      go_roundw
      case rel => exact ⟨k + 1, _, by omega, by go_num, rfl⟩
      case measure => simp [intOf]; omega
    · go_wp2
      go_ret
      exact ⟨rfl, _, rfl⟩

def pairB (cs : Array Value) (n : Nat) : Bool :=
  (List.range n).all fun i => match cs[i * 2]?, cs[i * 2 + 1]? with
    | some (.int .i64 z), some (.int .i64 y) => decide (z = y)
    | _, _ => false

theorem pairs_alloc (cs : Array Value) (n : Nat) (t : TypeId) (w : World) (h : pairB cs n = true) :
    ∀ i, i < n → ∃ z, (w.alloc (.cells cs t)).cell? ⟨w.heap.size, i * 2, none⟩ = some (.int .i64 z) ∧ (w.alloc (.cells cs t)).cell? ⟨w.heap.size, i * 2 + 1, none⟩ = some (.int .i64 z) := by
  intro i hi
  have h1 := List.all_eq_true.1 h i (List.mem_range.2 hi)
  have hs : (w.alloc (.cells cs t)).heap[w.heap.size]? = some (.cells cs t (0, 0)) := by
    show (w.heap.push _)[w.heap.size]? = _
    rw [Array.getElem?_push_size]
  have g : ∀ j, (w.alloc (.cells cs t)).cell? ⟨w.heap.size, j, none⟩ = cs[j]? := fun j => by
    simp only [World.cell?, hs]; rfl
  rw [g, g]
  revert h1
  cases h2 : cs[i * 2]? with
  | none => simp
  | some v =>
    cases h3 : cs[i * 2 + 1]? with
    | none => cases v <;> simp
    | some y =>
      intro h1
      split at h1
      · rename_i z z' e1 e2
        simp at h1; subst h1
        exact ⟨_, e1, e2⟩
      · cases h1

theorem first_any (w : World) : Calls Try.prog 19 #[] w fun e w' => e = .returned (.bool true) ∧ Below w.heap.size w w' := by
  go_enter Try.func19, Try.ntmps19
  go_wp2_with fail
  refine (are_any _ _ _ _ (by omega) (pairs_alloc _ 17 _ _ (by decide +kernel))).mono ?_
  rintro e w1 ⟨rfl, q, rfl⟩
  go_wp2
  go_ret
  exact ⟨rfl, below_drewN (below_alloc1 _ _) _⟩
theorem second_any (w : World) : Calls Try.prog 20 #[] w fun e w' => e = .returned (.bool true) ∧ Below w.heap.size w w' := by
  go_enter Try.func20, Try.ntmps20
  go_wp2_with fail
  refine (are_any _ _ _ _ (by omega) (pairs_alloc _ 17 _ _ (by decide +kernel))).mono ?_
  rintro e w1 ⟨rfl, q, rfl⟩
  go_wp2
  go_ret
  exact ⟨rfl, below_drewN (below_alloc1 _ _) _⟩
theorem third_any (w : World) : Calls Try.prog 21 #[] w fun e w' => e = .returned (.bool true) ∧ Below w.heap.size w w' := by
  go_enter Try.func21, Try.ntmps21
  go_wp2_with fail
  refine (are_any _ _ _ _ (by omega) (pairs_alloc _ 15 _ _ (by decide +kernel))).mono ?_
  rintro e w1 ⟨rfl, q, rfl⟩
  go_wp2
  go_ret
  exact ⟨rfl, below_drewN (below_alloc1 _ _) _⟩
theorem topNames_walk (w : World) (_ : w.ShapedOpen Try.prog) :
    Calls Try.prog 6 #[] w fun e w' => e = .returned (.bool true) ∧ Below w.heap.size w w' := by
  go_enter Try.func6, Try.ntmps6
  go_wp2_with (first
    | (go_at_call 19; refine (first_any _).mono ?_; rintro e w1 ⟨rfl, hb⟩; have HB := Lib.hid hb; clear hb)
    | (go_at_call 20; refine (second_any _).mono ?_; rintro e w2 ⟨rfl, hb⟩; replace HB := Lib.hid (HB.out.trans (hb.mono HB.out.size)); clear hb)
    | (go_at_call 21; refine (third_any _).mono ?_; rintro e w3 ⟨rfl, hb⟩; replace HB := Lib.hid (HB.out.trans (hb.mono HB.out.size)); clear hb))
  go_ret
  exact ⟨rfl, HB.out⟩
end Go.Proofs.Ytnndnldpbdhkgaa
