/-
  The walk of the law RealOps.
-/
import Derived.Test.YtnddnhjlaojllaaDoorRealI
namespace Go.Proofs.YtnddnhjlaojllaaDoor
open Go.RowKit

theorem u64_nat {a : Int} (h : (Lit.int .u64 a).wf = true) : ∃ n : Nat, a = n ∧ n < 18446744073709551616 := by
  have h2 : 0 ≤ a ∧ a ≤ 18446744073709551615 := by
    simp [Lit.wf, IntKind.min, IntKind.max, IntKind.bits, IntKind.signed] at h
    omega
  exact ⟨a.toNat, by omega, by omega⟩

theorem realOps_walk (a0 : ByteArray) (a1 a2 : Int) (w : World) (_ : a0.size ≤ 140737488351232) (w1 : (Lit.int .u64 a1).wf = true) (w2 : (Lit.int .u64 a2).wf = true) (_ : w.ShapedOpen Tryd.prog) :
    Calls Tryd.prog 7 #[.string a0, .int .u64 a1, .int .u64 a2] w fun e w' => e = .returned (.bool true) ∧ Below w.heap.size w w' := by
  obtain ⟨a, rfl, ha⟩ := u64_nat w1
  obtain ⟨b, rfl, hb⟩ := u64_nat w2
  clear w1 w2
  by_cases hn : 10 < a0.size
  · go_enter Tryd.func7, Tryd.ntmps7
    go_wp2_with (go_at_call 13; refine (alive_any _).mono ?_; rintro e w1 ⟨rfl, hb⟩; have HB := Lib.hid hb; clear hb)
    go_ret
    exact ⟨rfl, HB.out⟩
  obtain ⟨x, hx⟩ : ∃ x, x = opF a0.toList a b := ⟨_, rfl⟩
  obtain ⟨y, hy⟩ : ∃ y, y = isF a0.toList a b := ⟨_, rfl⟩
  have HX := Lib.hid hx; have HY := Lib.hid hy; clear hx hy
  obtain ⟨x1, x2⟩ := x
  obtain ⟨y1, y2⟩ := y
  go_enter Tryd.func7, Tryd.ntmps7
  go_wp2_with fail
  refine (alive_any _).mono ?_
  rintro e w1 ⟨rfl, hb1⟩
  have HB := Lib.hid hb1; clear hb1
  go_wp2_with fail
  refine (op_any a0 a b _ ha).mono ?_
  rintro e w2 ⟨rfl, q, rfl⟩
  rw [← HX.out]
  go_wp2_with fail
  refine (rop_any a0 a b _ ha hb).mono ?_
  rintro e w2 ⟨rfl, q2, rfl⟩
  rw [← HX.out]
  go_wp2_with fail
  refine (is_any a0 a b _).mono ?_
  rintro e w2 ⟨rfl, q3, rfl⟩
  rw [← HY.out]
  go_wp2_with fail
  refine (ris_any a0 a b _).mono ?_
  rintro e w2 ⟨rfl, q4, rfl⟩
  rw [← HY.out]
  go_wp2_with fail
  all_goals (go_ret; exact ⟨by simp, below_drewN HB.out _⟩)
end Go.Proofs.YtnddnhjlaojllaaDoor
