/-
  The laws' own words: num; alive.
-/
import Derived.Test.YtnndnldpbdhkgaaLexBB
namespace Go.Proofs.Ytnndnldpbdhkgaa
open Go.RowKit
set_option linter.unusedVariables false

theorem Keeps.below0 {S : Nat → Prop} {a b : World} (h : Keeps S a b) (hS : ∀ x, S x → a.heap.size ≤ x) : Below a.heap.size a b := (h.mono fun x _ s => hS x s).below (Nat.le_refl _)
theorem num_any (x : Int) (w : World) : Calls Try.prog 16 #[.int .i64 x] w fun e w' => e = .returned (.int .i64 x) ∧ w' = w := by
  go_enter Try.func16, Try.ntmps16
  go_wp2_with fail
  go_ret
  exact ⟨rfl, rfl⟩
theorem alive_toks : tokensF [97, 32, 34, 98, 32, 99, 34] = .ok [⟨1, [], [txtP [97]]⟩, ⟨1, [], [quoP [98, 32, 99]]⟩] := by kernel_rfl

set_option maxRecDepth 100000 in
set_option maxHeartbeats 4000000 in
theorem alive_any (w : World) : Calls Try.prog 13 #[] w fun e w' => e = .returned (.bool true) ∧ Keeps (fun _ => False) w w' := by
  have hc3 := cells_token
  have hc6 := cells_part
  go_enter Try.func13, Try.ntmps13
  go_wp2_with fail
  refine (tokens_any ⟨#[97, 32, 34, 98, 32, 99, 34]⟩ _ (by decide)).mono ?_
  show ∀ e w', TokensPost w (tokensF [97, 32, 34, 98, 32, 99, 34]) e w' → _
  rw [alive_toks]
  rintro e w1 ⟨v, n, rfl, hv, hk⟩
  obtain ⟨a, c, rfl, _, _⟩ := hv.shape
  obtain ⟨g, o, xa, xl, xc, rfl, ⟨q0, q1, q2⟩, hx, hg⟩ := hv.at (Keeps.refl _ _) (i := 1) (by decide)
  obtain ⟨pa, pc, hpe, _, _⟩ := hx.shape
  obtain ⟨g2, o2, ya, yl, yc, hgy, ⟨r0, r1, r2, r3, r4, r5⟩, hy, _, hg2⟩ := hx.at (Keeps.refl _ _) (i := 0) (by decide)
  injection hpe with e1 e2 e3
  have e4 : xl = 1 := e2
  subst hgy e4
  have q2' : w1.cell? ⟨g, o + 5, none⟩ = some (.slice (some ⟨g2, o2, none⟩) 1 xc) := q2
  have r0' : w1.cell? ⟨g2, o2, none⟩ = some (.int .i64 2) := r0
  have r1' : w1.cell? ⟨g2, o2 + 1, none⟩ = some (.string ⟨#[98, 32, 99]⟩) := r1
  have HK := Lib.hid hk
  clear q0 q1 q2 r0 r1 r2 r3 r4 r5 hk hv hx hy e1 e2 e3
  go_wp2_with fail
  refine (num_any 0 _).mono ?_
  rintro e w2 ⟨rfl, hw2⟩
  subst hw2
  go_wp2_with fail
  go_ret
  exact ⟨rfl, HK.out⟩
end Go.Proofs.Ytnndnldpbdhkgaa
