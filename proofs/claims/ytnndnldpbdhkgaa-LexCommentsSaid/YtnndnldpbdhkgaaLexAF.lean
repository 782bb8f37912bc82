/-
  Word.
-/
import Derived.Test.YtnndnldpbdhkgaaLexAE
namespace Go.Proofs.Ytnndnldpbdhkgaa
open Go.RowKit
set_option linter.unusedVariables false

/-- What Word hands back. -/
def WordPost (w : World) (res : Except Nat (List Pt)) (e : Ending) (w' : World) : Prop :=
  match res with
  | .ok l => ∃ (v : Value) (n : Nat), e = .returned (.tuple #[v, .int .i64 0]) ∧ PtsAt w' (fun b => w.heap.size ≤ b) n l v ∧ Keeps (fun _ => False) w w'
  | .error x => e = .returned (.tuple #[.slice none 0 0, .int .i64 x]) ∧ Keeps (fun _ => False) w w'

set_option maxRecDepth 100000 in
set_option maxHeartbeats 4000000 in
theorem word_long (s : ByteArray) (w : World) (hs : s.size ≤ 140737488351232) (x : Nat) (hx : mayF s.data.toList = x) (h0 : x ≠ 0) :
    Calls Try.prog 22 #[.string s] w (WordPost w (.error x)) := by
  have HX := Lib.hid hx
  have e1 : ((x : Int) != 0) = true := by rw [bne_iff_ne]; omega
  clear hx h0
  go_enter_defers Try.func22, Try.ntmps22
  go_wp2_with fail
  refine (may_any s _ hs).mono ?_
  rintro e w1 ⟨rfl, hw1⟩
  rw [HX.out]
  subst hw1
  go_wp2_with fail
  simp [bodyPostD, Leaves, results, Try.results22, go_sem]
  exact ⟨rfl, ((Keeps.refl _ _).alloc _).alloc _⟩
end Go.Proofs.Ytnndnldpbdhkgaa
