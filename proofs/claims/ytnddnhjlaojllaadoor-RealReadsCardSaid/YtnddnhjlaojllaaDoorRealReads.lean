/-
  The walk of the law RealReads: which texts are numbers, and which ones.
-/
import Derived.Test.YtnddnhjlaojllaaDoorRealAD
import Derived.Test.YtnddnhjlaojllaaDoorRealJ
namespace Go.Proofs.YtnddnhjlaojllaaDoor
open Go.RowKit

theorem realReads_walk (a0 : ByteArray) (w : World) (h0 : a0.size ≤ 140737488351232) (_ : w.ShapedOpen Tryd.prog) :
    Calls Tryd.prog 3 #[.string a0] w fun e w' => e = .returned (.bool true) ∧ Below w.heap.size w w' := by
  by_cases hn : 60 < a0.size
  · have q1 : (60 : Int) < (a0.size : Int) := by omega
    go_enter Tryd.func3, Tryd.ntmps3
    go_wp2_with fail
    refine (alive_any _).mono ?_
    rintro e w1 ⟨rfl, hb1⟩
    have HB := Lib.hid hb1; clear hb1
    go_wp2_with fail
    go_ret
    exact ⟨rfl, HB.out⟩
  have q1 : ¬ (60 : Int) < (a0.size : Int) := by omega
  obtain ⟨x, hx⟩ : ∃ x, x = ofF a0.data.toList := ⟨_, rfl⟩
  have HX := Lib.hid hx; clear hx
  obtain ⟨x1, x2⟩ := x
  go_enter Tryd.func3, Tryd.ntmps3
  go_wp2_with fail
  refine (alive_any _).mono ?_
  rintro e w1 ⟨rfl, hb1⟩
  have HB := Lib.hid hb1; clear hb1
  go_wp2_with fail
  refine (of_any a0 _ h0).mono ?_
  rintro e w2 ⟨rfl, hb2⟩
  rw [← HX.out]
  have HB2 := Lib.hid (HB.out.trans (hb2.mono HB.out.size)); clear hb2
  go_wp2_with fail
  refine (real_any a0 _ h0).mono ?_
  rintro e w3 ⟨rfl, rfl⟩
  rw [← HX.out]
  go_wp2_with fail
  all_goals (go_ret; exact ⟨by simp, HB2.out⟩)
end Go.Proofs.YtnddnhjlaojllaaDoor
