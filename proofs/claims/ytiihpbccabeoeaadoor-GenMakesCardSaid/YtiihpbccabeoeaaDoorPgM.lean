/-
  GenMakes's walk.
-/
import Derived.Test.YtiihpbccabeoeaaDoorPgE
import Derived.Test.YtiihpbccabeoeaaDoorPgP
import Derived.Test.YtiihpbccabeoeaaDoorPxAJ
import Derived.Deep.RegionWith
namespace Go.Proofs.YtiihpbccabeoeaaDoor
open Go.RowKit Go.Joins
set_option linter.unusedVariables false

theorem keeps27 {a b : World} (h : Keeps (fun _ => False) a b) : Below a.heap.size a b := (h.mono (T := fun x => a.heap.size ≤ x) fun x _ s => s.elim).below (Nat.le_refl _)
theorem alive27 (w : World) :
    Calls Tryd.prog 4 #[] w fun e w' => e = .returned (.bool true) ∧ Below w.heap.size w w' := by
  have h0 : (makeF (clamp 0 50) (clamp 0 50) (low 0)).1 = [] := rfl
  have h1 : ∃ l, (makeF (clamp 1 50) (clamp 1 50) (low 0)).1 = 116 :: l := ⟨_, rfl⟩
  obtain ⟨l, h1⟩ := h1
  have H0 := Lib.hid h0; have H1 := Lib.hid h1; clear h0 h1
  go_enter Tryd.func4, Tryd.ntmps4
  go_wp2_with fail
  refine (makefile_any _ _ _).mono ?_
  rintro e w1 ⟨rfl, hb⟩
  rw [H0.out]
  have HB := Lib.hid hb; clear hb
  go_wp2_with fail
  refine (makefile_any _ _ _).mono ?_
  rintro e w2 ⟨rfl, hb⟩
  rw [H1.out]
  replace HB := Lib.hid (HB.out.trans (hb.mono HB.out.size)); clear hb
  go_wp2_with fail
  go_ret
  exact ⟨rfl, HB.out⟩

set_option maxRecDepth 100000 in
set_option maxHeartbeats 4000000 in
theorem genMakes_walk (a0 a1 : Int) (w : World) (_ : (Lit.int .i64 a0).wf = true) (_ : (Lit.int .i64 a1).wf = true) (_ : w.ShapedOpen Tryd.prog) :
    Calls Tryd.prog 3 #[.int .i64 a0, .int .i64 a1] w fun e w' => e = .returned (.bool true) ∧ Below w.heap.size w w' := by
  obtain ⟨ds, hds⟩ := gen_parse (clamp a1 100) (low a0) (clamp_le _ _)
  have hlen := scrG_len (clamp a1 100) (low a0)
  have hcl := clamp_le a1 100
  obtain ⟨SL, hSL⟩ : ∃ SL, SL = (scrG (clamp a1 100) (low a0)).1 := ⟨_, rfl⟩
  obtain ⟨S, hS⟩ : ∃ S : ByteArray, S = ⟨SL.toArray⟩ := ⟨_, rfl⟩
  obtain ⟨M, hM⟩ : ∃ M : ByteArray, M = ⟨(makeF (clamp a1 50) (clamp a1 50) (low a0)).1.toArray⟩ := ⟨_, rfl⟩
  rw [← hSL] at hds hlen
  have hP := fun w => qparse_any w SL (by omega)
  rw [← hS, hds] at hP
  have h1 := script_gen a0 a1
  have h2 := script_ref a0 a1
  have h3 := makefile_any a0 a1
  have h4 := makefile_ref a0 a1
  rw [← hSL, ← hS] at h1 h2
  rw [← hM] at h3 h4
  have HP := Lib.hid hP
  have H1 := Lib.hid h1
  have H2 := Lib.hid h2
  have H3 := Lib.hid h3
  have H4 := Lib.hid h4
  clear hP h1 h2 h3 h4 hds hlen hcl hSL hS hM
  go_enter Tryd.func3, Tryd.ntmps3
  go_wp2_with fail
  refine (alive27 _).mono ?_
  rintro e w1 ⟨rfl, hb⟩
  have HB := Lib.hid hb; clear hb
  go_wp2_with fail
  refine (H1.out _).mono ?_
  rintro e w2 ⟨rfl, hb⟩
  replace HB := Lib.hid (HB.out.trans (hb.mono HB.out.size)); clear hb
  go_wp2_with fail
  refine (HP.out _).mono ?_
  rintro e w3 ⟨a, m, c, rfl, _, hk⟩
  replace HB := Lib.hid (HB.out.trans ((keeps27 hk).mono HB.out.size)); clear hk
  go_wp2_with fail
  refine (H3.out _).mono ?_
  rintro e w4 ⟨rfl, hb⟩
  replace HB := Lib.hid (HB.out.trans (hb.mono HB.out.size)); clear hb
  go_wp2_with fail
  refine (H4.out _).mono ?_
  rintro e w5 ⟨rfl, hb⟩
  replace HB := Lib.hid (HB.out.trans (hb.mono HB.out.size)); clear hb
  go_wp2_with fail
  refine (H2.out _).mono ?_
  rintro e w6 ⟨rfl, hb⟩
  replace HB := Lib.hid (HB.out.trans (hb.mono HB.out.size)); clear hb
  go_wp2_with fail
  go_ret
  exact ⟨rfl, HB.out⟩
end Go.Proofs.YtiihpbccabeoeaaDoor
