/-
  The walk of the law GenLots.
-/
import Derived.Test.YtlaijghfcbjbpaaDoorGenC
import Derived.Test.YtlaijghfcbjbpaaDoorSlices
import Derived.Test.YtlaijghfcbjbpaaDoorSame
import Derived.Deep.RegionWith
namespace Go.Proofs.YtlaijghfcbjbpaaDoor
open Go.RowKit Go.Joins

theorem alive27 (w : World) :
    Calls Tryd.prog 11 #[] w fun e w' => e = .returned (.bool true) ∧ Below w.heap.size w w' := by
  have h0 : (makeF (clamp 0 50) (clamp 0 50) (low 0)).1 = [] := rfl
  have h1 : ∃ l, (makeF (clamp 1 50) (clamp 1 50) (low 0)).1 = 116 :: l := ⟨_, rfl⟩
  obtain ⟨l, h1⟩ := h1
  have H0 := Lib.hid h0; have H1 := Lib.hid h1; clear h0 h1
  go_enter Tryd.func11, Tryd.ntmps11
  go_wp2_with fail
  refine (makefile_any _ _ _).mono ?_
  rintro e w1 ⟨rfl, hb⟩
  rw [H0.out]
  have HB := Lib.hid hb; clear hb
  go_wp2_with fail
  refine (makefile_any _ _ _).mono ?_
  rintro e w2 ⟨rfl, hb⟩
  rw [H1.out]
  replace HB := Lib.hid (HB.out.trans (hb.mono HB.out.size)); clear hb
  go_wp2_with fail
  go_ret
  exact ⟨rfl, HB.out⟩

set_option maxHeartbeats 4000000 in
theorem genLots_walk (a0 : Int) (a1 : Option Addr) (n1 c1 : Nat) (z1 : List Int) (w : World) (_ : (Lit.int .i64 a0).wf = true) (hr : IsRow .i64 w a1 n1 c1 z1) (_ : w.ShapedOpen Tryd.prog) :
    Calls Tryd.prog 3 #[.int .i64 a0, .slice a1 n1 c1] w fun e w' => e = .returned (.bool true) ∧ Below w.heap.size w w' := by
  by_cases hn : 200 < n1
  · go_enter Tryd.func3, Tryd.ntmps3
    go_wp2_with (go_at_call 11; refine (alive27 _).mono ?_; rintro e w1 ⟨rfl, hb⟩; have HB := Lib.hid hb; clear hb)
    go_ret
    exact ⟨rfl, HB.out⟩
  · have HR := Lib.hid hr; clear hr
    go_enter Tryd.func3, Tryd.ntmps3
    go_wp2_with (go_at_call 11; refine (alive27 _).mono ?_; rintro e w1 ⟨rfl, hb⟩; have HB := Lib.hid hb; clear hb)
    refine (new_any a0 _).mono ?_
    rintro e w2 ⟨rfl, T2, rfl⟩
    have hl1 := LotAt.new w1 (low a0) T2
    obtain ⟨A, hA⟩ : ∃ A, A = w1.heap.size := ⟨_, rfl⟩
    obtain ⟨w2, hw2⟩ : ∃ w2, w2 = w1.alloc (.cells #[.int .i64 (low a0)] T2) := ⟨_, rfl⟩
    have hz2 : w2.heap.size = A + 1 := by rw [hw2, hA]; simp
    have hb2 : Below w.heap.size w w2 := by rw [hw2]; exact HB.out.alloc HB.out.size _
    have hA0 : w.heap.size ≤ A := by rw [hA]; exact HB.out.size
    rw [← hw2, ← hA] at hl1 ⊢
    have HL1 := Lib.hid hl1; have HZ2 := Lib.hid hz2; replace HB := Lib.hid hb2; have HA0 := Lib.hid hA0
    clear hl1 hA hw2 hz2 hb2 hA0
    go_wp2_with fail
    refine (new_any _ _).mono ?_
    rintro e w3 ⟨rfl, T3, rfl⟩
    rw [HZ2.out]
    obtain ⟨t, ht⟩ : ∃ t, t = low (wrap64 (a0 + 1)) := ⟨_, rfl⟩
    have hl2 := LotAt.new w2 t T3
    rw [HZ2.out] at hl2
    have hl1 := HL1.out.alloc (.cells #[.int .i64 t] T3)
    obtain ⟨w3, hw3⟩ : ∃ w3, w3 = w2.alloc (.cells #[.int .i64 t] T3) := ⟨_, rfl⟩
    have hz3 : w3.heap.size = A + 2 := by rw [hw3]; simp [HZ2.out]
    have hb3 : Below w.heap.size w w3 := by rw [hw3]; exact HB.out.alloc HB.out.size _
    rw [← ht, ← hw3]
    rw [← hw3] at hl1 hl2
    have HL2 := Lib.hid hl2; replace HL1 := Lib.hid hl1; have HZ3 := Lib.hid hz3; replace HB := Lib.hid hb3
    clear hl1 hl2 hw3 hz3 hb3 ht HZ2
    go_wp2_with fail
    refine (rnew_any _ _).mono ?_
    rintro e w4 ⟨rfl, T4, rfl⟩
    rw [HZ3.out]
    have hl3 := LotAt.new w3 (low a0) T4
    rw [HZ3.out] at hl3
    have hl1 := HL1.out.alloc (.cells #[.int .i64 (low a0)] T4)
    have hl2 := HL2.out.alloc (.cells #[.int .i64 (low a0)] T4)
    obtain ⟨w4, hw4⟩ : ∃ w4, w4 = w3.alloc (.cells #[.int .i64 (low a0)] T4) := ⟨_, rfl⟩
    have hb4 : Below w.heap.size w w4 := by rw [hw4]; exact HB.out.alloc HB.out.size _
    rw [← hw4]
    rw [← hw4] at hl1 hl2 hl3
    replace HL1 := Lib.hid hl1; replace HL2 := Lib.hid hl2; have HL3 := Lib.hid hl3; replace HB := Lib.hid hb4
    clear hl1 hl2 hl3 hw4 hb4 HZ3
    have HRD := Lib.hid (isRow_reads HR.out); clear HR
    go_wp2_with fail
    go_loopw [9] (fun i wr => ∃ (k : Nat) (sa sb : Int), k ≤ n1 ∧ i = .int .i64 k ∧ LotAt wr A sa ∧ LotAt wr (A + 1) sb ∧ LotAt wr (A + 2) sa ∧ Below w.heap.size w wr) (fun i _ => n1 - (intOf i).toNat)
    case atStart => exact ⟨0, _, _, Nat.zero_le _, rfl, HL1.out, HL2.out, HL3.out, HB.out⟩
    case round =>
      obtain ⟨k, sa, sb, hk, rfl, h1, h2, h3, hb⟩ := hrel
      clear HL1 HL2 HL3 HB
      have HB := Lib.hid hb; have HL1 := Lib.hid h1; have HL2 := Lib.hid h2; have HL3 := Lib.hid h3
      clear h1 h2 h3 hb
      by_cases hlt : k < n1
      · obtain ⟨b, off, rfl, hbw, hc⟩ := HRD.out k hlt
        obtain ⟨x, hx⟩ : ∃ x, x = z1.getD k 0 := ⟨_, rfl⟩
        replace hc : w.cell? ⟨b, off + k, none⟩ = some (.int .i64 x) := by rw [hx]; exact hc
        clear hx
        have HC := Lib.hid hc; have HBW := Lib.hid hbw; clear hc hbw
        go_wp2_with fail
        refine (next_lot (A + 1) sb _ _ HL2.out).mono ?_
        rintro e w5 ⟨rfl, hl, hg⟩
        have hA0 := HA0.out
        have hLt := HL2.out.lt
        replace HL1 := Lib.hid (HL1.out.grown hg (by simp)); replace HL3 := Lib.hid (HL3.out.grown hg (by simp))
        replace HL2 := Lib.hid hl; replace HB := Lib.hid (HB.out.grown hg (by have := HB.out.size; omega) (by simp; omega))
        clear hl hg hA0 hLt
        have hc : w5.cell? ⟨b, off + k, none⟩ = some (.int .i64 x) := by rw [HB.out.cell (p := ⟨b, off + k, none⟩) HBW.out]; exact HC.out
        obtain ⟨v, hv⟩ : ∃ v, v = nextV sa x := ⟨_, rfl⟩
        have HV := Lib.hid hv; clear hv
        go_wp2_with fail
        go_region_with (first
          | (go_at_call 14
             refine (next_lot A sa x _ ?_).mono ?_
             exact HL1.out
             rintro e w6 ⟨rfl, hl, hg0⟩
             have hg : w5.grownBy w6 (some A) := ⟨hg0.1, hg0.2, hg0.3, hg0.4, hg0.5⟩
             have hA0 := HA0.out
             replace HL1 := Lib.hid hl; replace HL2 := Lib.hid (HL2.out.grown hg (by simp)); replace HL3 := Lib.hid (HL3.out.grown hg (by simp))
             replace HB := Lib.hid (HB.out.grown hg (by have := HB.out.size; omega) (by simp; omega))
             clear hl hg hA0 hg0
             have hc6 : w6.cell? ⟨b, off + k, none⟩ = some (.int .i64 x) := by rw [HB.out.cell (p := ⟨b, off + k, none⟩) HBW.out]; exact HC.out
             rw [← HV.out])
          | (go_at_call 15
             refine (rnext_lot (A + 2) sa x _ ?_).mono ?_
             exact HL3.out
             rintro e w7 ⟨rfl, hl, hg0⟩
             have hg : w6.grownBy w7 (some (A + 2)) := ⟨hg0.1, hg0.2, hg0.3, hg0.4, hg0.5⟩
             have hA0 := HA0.out
             replace HL3 := Lib.hid hl; replace HL1 := Lib.hid (HL1.out.grown hg (by simp)); replace HL2 := Lib.hid (HL2.out.grown hg (by simp))
             replace HB := Lib.hid (HB.out.grown hg (by have := HB.out.size; omega) (by simp; omega))
             clear hl hg hA0 hg0
             rw [← HV.out]))
        all_goals (
          go_wp2_with fail
          go_roundw
          case rel => exact ⟨k + 1, _, _, by omega, by go_num, HL1.out, HL2.out, HL3.out, HB.out⟩
          case measure => simp [intOf]; omega)
      · go_wp2_with fail
        go_ret
        exact ⟨rfl, HB.out⟩
end Go.Proofs.YtlaijghfcbjbpaaDoor
