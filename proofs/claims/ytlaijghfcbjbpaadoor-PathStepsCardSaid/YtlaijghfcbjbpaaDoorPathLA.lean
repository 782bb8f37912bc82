/-
  The law PathTells, and what is alive.
-/
import Derived.Test.YtlaijghfcbjbpaaDoorPathI
namespace Go.Proofs.YtlaijghfcbjbpaaDoor
open Go.RowKit

theorem maxLen_any (w : World) (h : w.ShapedOpen Tryd.prog) : ∃ m, w.cell? ⟨0, 0, none⟩ = some (.int .i64 m) := Tryd.laysM144.s1_3 w h

theorem alive_any (m : Int) (w : World) (hm : w.cell? ⟨0, 0, none⟩ = some (.int .i64 m)) :
    Calls Tryd.prog 21 #[] w (RetB (.bool true) w) := by
  have hF : absF (⟨#[47, 97]⟩ : ByteArray).data.toList (⟨#[46, 46, 47, 98]⟩ : ByteArray).data.toList = ([47, 98], 0) := by decide +kernel
  have HF := Lib.hid hF; clear hF
  have HM := Lib.hid hm; clear hm
  go_enter Tryd.func21, Tryd.ntmps21
  go_wp2_with fail
  refine (abs_any _ _ m _ (by decide) (by decide) HM.out).mono ?_
  rintro e w1 ⟨rfl, hb⟩
  rw [HF.out]
  have HB := Lib.hid hb; clear hb
  go_wp2_with (go_at_call 27; go_in)
  go_ret
  exact ⟨rfl, HB.out⟩

set_option maxHeartbeats 2000000 in
theorem pathTells_walk (cwd p : ByteArray) (w : World) (hc : cwd.size ≤ 140737488351232) (hp : p.size ≤ 140737488351232) (hsh : w.ShapedOpen Tryd.prog) :
    Calls Tryd.prog 9 #[.string cwd, .string p] w fun e w' => e = .returned (.bool true) ∧ Below w.heap.size w w' := by
  obtain ⟨m, hm⟩ := maxLen_any w hsh
  have hml := cell_lt hm
  have HM := Lib.hid hm; clear hm hsh
  by_cases h1 : 400 < cwd.size
  · go_enter Tryd.func9, Tryd.ntmps9
    go_wp2_with (first | (go_at_call 21; refine (alive_any m _ HM.out).mono ?_; rintro e w1 ⟨rfl, hb⟩; have HB := Lib.hid hb; clear hb))
    go_ret
    exact ⟨rfl, HB.out⟩
  by_cases h2 : 400 < p.size
  · go_enter Tryd.func9, Tryd.ntmps9
    go_wp2_with (first | (go_at_call 21; refine (alive_any m _ HM.out).mono ?_; rintro e w1 ⟨rfl, hb⟩; have HB := Lib.hid hb; clear hb))
    go_ret
    exact ⟨rfl, HB.out⟩
  obtain ⟨hbl, hbz⟩ := partsL_bounds cwd p (by omega) (by omega)
  go_enter Tryd.func9, Tryd.ntmps9
  go_wp2_with (first | (go_at_call 21; refine (alive_any m _ HM.out).mono ?_; rintro e w1 ⟨rfl, hb⟩; have HB := Lib.hid hb; clear hb) | (go_at_call 26; refine (abs_any _ _ m _ (by omega) (by omega) ((HB.out.cell (p := ⟨0, 0, none⟩) hml).trans HM.out)).mono ?_; rintro e w2 ⟨rfl, hb⟩; replace HB := Lib.hid (HB.out.trans (hb.mono HB.out.size)); clear hb) | (go_at_call 31; refine (refAbs_any _ _ _ (by omega) (by omega)).mono ?_; rintro e w2 ⟨rfl, hb⟩; replace HB := Lib.hid (HB.out.trans (hb.mono HB.out.size)); clear hb) | (go_at_call 27; go_in) | (go_at_call 24; refine (partsR _ _ m _ (by omega) (by omega) ((HB.out.cell (p := ⟨0, 0, none⟩) hml).trans HM.out)).mono ?_; rintro e w3 ⟨a_HRL, c_HRL, rfl, hrl, hlc_HRL, hcc_HRL, hb⟩; have HRL := Lib.hid hrl; clear hrl; replace HB := Lib.hid (HB.out.trans (hb.mono HB.out.size)); clear hb) | (go_at_call 32; refine (refPartsR _ _ _ (by omega) (by omega)).mono ?_; rintro e w3 ⟨a_HRL2, c_HRL2, rfl, hrl, hlc_HRL2, hcc_HRL2, hb⟩; replace HRL := Lib.hid (HRL.out.below hb); have HRL2 := Lib.hid hrl; clear hrl; replace HB := Lib.hid (HB.out.trans (hb.mono HB.out.size)); clear hb) | (go_at_call 25; refine (sameL _ _ _ _ _ _ _ _ _ HRL.out HRL2.out hbl hbl).mono ?_; rintro e w5 ⟨rfl, q, rfl⟩; replace HB := Lib.hid (HB.out.trans ((drewN_below _ q).mono HB.out.size))) | (go_at_call 30; refine (dir_any _ m _ (by omega) ((HB.out.cell (p := ⟨0, 0, none⟩) hml).trans HM.out)).mono ?_; rintro e w6 ⟨rfl, hb⟩; replace HB := Lib.hid (HB.out.trans (hb.mono HB.out.size)); clear hb) | (go_at_call 33; refine (refDir_any _ _ (by omega)).mono ?_; rintro e w6 ⟨rfl, hb⟩; replace HB := Lib.hid (HB.out.trans (hb.mono HB.out.size)); clear hb) | (go_at_call 34; refine (base_any _ m _ (by omega) ((HB.out.cell (p := ⟨0, 0, none⟩) hml).trans HM.out)).mono ?_; rintro e w6 ⟨rfl, hb⟩; replace HB := Lib.hid (HB.out.trans (hb.mono HB.out.size)); clear hb) | (go_at_call 35; refine (refBase_any _ _ (by omega)).mono ?_; rintro e w6 ⟨rfl, hb⟩; replace HB := Lib.hid (HB.out.trans (hb.mono HB.out.size)); clear hb) | (go_at_call 29; refine (within_any _ _ m _ (by omega) (by omega) ((HB.out.cell (p := ⟨0, 0, none⟩) hml).trans HM.out)).mono ?_; rintro e w6 ⟨rfl, hb⟩; replace HB := Lib.hid (HB.out.trans (hb.mono HB.out.size)); clear hb) | (go_at_call 36; refine (refWithin_any _ _ _ (by omega) (by omega)).mono ?_; rintro e w6 ⟨rfl, hb⟩; replace HB := Lib.hid (HB.out.trans (hb.mono HB.out.size)); clear hb))
  go_ret
  exact ⟨rfl, HB.out⟩

end Go.Proofs.YtlaijghfcbjbpaaDoor
