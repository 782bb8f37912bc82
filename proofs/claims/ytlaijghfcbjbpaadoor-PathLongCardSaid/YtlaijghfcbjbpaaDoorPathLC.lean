/-
  The law PathOrder.
-/
import Derived.Test.YtlaijghfcbjbpaaDoorPathLB
namespace Go.Proofs.YtlaijghfcbjbpaaDoor
open Go.RowKit

set_option maxHeartbeats 2000000 in
theorem pathOrder_walk (a b c : ByteArray) (w : World) (ha : a.size ≤ 140737488351232) (hb : b.size ≤ 140737488351232) (hc : c.size ≤ 140737488351232) (hsh : w.ShapedOpen Tryd.prog) :
    Calls Tryd.prog 8 #[.string a, .string b, .string c] w fun e w' => e = .returned (.bool true) ∧ Below w.heap.size w w' := by
  obtain ⟨m, hm⟩ := maxLen_any w hsh
  have hml := cell_lt hm
  have HM := Lib.hid hm; clear hm hsh
  by_cases h0 : 200 < a.size
  · go_enter Tryd.func8, Tryd.ntmps8
    go_wp2_with (first | (go_at_call 21; refine (alive_any m _ HM.out).mono ?_; rintro e w1 ⟨rfl, hb⟩; have HB := Lib.hid hb; clear hb))
    go_ret
    exact ⟨rfl, HB.out⟩
  by_cases h1 : 200 < b.size
  · go_enter Tryd.func8, Tryd.ntmps8
    go_wp2_with (first | (go_at_call 21; refine (alive_any m _ HM.out).mono ?_; rintro e w1 ⟨rfl, hb⟩; have HB := Lib.hid hb; clear hb))
    go_ret
    exact ⟨rfl, HB.out⟩
  by_cases h2 : 200 < c.size
  · go_enter Tryd.func8, Tryd.ntmps8
    go_wp2_with (first | (go_at_call 21; refine (alive_any m _ HM.out).mono ?_; rintro e w1 ⟨rfl, hb⟩; have HB := Lib.hid hb; clear hb))
    go_ret
    exact ⟨rfl, HB.out⟩
  obtain ⟨A, hA⟩ : ∃ A, A = partsL [47] a.data.toList := ⟨_, rfl⟩
  obtain ⟨n, hn⟩ : ∃ n, n = A.length := ⟨_, rfl⟩
  obtain ⟨hln, hzn⟩ : n ≤ 100000000 ∧ lens A ≤ 100000000 := by rw [hn, hA]; exact root_bounds a (by omega)
  have EA := Lib.hid hA; have En := Lib.hid hn; clear hn hA
  obtain ⟨B, hB⟩ : ∃ B, B = partsL [47] b.data.toList := ⟨_, rfl⟩
  obtain ⟨k, hk⟩ : ∃ k, k = B.length := ⟨_, rfl⟩
  obtain ⟨hlk, hzk⟩ : k ≤ 100000000 ∧ lens B ≤ 100000000 := by rw [hk, hB]; exact root_bounds b (by omega)
  have EB := Lib.hid hB; have Ek := Lib.hid hk; clear hk hB
  have HAA := Lib.hid (within_refl a.data.toList)
  have hds := dirF_size a (by omega)
  have hdd := dir_any a m
  obtain ⟨D, hD⟩ : ∃ D : ByteArray, D = ⟨(dirF a.data.toList).toArray⟩ := ⟨_, rfl⟩
  have hda : withinF D.data.toList a.data.toList = true := by rw [hD]; exact within_dir a.data.toList
  rw [← hD] at hds hdd
  have HDA := Lib.hid hda; have HDD := Lib.hid hdd; clear hda hdd hD
  obtain ⟨r, hr⟩ : ∃ r, r = decide (A = B) := ⟨_, rfl⟩
  have hsame : withinF a.data.toList b.data.toList = true → withinF b.data.toList a.data.toList = r := by rw [hr, EA.out, EB.out]; exact within_anti
  have hnsame : withinF a.data.toList b.data.toList = false → r = false := by
    intro h
    rw [hr, decide_eq_false_iff_not]
    intro e
    rw [(withinF_iff _ _).2 ⟨[], by rw [← EB.out, ← EA.out, e]; simp⟩] at h
    cases h
  have HS := Lib.hid hsame; have HNS := Lib.hid hnsame; have HR := Lib.hid hr
  clear hsame hnsame hr
  cases hx : withinF a.data.toList b.data.toList
  · have HX := Lib.hid hx; clear hx
    have hn := HNS.out HX.out
    subst hn
    cases hy : withinF b.data.toList c.data.toList
    all_goals
      have HY := Lib.hid hy; clear hy
      go_enter Tryd.func8, Tryd.ntmps8
      go_wp2_with (first | (go_at_call 21; refine (alive_any m _ HM.out).mono ?_; rintro e w1 ⟨rfl, hb⟩; have HB := Lib.hid hb; clear hb))
      refine (withinB a b _ m _ (by omega) (by omega) ((HB.out.cell (p := ⟨0, 0, none⟩) hml).trans HM.out) HX.out).mono ?_
      rintro e w_w ⟨rfl, hb⟩
      replace HB := Lib.hid (HB.out.trans (hb.mono HB.out.size)); clear hb
      go_wp2_with fail
      refine (withinB b c _ m _ (by omega) (by omega) ((HB.out.cell (p := ⟨0, 0, none⟩) hml).trans HM.out) HY.out).mono ?_
      rintro e w_w ⟨rfl, hb⟩
      replace HB := Lib.hid (HB.out.trans (hb.mono HB.out.size)); clear hb
      go_wp2_with fail
      refine (partsN ⟨#[47]⟩ a _ _ m _ (by decide) (by omega) EA.out En.out ((HB.out.cell (p := ⟨0, 0, none⟩) hml).trans HM.out)).mono ?_
      rintro e w_HA ⟨a_HA, c_HA, rfl, hrl, hlc_HA, hcc_HA, hb⟩
      have HA := Lib.hid hrl; clear hrl
      replace HB := Lib.hid (HB.out.trans (hb.mono HB.out.size)); clear hb
      go_wp2_with fail
      refine (partsN ⟨#[47]⟩ b _ _ m _ (by decide) (by omega) EB.out Ek.out ((HB.out.cell (p := ⟨0, 0, none⟩) hml).trans HM.out)).mono ?_
      rintro e w_HC ⟨a_HC, c_HC, rfl, hrl, hlc_HC, hcc_HC, hb⟩
      replace HA := Lib.hid (HA.out.below hb)
      have HC := Lib.hid hrl; clear hrl
      replace HB := Lib.hid (HB.out.trans (hb.mono HB.out.size)); clear hb
      go_wp2_with fail
      refine (sameL _ _ _ _ _ _ _ _ _ HA.out HC.out hln hlk).mono ?_
      rintro e w5 ⟨rfl, q5, rfl⟩
      rw [← HR.out]
      replace HB := Lib.hid (HB.out.trans ((drewN_below _ q5).mono HB.out.size))
      go_wp2_with fail
      refine (withinB a a _ m _ (by omega) (by omega) ((HB.out.cell (p := ⟨0, 0, none⟩) hml).trans HM.out) HAA.out).mono ?_
      rintro e w_w ⟨rfl, hb⟩
      replace HB := Lib.hid (HB.out.trans (hb.mono HB.out.size)); clear hb
      go_wp2_with fail
      refine (HDD.out _ (by omega) ((HB.out.cell (p := ⟨0, 0, none⟩) hml).trans HM.out)).mono ?_
      rintro e w9 ⟨rfl, hb⟩
      replace HB := Lib.hid (HB.out.trans (hb.mono HB.out.size)); clear hb
      go_wp2_with fail
      refine (withinB D a _ m _ (by omega) (by omega) ((HB.out.cell (p := ⟨0, 0, none⟩) hml).trans HM.out) HDA.out).mono ?_
      rintro e w_w ⟨rfl, hb⟩
      replace HB := Lib.hid (HB.out.trans (hb.mono HB.out.size)); clear hb
      go_wp2
      go_ret
      exact ⟨rfl, HB.out⟩
  · have HX := Lib.hid hx; clear hx
    have HBA := Lib.hid (HS.out HX.out)
    cases hy : withinF b.data.toList c.data.toList
    · have HY := Lib.hid hy; clear hy
      go_enter Tryd.func8, Tryd.ntmps8
      go_wp2_with (first | (go_at_call 21; refine (alive_any m _ HM.out).mono ?_; rintro e w1 ⟨rfl, hb⟩; have HB := Lib.hid hb; clear hb))
      refine (withinB a b _ m _ (by omega) (by omega) ((HB.out.cell (p := ⟨0, 0, none⟩) hml).trans HM.out) HX.out).mono ?_
      rintro e w_w ⟨rfl, hb⟩
      replace HB := Lib.hid (HB.out.trans (hb.mono HB.out.size)); clear hb
      go_wp2_with fail
      refine (withinB b c _ m _ (by omega) (by omega) ((HB.out.cell (p := ⟨0, 0, none⟩) hml).trans HM.out) HY.out).mono ?_
      rintro e w_w ⟨rfl, hb⟩
      replace HB := Lib.hid (HB.out.trans (hb.mono HB.out.size)); clear hb
      go_wp2_with fail
      refine (partsN ⟨#[47]⟩ a _ _ m _ (by decide) (by omega) EA.out En.out ((HB.out.cell (p := ⟨0, 0, none⟩) hml).trans HM.out)).mono ?_
      rintro e w_HA ⟨a_HA, c_HA, rfl, hrl, hlc_HA, hcc_HA, hb⟩
      have HA := Lib.hid hrl; clear hrl
      replace HB := Lib.hid (HB.out.trans (hb.mono HB.out.size)); clear hb
      go_wp2_with fail
      refine (partsN ⟨#[47]⟩ b _ _ m _ (by decide) (by omega) EB.out Ek.out ((HB.out.cell (p := ⟨0, 0, none⟩) hml).trans HM.out)).mono ?_
      rintro e w_HC ⟨a_HC, c_HC, rfl, hrl, hlc_HC, hcc_HC, hb⟩
      replace HA := Lib.hid (HA.out.below hb)
      have HC := Lib.hid hrl; clear hrl
      replace HB := Lib.hid (HB.out.trans (hb.mono HB.out.size)); clear hb
      go_wp2_with fail
      refine (sameL _ _ _ _ _ _ _ _ _ HA.out HC.out hln hlk).mono ?_
      rintro e w5 ⟨rfl, q5, rfl⟩
      rw [← HR.out]
      replace HB := Lib.hid (HB.out.trans ((drewN_below _ q5).mono HB.out.size))
      go_wp2_with fail
      refine (withinB a a _ m _ (by omega) (by omega) ((HB.out.cell (p := ⟨0, 0, none⟩) hml).trans HM.out) HAA.out).mono ?_
      rintro e w_w ⟨rfl, hb⟩
      replace HB := Lib.hid (HB.out.trans (hb.mono HB.out.size)); clear hb
      go_wp2_with fail
      refine (withinB b a _ m _ (by omega) (by omega) ((HB.out.cell (p := ⟨0, 0, none⟩) hml).trans HM.out) HBA.out).mono ?_
      rintro e w_w ⟨rfl, hb⟩
      replace HB := Lib.hid (HB.out.trans (hb.mono HB.out.size)); clear hb
      go_wp2_with fail
      refine (HDD.out _ (by omega) ((HB.out.cell (p := ⟨0, 0, none⟩) hml).trans HM.out)).mono ?_
      rintro e w9 ⟨rfl, hb⟩
      replace HB := Lib.hid (HB.out.trans (hb.mono HB.out.size)); clear hb
      go_wp2_with fail
      refine (withinB D a _ m _ (by omega) (by omega) ((HB.out.cell (p := ⟨0, 0, none⟩) hml).trans HM.out) HDA.out).mono ?_
      rintro e w_w ⟨rfl, hb⟩
      replace HB := Lib.hid (HB.out.trans (hb.mono HB.out.size)); clear hb
      go_wp2
      go_ret
      exact ⟨rfl, HB.out⟩
    · have HY := Lib.hid hy; clear hy
      have HAC := Lib.hid (within_trans HX.out HY.out)
      go_enter Tryd.func8, Tryd.ntmps8
      go_wp2_with (first | (go_at_call 21; refine (alive_any m _ HM.out).mono ?_; rintro e w1 ⟨rfl, hb⟩; have HB := Lib.hid hb; clear hb))
      refine (withinB a b _ m _ (by omega) (by omega) ((HB.out.cell (p := ⟨0, 0, none⟩) hml).trans HM.out) HX.out).mono ?_
      rintro e w_w ⟨rfl, hb⟩
      replace HB := Lib.hid (HB.out.trans (hb.mono HB.out.size)); clear hb
      go_wp2_with fail
      refine (withinB b c _ m _ (by omega) (by omega) ((HB.out.cell (p := ⟨0, 0, none⟩) hml).trans HM.out) HY.out).mono ?_
      rintro e w_w ⟨rfl, hb⟩
      replace HB := Lib.hid (HB.out.trans (hb.mono HB.out.size)); clear hb
      go_wp2_with fail
      refine (partsN ⟨#[47]⟩ a _ _ m _ (by decide) (by omega) EA.out En.out ((HB.out.cell (p := ⟨0, 0, none⟩) hml).trans HM.out)).mono ?_
      rintro e w_HA ⟨a_HA, c_HA, rfl, hrl, hlc_HA, hcc_HA, hb⟩
      have HA := Lib.hid hrl; clear hrl
      replace HB := Lib.hid (HB.out.trans (hb.mono HB.out.size)); clear hb
      go_wp2_with fail
      refine (partsN ⟨#[47]⟩ b _ _ m _ (by decide) (by omega) EB.out Ek.out ((HB.out.cell (p := ⟨0, 0, none⟩) hml).trans HM.out)).mono ?_
      rintro e w_HC ⟨a_HC, c_HC, rfl, hrl, hlc_HC, hcc_HC, hb⟩
      replace HA := Lib.hid (HA.out.below hb)
      have HC := Lib.hid hrl; clear hrl
      replace HB := Lib.hid (HB.out.trans (hb.mono HB.out.size)); clear hb
      go_wp2_with fail
      refine (sameL _ _ _ _ _ _ _ _ _ HA.out HC.out hln hlk).mono ?_
      rintro e w5 ⟨rfl, q5, rfl⟩
      rw [← HR.out]
      replace HB := Lib.hid (HB.out.trans ((drewN_below _ q5).mono HB.out.size))
      go_wp2_with fail
      refine (withinB a a _ m _ (by omega) (by omega) ((HB.out.cell (p := ⟨0, 0, none⟩) hml).trans HM.out) HAA.out).mono ?_
      rintro e w_w ⟨rfl, hb⟩
      replace HB := Lib.hid (HB.out.trans (hb.mono HB.out.size)); clear hb
      go_wp2_with fail
      refine (withinB a c _ m _ (by omega) (by omega) ((HB.out.cell (p := ⟨0, 0, none⟩) hml).trans HM.out) HAC.out).mono ?_
      rintro e w_w ⟨rfl, hb⟩
      replace HB := Lib.hid (HB.out.trans (hb.mono HB.out.size)); clear hb
      go_wp2_with fail
      refine (withinB b a _ m _ (by omega) (by omega) ((HB.out.cell (p := ⟨0, 0, none⟩) hml).trans HM.out) HBA.out).mono ?_
      rintro e w_w ⟨rfl, hb⟩
      replace HB := Lib.hid (HB.out.trans (hb.mono HB.out.size)); clear hb
      go_wp2_with fail
      refine (HDD.out _ (by omega) ((HB.out.cell (p := ⟨0, 0, none⟩) hml).trans HM.out)).mono ?_
      rintro e w9 ⟨rfl, hb⟩
      replace HB := Lib.hid (HB.out.trans (hb.mono HB.out.size)); clear hb
      go_wp2_with fail
      refine (withinB D a _ m _ (by omega) (by omega) ((HB.out.cell (p := ⟨0, 0, none⟩) hml).trans HM.out) HDA.out).mono ?_
      rintro e w_w ⟨rfl, hb⟩
      replace HB := Lib.hid (HB.out.trans (hb.mono HB.out.size)); clear hb
      go_wp2
      go_ret
      exact ⟨rfl, HB.out⟩

end Go.Proofs.YtlaijghfcbjbpaaDoor
