/-
  The document's own parser: a command at the depth's end.
-/
import Derived.Test.YtiihpbccabeoeaaGreatDoorZPxAE
import Derived.Deep.CutBlock
namespace Go.Proofs.YtiihpbccabeoeaaGreatDoor
open Go.RowKit
set_option linter.unusedVariables false
theorem command_end {ts : List Tk} (h : beginsF ts = true) : commandF 0 ts = .error 3 := by
  show (if beginsF ts = true then _ else _) = _
  rw [if_pos h]
theorem command_end2 {ts : List Tk} (h : beginsF ts = false) : commandF 0 ts = .error 2 := by
  show (if beginsF ts = true then _ else _) = _
  rw [h]
  rfl
set_option maxRecDepth 100000 in
set_option maxHeartbeats 4000000 in
theorem qcommand_zero : QCmdOK 0 := by
  intro w Lo B ps n i deep tv T h hi hd
  obtain ⟨res, hres⟩ : ∃ res, res = commandF 0 (T.drop i) := ⟨_, rfl⟩
  rw [← hres]
  obtain ⟨s, hs⟩ : ∃ s, plainT (atF (T.drop i)) = s := ⟨_, rfl⟩
  obtain ⟨kw, hkw⟩ : ∃ kw, ((atF (T.drop i)).kind == 1) = kw := ⟨_, rfl⟩
  obtain ⟨rv, hrv⟩ : ∃ rv, reservedL.contains s = rv := ⟨_, rfl⟩
  obtain ⟨cb, hcb⟩ : ∃ cb, compB (T.drop i) = cb := ⟨_, rfl⟩
  obtain ⟨rb, hrb⟩ : ∃ rb, redirB (T.drop i) = rb := ⟨_, rfl⟩
  obtain ⟨wb, hwb⟩ : ∃ wb, wb = (kw && !rv) := ⟨_, rfl⟩
  obtain ⟨nb, hnb⟩ : ∃ nb, nb = !(wb || cb || rb) := ⟨_, rfl⟩
  have HNB := Lib.hid hnb
  have HBG := Lib.hid (show beginsF (T.drop i) = !nb by rw [begins_split, hs, hkw, hrv, hcb, hrb, hnb, hwb, Bool.not_not])
  have HWB := Lib.hid hwb
  have HSE := Lib.hid hs
  have HKW := Lib.hid hkw
  have HRV := Lib.hid hrv
  have HCB := Lib.hid hcb
  have HRB := Lib.hid hrb
  have HPS := Lib.hid h.lt
  have HS := Lib.hid h
  have HD := Lib.hid hd
  have HRES := Lib.hid hres
  have hmT : T.length ≤ 20000 := h.sm.1
  have hdw : IntKind.i64.wrap ((deep : Int) + 1) = (deep : Int) + 1 := IntWalk.i64_in _ (by omega)
  have hc8 := cells_node
  clear h hd hres hs hkw hrv hcb hrb hwb hnb
  have p40 : (40 : Int) < (deep : Int) := by have := HD.out; omega
  have p41 : ((40 : Int) < (deep : Int)) = True := eq_true p40
  go_enter Tryz.func142, Tryz.ntmps142
  go_wp2_with fail
  obtain ⟨W, hW⟩ : ∃ W, W = w.alloc (.cells #[.int .i64 0, .bool false, .string ⟨#[]⟩, .slice none 0 0, .slice none 0 0, .slice none 0 0, .slice none 0 0, .slice none 0 0] 44) := ⟨_, rfl⟩
  have hk0 : Keeps (fun _ => False) w W := by rw [hW]; exact (Keeps.refl _ _).alloc _
  have HZ := Lib.hid (show RecAt W w.heap.size [.int .i64 0, .bool false, .string ⟨#[]⟩, .slice none 0 0, .slice none 0 0, .slice none 0 0, .slice none 0 0, .slice none 0 0] by rw [hW]; exact new_rec8 w _ _ _ _ _ _ _ _ _)
  rw [← hW]
  have HK := Lib.hid (hk0.mono (T := fun b => b = ps) (fun _ _ h => h.elim))
  replace HS := Lib.hid (HS.out.keep0 hk0)
  clear hk0 hW
  have HQ := Lib.hid (qplain_at HS.out s HSE.out 0)
  refine HQ.out.mono ?_
  rintro e wq ⟨rfl, dq, rfl⟩
  obtain ⟨w1, hw2⟩ : ∃ w1, w1 = W.drewN dq := ⟨_, rfl⟩
  rw [← hw2]
  have hkw : Keeps (fun _ => False) W w1 := by rw [hw2]; exact (Keeps.refl _ _).drewN _
  replace HS := Lib.hid (HS.out.keep0 hkw)
  replace HZ := Lib.hid (HZ.out.keep hkw (fun h => h))
  replace HK := Lib.hid (HK.out.trans hkw (fun _ _ h => h.elim))
  clear hw2 hkw
  clear HQ
  go_upto_region 2 with fail
  go_cut [6] from 13 to 19 (fun v6 wx => ∃ wy : World, wy = wx ∧ v6 = .bool wb ∧ Hid (QS wy Lo B ps tv n T i 0) ∧ Hid (RecAt wy w.heap.size [.int .i64 0, .bool false, .string ⟨#[]⟩, .slice none 0 0, .slice none 0 0, .slice none 0 0, .slice none 0 0, .slice none 0 0]) ∧ Hid (Keeps (fun b => b = ps) w wy))
  case first =>
    have HQ := Lib.hid (qword_any w1 Lo B ps n i 0 tv T HS.out)
    rw [HKW.out] at HQ
    have HQ2 := Lib.hid (fun w => qreserved_any w s)
    rw [HRV.out] at HQ2
    go_wp2_with fail
    refine HQ.out.mono ?_
    rintro e wq ⟨rfl, dq, rfl⟩
    obtain ⟨w2, hw2⟩ : ∃ w2, w2 = w1.drewN dq := ⟨_, rfl⟩
    rw [← hw2]
    have hkw : Keeps (fun _ => False) w1 w2 := by rw [hw2]; exact (Keeps.refl _ _).drewN _
    replace HS := Lib.hid (HS.out.keep0 hkw)
    replace HZ := Lib.hid (HZ.out.keep hkw (fun h => h))
    replace HK := Lib.hid (HK.out.trans hkw (fun _ _ h => h.elim))
    clear hw2 hkw
    cases kw with
    | false =>
      have HVV := Lib.hid (show wb = false from HWB.out)
      go_wp2_with fail
      go_meet
      case rel => exact ⟨_, rfl, by rw [HVV.out], HS, HZ, HK⟩
    | true =>
      go_wp2_with fail
      refine (HQ2.out _).mono ?_
      rintro e wq ⟨rfl, rfl⟩
      cases rv with
      | false =>
        have HVV := Lib.hid (show wb = true from HWB.out)
        go_wp2_with fail
        go_meet
        case rel => exact ⟨_, rfl, by rw [HVV.out], HS, HZ, HK⟩
      | true =>
        have HVV := Lib.hid (show wb = false from HWB.out)
        go_wp2_with fail
        go_meet
        case rel => exact ⟨_, rfl, by rw [HVV.out], HS, HZ, HK⟩
  case rest =>
  clear HS HZ HK
  obtain ⟨wy, hwy, hv, HS, HZ, HK⟩ := hcut
  subst hwy hv
  have HQ := Lib.hid (qcomp_any wy Lo B ps n i 0 tv T HS.out)
  rw [HCB.out] at HQ
  go_wp2_with fail
  refine HQ.out.mono ?_
  rintro e wq ⟨rfl, dq, rfl⟩
  obtain ⟨w3, hw2⟩ : ∃ w3, w3 = wy.drewN dq := ⟨_, rfl⟩
  rw [← hw2]
  have hkw : Keeps (fun _ => False) wy w3 := by rw [hw2]; exact (Keeps.refl _ _).drewN _
  replace HS := Lib.hid (HS.out.keep0 hkw)
  replace HZ := Lib.hid (HZ.out.keep hkw (fun h => h))
  replace HK := Lib.hid (HK.out.trans hkw (fun _ _ h => h.elim))
  clear hw2 hkw
  clear HQ
  have HQ := Lib.hid (qredir_any w3 Lo B ps n i 0 tv T HS.out)
  rw [HRB.out] at HQ
  go_wp2_with fail
  refine HQ.out.mono ?_
  rintro e wq ⟨rfl, dq, rfl⟩
  obtain ⟨w4, hw2⟩ : ∃ w4, w4 = w3.drewN dq := ⟨_, rfl⟩
  rw [← hw2]
  have hkw : Keeps (fun _ => False) w3 w4 := by rw [hw2]; exact (Keeps.refl _ _).drewN _
  replace HS := Lib.hid (HS.out.keep0 hkw)
  replace HZ := Lib.hid (HZ.out.keep hkw (fun h => h))
  replace HK := Lib.hid (HK.out.trans hkw (fun _ _ h => h.elim))
  clear hw2 hkw
  clear HQ
  go_upto_region 5 with fail
  go_cut [33] from 24 to 33 (fun v6 wx => ∃ wy : World, wy = wx ∧ v6 = .bool nb ∧ Hid (QS wy Lo B ps tv n T i 0) ∧ Hid (RecAt wy w.heap.size [.int .i64 0, .bool false, .string ⟨#[]⟩, .slice none 0 0, .slice none 0 0, .slice none 0 0, .slice none 0 0, .slice none 0 0]) ∧ Hid (Keeps (fun b => b = ps) w wy))
  case first =>
    cases wb with
    | true =>
      have HVV := Lib.hid (show nb = false from HNB.out)
      go_wp2_with fail
      go_meet
      case rel => exact ⟨_, rfl, by rw [HVV.out], HS, HZ, HK⟩
    | false =>
      cases cb with
      | true =>
        have HVV := Lib.hid (show nb = false from HNB.out)
        go_wp2_with fail
        go_meet
        case rel => exact ⟨_, rfl, by rw [HVV.out], HS, HZ, HK⟩
      | false =>
        cases rb with
        | true =>
          have HVV := Lib.hid (show nb = false from HNB.out)
          go_wp2_with fail
          go_meet
          case rel => exact ⟨_, rfl, by rw [HVV.out], HS, HZ, HK⟩
        | false =>
          have HVV := Lib.hid (show nb = true from HNB.out)
          go_wp2_with fail
          go_meet
          case rel => exact ⟨_, rfl, by rw [HVV.out], HS, HZ, HK⟩
  case rest =>
  clear HS HZ HK
  obtain ⟨wy, hwy, hv, HS, HZ, HK⟩ := hcut
  subst hwy hv
  cases nb with
  | true =>
    have HR2 := Lib.hid (show res = .error 2 by rw [HRES.out]; exact command_end2 HBG.out)
    go_wp2_with fail
    refine (qfail_any wy Lo B ps n i 0 2 tv T HS.out).mono ?_
    rintro e wz ⟨rfl, hsz, hkz⟩
    have hsz := (show QS wz Lo B ps tv n T i 2 from hsz)
    replace HS := Lib.hid hsz
    replace HZ := Lib.hid (HZ.out.keep hkz (fun e => by have := HPS.out; omega))
    replace HK := Lib.hid (HK.out.trans hkz (fun _ _ h => h))
    have HIB := Lib.hid (show i ≤ i ∧ i ≤ T.length + 2 * 0 by omega)
    clear hsz hkz
    obtain ⟨⟨z0, z1, z2, z3, z4, z5, z6, z7⟩, ⟨zf0, zf1, zf2, zf3, zf4, zf5, zf6, zf7⟩⟩ := HZ.out.eight
    have hzl := HZ.out.lt
    go_wp2_with fail
    refine bodyPost_ret (v := .agg #[.int .i64 0, .bool false, .string ⟨#[]⟩, .slice none 0 0, .slice none 0 0, .slice none 0 0, .slice none 0 0, .slice none 0 0]) (by simp [results, Tryz.results142, go_sem, z0, z1, z2, z3, z4, z5, z6, z7]) rfl ?_
    obtain ⟨f1, f2, f3⟩ := qnd_fin HK.out HS.out HPS.out (show QF false wz (fun b => Qd Lo B w.heap.size b ∧ b ≠ w.heap.size) T res [.int .i64 0, .bool false, .string ⟨#[]⟩, .slice none 0 0, .slice none 0 0, .slice none 0 0, .slice none 0 0, .slice none 0 0] i 2 from QF.err (by decide) HR2.out) (set8_keeps wz w.heap.size (.int .i64 0) (.bool false) (.string ⟨#[]⟩) (.slice none 0 0) (.slice none 0 0) (.slice none 0 0) (.slice none 0 0) (.slice none 0 0))
    exact ⟨⟨0, false, ⟨#[]⟩, none, 0, 0, none, 0, 0, none, 0, 0, none, 0, 0, none, 0, 0⟩, i, 2, rfl, HIB.out.1, HIB.out.2, f1, f2, f3⟩
  | false =>
    have HR2 := Lib.hid (show res = .error 3 by rw [HRES.out]; exact command_end HBG.out)
    go_wp2_with fail
    refine (qfail_any wy Lo B ps n i 0 3 tv T HS.out).mono ?_
    rintro e wz ⟨rfl, hsz, hkz⟩
    have hsz := (show QS wz Lo B ps tv n T i 3 from hsz)
    replace HS := Lib.hid hsz
    replace HZ := Lib.hid (HZ.out.keep hkz (fun e => by have := HPS.out; omega))
    replace HK := Lib.hid (HK.out.trans hkz (fun _ _ h => h))
    have HIB := Lib.hid (show i ≤ i ∧ i ≤ T.length + 2 * 0 by omega)
    clear hsz hkz
    obtain ⟨⟨z0, z1, z2, z3, z4, z5, z6, z7⟩, ⟨zf0, zf1, zf2, zf3, zf4, zf5, zf6, zf7⟩⟩ := HZ.out.eight
    have hzl := HZ.out.lt
    go_wp2_with fail
    refine bodyPost_ret (v := .agg #[.int .i64 0, .bool false, .string ⟨#[]⟩, .slice none 0 0, .slice none 0 0, .slice none 0 0, .slice none 0 0, .slice none 0 0]) (by simp [results, Tryz.results142, go_sem, z0, z1, z2, z3, z4, z5, z6, z7]) rfl ?_
    obtain ⟨f1, f2, f3⟩ := qnd_fin HK.out HS.out HPS.out (show QF false wz (fun b => Qd Lo B w.heap.size b ∧ b ≠ w.heap.size) T res [.int .i64 0, .bool false, .string ⟨#[]⟩, .slice none 0 0, .slice none 0 0, .slice none 0 0, .slice none 0 0, .slice none 0 0] i 3 from QF.err (by decide) HR2.out) (set8_keeps wz w.heap.size (.int .i64 0) (.bool false) (.string ⟨#[]⟩) (.slice none 0 0) (.slice none 0 0) (.slice none 0 0) (.slice none 0 0) (.slice none 0 0))
    exact ⟨⟨0, false, ⟨#[]⟩, none, 0, 0, none, 0, 0, none, 0, 0, none, 0, 0, none, 0, 0⟩, i, 3, rfl, HIB.out.1, HIB.out.2, f1, f2, f3⟩
end Go.Proofs.YtiihpbccabeoeaaGreatDoor
