/-
  The document's own parser: case.
-/
import Derived.Test.YtiihpbccabeoeaaGreatDoorZPxAB
import Derived.Deep.CutBlock
namespace Go.Proofs.YtiihpbccabeoeaaGreatDoor
open Go.RowKit
set_option linter.unusedVariables false
def CA (gd : Prop) (K : Nat) (wd : List Pt) (acc : List Dt) (T : List Tk) (I x : Nat) (res : PR (List Dt)) : Prop := (gd ∧ x = 0 ∧ I ≤ T.length ∧ ∃ M, T.length - I + 1 ≤ M ∧ res = qcaseEnd wd (armsLoop (commandF K) (scrF (commandF K)) M acc (T.drop I))) ∨ (x ≠ 0 ∧ res = .error x)
set_option maxRecDepth 100000 in
set_option maxHeartbeats 8000000 in
theorem qchoose_any (K : Nat) (hcmd : QCmdOK K) (hscr : QScrOK K) (w : World) (Lo B ps n i deep : Nat) (tv : Value) (T : List Tk) (h : QS w Lo B ps tv n T i 0) (hi : i ≤ T.length) (hd : deep + 1 + K = 41) :
    Calls Tryz.prog 183 #[.pointer (some ⟨ps, 0, none⟩), .int .i64 (deep : Nat)] w (QNode w Lo B ps tv n T i (2 * K + 2) false (casesF (commandF K) (scrF (commandF K)) (T.drop i))) := by
  obtain ⟨res, hres⟩ : ∃ res, res = casesF (commandF K) (scrF (commandF K)) (T.drop i) := ⟨_, rfl⟩
  rw [← hres]
  rw [qcases_eq] at hres
  have hc1 : Tryz.prog.cellsOf 29 = 1 := by kernel_rfl
  have hc2 : Tryz.prog.cellsOf 49 = 2 := by kernel_rfl
  have hc8 := cells_node
  have hin0 : (Tryz.prog.info? 49).map (fun i => (i.zero, i.size, i.bytes)) = some (some (.agg #[.slice none 0 0, .slice none 0 0]), 2, 48) := by kernel_rfl
  have hin2 : (Tryz.prog.info? 29).map (fun i => (i.zero, i.size, i.bytes)) = some (some (.slice none 0 0), 1, 24) := by kernel_rfl
  obtain ⟨i0, hi0, hz0, hz1, hz2⟩ := info_parts hin0
  obtain ⟨i2, hi2, hx0, hx1, hx2⟩ := info_parts hin2
  have HRES := Lib.hid hres
  have HC := Lib.hid hcmd
  have HSC := Lib.hid hscr
  have HD := Lib.hid hd
  have HPS := Lib.hid h.lt
  have hmT : T.length ≤ 20000 := h.sm.1
  have hdw : IntKind.i64.wrap ((deep : Int) + 1) = (deep : Int) + 1 := IntWalk.i64_in _ (by omega)
  have HS := Lib.hid h
  clear hres hcmd hscr h hin0 hin2
  go_enter Tryz.func183, Tryz.ntmps183
  go_wp2_with fail
  obtain ⟨N, hN⟩ : ∃ N, N = w.heap.size + 1 := ⟨_, rfl⟩
  obtain ⟨W, hW⟩ : ∃ W, W = (w.alloc (.cells #[.int .i64 0, .bool false, .string ⟨#[]⟩, .slice none 0 0, .slice none 0 0, .slice none 0 0, .slice none 0 0, .slice none 0 0] 44)).alloc (.cells #[.int .i64 10, .bool false, .string ⟨#[]⟩, .slice none 0 0, .slice none 0 0, .slice none 0 0, .slice none 0 0, .slice none 0 0] 44) := ⟨_, rfl⟩
  have hk0 : Keeps (fun _ => False) w W := by rw [hW]; exact ((Keeps.refl _ _).alloc _).alloc _
  have HZ := Lib.hid (show RecAt W w.heap.size [.int .i64 0, .bool false, .string ⟨#[]⟩, .slice none 0 0, .slice none 0 0, .slice none 0 0, .slice none 0 0, .slice none 0 0] by rw [hW]; exact (new_rec8 w _ _ _ _ _ _ _ _ _).keep (S := fun _ => False) ((Keeps.refl _ _).alloc _) (fun h => h))
  have HR := Lib.hid (show RecAt W N [.int .i64 10, .bool false, .string ⟨#[]⟩, .slice none 0 0, .slice none 0 0, .slice none 0 0, .slice none 0 0, .slice none 0 0] by rw [hW, hN]; have h9 := new_rec8 (w.alloc (.cells #[.int .i64 0, .bool false, .string ⟨#[]⟩, .slice none 0 0, .slice none 0 0, .slice none 0 0, .slice none 0 0, .slice none 0 0] 44)) (.int .i64 10) (.bool false) (.string ⟨#[]⟩) (.slice none 0 0) (.slice none 0 0) (.slice none 0 0) (.slice none 0 0) (.slice none 0 0) 44; simpa using h9)
  rw [← hW]
  try rw [← hN]
  have HK := Lib.hid (hk0.mono (T := fun b => b = ps) (fun _ _ h => h.elim))
  replace HS := Lib.hid (HS.out.keep0 hk0)
  have HNX := Lib.hid (show w.heap.size < N by omega)
  have HNE := Lib.hid hN
  clear hk0 hW hN
  refine (qtake_uni K HSC.out W Lo B ps n i deep tv T HD.out HS.out).mono ?_
  rintro e w1 ⟨wd, ta, tc, j, y, rfl, hpt, hsm, hj1, hj2, hs1, hk1, hor⟩
  have hjT := hj2 hi
  obtain ⟨wl, hwl⟩ : ∃ wl, wl = wd.length := ⟨_, rfl⟩
  rw [← hwl]
  replace HZ := Lib.hid (HZ.out.keep hk1 (fun e => by have := HPS.out; omega))
  replace HR := Lib.hid (HR.out.keep hk1 (fun e => by have := HPS.out; have := HNX.out; omega))
  replace HK := Lib.hid (HK.out.trans hk1 (fun _ _ h => h))
  have HPT := Lib.hid (show PtsAt w1 (fun b => Lo ≤ b ∧ b < B) n wd (.slice ta wl tc) by rw [hwl]; exact hpt)
  have HS1 := Lib.hid hs1
  have HOR := Lib.hid hor
  clear hpt hsm hj2 hs1 hk1 hor hwl HS
  obtain ⟨⟨x0, x1, x2, x3, x4, x5, x6, x7⟩, ⟨xf0, xf1, xf2, xf3, xf4, xf5, xf6, xf7⟩⟩ := HR.out.eight
  have hNl := HR.out.lt
  go_upto_region 4 with fail
  obtain ⟨NW, hNW⟩ : ∃ NW, NW = w1.heap.size := ⟨_, rfl⟩
  obtain ⟨W2, hW2⟩ : ∃ W2, W2 = (w1.setCell ⟨N, 3, none⟩ (.slice (some ⟨w1.heap.size, 0, none⟩) 1 1)).alloc (.cells #[.slice ta wl tc] 29) := ⟨_, rfl⟩
  rw [← hW2]
  have HG := Lib.hid (show QR (fun _ => False) True w W2 Lo B ps tv n T (w.heap.size + 1) N [.int .i64 0, .bool false, .string ⟨#[]⟩, .slice none 0 0, .slice none 0 0, .slice none 0 0, .slice none 0 0, .slice none 0 0] [.int 10, .bool false, .str [], .sl 1 [wordR wd], .sl 2 [], .sl 2 [], .sl 8 []] [] [.int .i64 10, .bool false, .string ⟨#[]⟩, .slice (some ⟨NW, 0, none⟩) 1 1, .slice none 0 0, .slice none 0 0, .slice none 0 0] [] 2 49 j y 0 none 0 [] from by
    obtain ⟨w8, hw8⟩ : ∃ w8, w8 = w1.setCell ⟨N, 3, none⟩ (.slice (some ⟨w1.heap.size, 0, none⟩) 1 1) := ⟨_, rfl⟩
    rw [← hw8] at hW2
    have hs8 : w8.heap.size = w1.heap.size := by rw [hw8]; simp [World.setCell]
    have hk8 : Keeps (fun b => b = N) w1 w8 := by rw [hw8]; exact (Keeps.refl _ _).setCell _ _ fun _ => rfl
    have hk2 : Keeps (fun _ => False) w8 W2 := by rw [hW2]; exact (Keeps.refl _ _).alloc _
    have hnx := HNX.out
    have hpx := HPS.out
    have hbp := HS1.out.ps
    have hne := HNE.out
    have hr := rd_lit (D := fun b => (Qd Lo B (w.heap.size + 1) b ∧ b ≠ N)) (w := w8) (cs := [wordR wd]) (vs := [.slice ta wl tc]) (k := 1) (m := 1) ⟨(rd_pts (HPT.out.keep hk8 (fun b _ hb e => by omega))).mono (fun b _ hb => ⟨.inl hb, by omega⟩), trivial⟩ rfl (by decide) hW2 ⟨.inr (by omega), by omega⟩
    rw [hs8, ← hNW] at hr
    refine ⟨(HS1.out.keep hk8 (fun b hb e => by omega) (fun e => by omega)).keep0 hk2, (HK.out.fresh hk8 (fun b e => by omega)).trans hk2 (fun _ _ e => e.elim), (HZ.out.keep hk8 (fun e => by omega)).keep hk2 (fun h => h), ?_, ⟨[], fun _ => trivial, World.ownsRow_nil _ _ _ _⟩, fun g hg => (by cases hg), fun g hg => (by cases hg), fun _ => ⟨.int _, .bool _, .str _, hr.mono (fun b _ hb => ⟨hb, fun e => by cases e⟩), .nil _ _ _ (Nat.zero_le _), .nil _ _ _ (Nat.zero_le _), .nil _ _ _ (Nat.zero_le _), trivial⟩, fun _ => trivial⟩
    have h9 := (HR.out.set 3 (.slice (some ⟨w1.heap.size, 0, none⟩) 1 1))
    rw [← hw8, ← hNW] at h9
    exact h9.keep hk2 (fun h => h))
  clear hW2 hNW x0 x1 x2 x3 x4 x5 x6 x7 xf0 xf1 xf2 xf3 xf4 xf5 xf6 xf7 hNl HZ HR HK HPT HS1
  go_wp2_with fail
  refine (qlines_any W2 Lo B ps n j y tv T HG.out.rs).mono ?_
  rintro e wa ⟨rfl, j1, hl1, hl2, hl3, hl4, hsl4, hkl4⟩
  replace HG := Lib.hid (HG.out.move HPS.out (Nat.lt_succ_self _) HNX.out hkl4 hsl4)
  have hj1T := hl2 hjT
  have HJ1 := Lib.hid (show i ≤ j1 by omega)
  have HL1 := Lib.hid hl4
  clear hl1 hl2 hl3 hl4 hsl4 hkl4 hj1
  go_wp2_with fail
  refine (qwant_any wa Lo B ps n j1 y tv T [105, 110] HG.out.rs (by omega)).mono ?_
  rintro e wb ⟨rfl, hsb, hkb⟩
  obtain ⟨x1, hx1⟩ : ∃ x1, x1 = if y = 0 then (if isWF [105, 110] (T.drop j1) then 0 else 2) else y := ⟨_, rfl⟩
  rw [← hx1] at hsb
  replace HG := Lib.hid (HG.out.move HPS.out (Nat.lt_succ_self _) HNX.out hkb hsb)
  clear hsb hkb
  go_wp2_with fail
  refine (qlines_any wb Lo B ps n (j1 + 1) x1 tv T HG.out.rs).mono ?_
  rintro e wc ⟨rfl, I0, hl1, hl2, hl3, hl4, hsl4, hkl4⟩
  replace HG := Lib.hid (HG.out.move HPS.out (Nat.lt_succ_self _) HNX.out hkl4 hsl4)
  have HI0 := Lib.hid (show i ≤ I0 ∧ I0 ≤ T.length + 1 by have := HJ1.out; refine ⟨by omega, ?_⟩; rcases Nat.lt_or_ge j1 T.length with h | h; have := hl2 (by omega); omega; have := hl3 (by omega); omega)
  have HCA := Lib.hid (show CA True K wd [] T I0 x1 res from by
    rcases HOR.out with ⟨h1, h2, _, hw⟩ | ⟨h1, hw⟩
    · rw [if_pos h1] at hx1
      have hr := HRES.out
      rw [hw] at hr
      dsimp only at hr
      rw [← h2, ← HL1.out] at hr
      cases hin : isWF [105, 110] (T.drop j1) with
      | true =>
        rw [hin, if_pos rfl] at hx1
        rw [hin, if_pos rfl, drop_tail, ← hl4] at hr
        have h3 := toks_in (isW_pos (by decide) hin)
        exact .inl ⟨trivial, hx1, hl2 (by omega), _, by rw [List.length_drop]; exact Nat.le_refl _, hr⟩
      | false =>
        rw [hin, if_neg (by simp)] at hx1
        rw [hin, if_neg (by simp)] at hr
        exact .inr ⟨by omega, by rw [hr, hx1]⟩
    · rw [if_neg h1] at hx1
      exact .inr ⟨by omega, by rw [HRES.out, hw, hx1]⟩)
  obtain ⟨g0, hg0⟩ : ∃ g0, (x1 = 0 ∧ g0 = T.length + 2000 - I0) ∨ (x1 ≠ 0 ∧ g0 = 0) := by
    by_cases h0 : x1 = 0
    · exact ⟨_, .inl ⟨h0, rfl⟩⟩
    · exact ⟨_, .inr ⟨h0, rfl⟩⟩
  have HGG := Lib.hid hg0
  clear hg0
  clear hl1 hl2 hl3 hl4 hsl4 hkl4 hx1 HOR HRES HL1
  go_wp2_with fail
  go_loopg [] g0 (fun g wr => ∃ (gd : Prop) (I x m : Nat) (la : Option Addr) (lc : Nat) (acc : List Dt), ((x = 0 ∧ g = T.length + 2000 - I) ∨ (x ≠ 0 ∧ g = 0)) ∧ i ≤ I ∧ I ≤ T.length + 1 ∧ (x = 0 → m ≤ I) ∧ Hid (QR (fun _ => False) gd w wr Lo B ps tv n T (w.heap.size + 1) N [.int .i64 0, .bool false, .string ⟨#[]⟩, .slice none 0 0, .slice none 0 0, .slice none 0 0, .slice none 0 0, .slice none 0 0] [.int 10, .bool false, .str [], .sl 1 [wordR wd], .sl 2 [], .sl 2 [], .sl 8 []] [] [.int .i64 10, .bool false, .string ⟨#[]⟩, .slice (some ⟨NW, 0, none⟩) 1 1, .slice none 0 0, .slice none 0 0, .slice none 0 0] [] 2 49 I x m la lc acc) ∧ Hid (CA gd K wd acc T I x res))
  case atStart => exact ⟨True, I0, x1, 0, none, 0, [], HGG.out, HI0.out.1, HI0.out.2, fun _ => Nat.zero_le _, HG, HCA⟩
  case round =>
    clear HG HCA HI0
    obtain ⟨gd, I, x, m, la, lc, acc, hgk, hiI, hIb, hmI, HG, HST⟩ := hrel
    have HGK := Lib.hid hgk
    clear hgk
    obtain ⟨c0, c1, c2, f1, f2⟩ := HG.out.rs.cells
    have hlt := HG.out.rs.lt
    by_cases hx : x = 0
    · subst hx
      obtain ⟨g, hIT, M, hM, hr⟩ : gd ∧ I ≤ T.length ∧ ∃ M, T.length - I + 1 ≤ M ∧ res = qcaseEnd wd (armsLoop (commandF K) (scrF (commandF K)) M acc (T.drop I)) := by
        rcases HST.out with ⟨g, _, h9⟩ | ⟨h9, _⟩
        · exact ⟨g, h9⟩
        · exact absurd rfl h9
      obtain ⟨M, rfl⟩ : ∃ M', M = M' + 1 := ⟨M - 1, by omega⟩
      have HG1 := Lib.hid g
      have hmI := hmI rfl
      rw [qarms_succ] at hr
      clear g HST
      obtain ⟨s, hs⟩ : ∃ s, plainT (atF (T.drop I)) = s := ⟨_, rfl⟩
      have HSS := Lib.hid hs
      have HQ := Lib.hid (qplain_at HG.out.rs s hs 0)
      clear hs
      by_cases he : s = [101, 115, 97, 99]
      · subst he
        have HW := Lib.hid (show isWF [101, 115, 97, 99] (T.drop I) = true by rw [isWF_plain HSS.out]; rfl)
        have HQS := Lib.hid (show QSt gd (res = .ok (ndR 10 false [] [wordR wd] [] [] [] acc, (T.drop I).tail)) T I 0 res from .inl ⟨HG1.out, rfl, hIT, by rw [hr, if_pos HW.out]; rfl⟩)
        clear hr
        go_wp2_with fail
        refine HQ.out.mono ?_
        rintro e wq ⟨rfl, dq, rfl⟩
        obtain ⟨wk, hw2⟩ : ∃ wk, wk = wr.drewN dq := ⟨_, rfl⟩
        rw [← hw2]
        have hkw : Keeps (fun _ => False) wr wk := by rw [hw2]; exact (Keeps.refl _ _).drewN _
        replace HG := Lib.hid (HG.out.keep0 hkw)
        clear hw2 hkw
        clear c0 c1 c2 f1 f2 hlt
        go_upto_region 29 with fail
        obtain ⟨xe, hxe⟩ : ∃ xe, xe = if 0 = 0 then (if isWF [101, 115, 97, 99] (T.drop I) then 0 else 2) else 0 := ⟨_, rfl⟩
        have HFI := Lib.hid ((fun hxe => case_fin (ds := ndR 10 false [] [wordR wd] [] [] [] acc) HQS.out hxe (fun h => ⟨fun _ => h, fun hw => by rw [HW.out] at hw; cases hw⟩)) hxe)
        have HXE := Lib.hid hxe
        have HIB := Lib.hid (show i ≤ I + 1 ∧ I + 1 ≤ T.length + (2 * K + 2) by omega)
        have hI9 : I + 1 ≤ T.length + 900 := by have := HIB.out; have := HD.out; omega
        clear hxe
        go_wp2_with fail
        refine (qwant_any wk Lo B ps n I 0 tv T [101, 115, 97, 99] HG.out.rs (by omega)).mono ?_
        rintro e wz ⟨rfl, hsz, hkz⟩
        have hsz := (show QS wz Lo B ps tv n T (I + 1) xe by rw [HXE.out]; exact hsz)
        replace HG := Lib.hid (HG.out.move HPS.out (Nat.lt_succ_self _) HNX.out hkz hsz)
        clear hsz hkz
        obtain ⟨⟨x0, x1, x2, x3, x4, x5, x6, x7⟩, ⟨xf0, xf1, xf2, xf3, xf4, xf5, xf6, xf7⟩⟩ := (show RecAt wz N [.int .i64 10, .bool false, .string ⟨#[]⟩, .slice (some ⟨NW, 0, none⟩) 1 1, .slice none 0 0, .slice none 0 0, .slice none 0 0, .slice la m lc] from HG.out.rc).eight
        have hNl := HG.out.rc.lt
        have HF := Lib.hid (show QF false wz (fun b => Qd Lo B w.heap.size b ∧ b ≠ w.heap.size) T res [.int .i64 10, .bool false, .string ⟨#[]⟩, .slice (some ⟨NW, 0, none⟩) 1 1, .slice none 0 0, .slice none 0 0, .slice none 0 0, .slice la m lc] (I + 1) xe from qr_fin HG.out (Nat.lt_succ_self _) HPS.out (by rcases HFI.out with ⟨g, h0, hj, hr⟩ | ⟨h0, hr⟩; exact .inl ⟨g, h0, hj, ⟨_, _, _, _, _, _, _, _, rfl⟩, hr⟩; exact .inr fun _ _ _ => QF.err h0 hr))
        have HK := Lib.hid HG.out.kp
        have HS := Lib.hid HG.out.rs
        obtain ⟨⟨z0, z1, z2, z3, z4, z5, z6, z7⟩, ⟨zf0, zf1, zf2, zf3, zf4, zf5, zf6, zf7⟩⟩ := HG.out.zr.eight
        have hzl := HG.out.zr.lt
        go_wp2_with fail
        refine bodyPost_ret (v := .agg #[.int .i64 10, .bool false, .string ⟨#[]⟩, .slice (some ⟨NW, 0, none⟩) 1 1, .slice none 0 0, .slice none 0 0, .slice none 0 0, .slice la m lc]) (by simp [results, Tryz.results183, go_sem, z0, z1, z2, z3, z4, z5, z6, z7]) rfl ?_
        obtain ⟨f1, f2, f3⟩ := qnd_fin HK.out HS.out HPS.out HF.out (set8_keeps wz w.heap.size (.int .i64 10) (.bool false) (.string ⟨#[]⟩) (.slice (some ⟨NW, 0, none⟩) 1 1) (.slice none 0 0) (.slice none 0 0) (.slice none 0 0) (.slice la m lc))
        exact ⟨⟨10, false, ⟨#[]⟩, some ⟨NW, 0, none⟩, 1, 1, none, 0, 0, none, 0, 0, none, 0, 0, la, m, lc⟩, (I + 1), xe, rfl, HIB.out.1, HIB.out.2, f1, f2, f3⟩
      · have t1 : (s == [101, 115, 97, 99]) = false := ls_ne he
        have t2 : (s != [101, 115, 97, 99]) = true := by rw [bne, t1]; rfl
        have HR0 := Lib.hid (show res = qK K M wd acc (armF (commandF K) (scrF (commandF K)) (T.drop I)) by rw [hr, if_neg (by rw [isWF_plain HSS.out, t1]; simp)]; rfl)
        clear hr he
        go_wp2_with fail
        refine HQ.out.mono ?_
        rintro e wq ⟨rfl, dq, rfl⟩
        obtain ⟨wk, hw2⟩ : ∃ wk, wk = wr.drewN dq := ⟨_, rfl⟩
        rw [← hw2]
        have hkw : Keeps (fun _ => False) wr wk := by rw [hw2]; exact (Keeps.refl _ _).drewN _
        replace HG := Lib.hid (HG.out.keep0 hkw)
        clear hw2 hkw
        clear c0 c1 c2 f1 f2 hlt
        go_upto_region 9 with fail
        obtain ⟨NA, hNA⟩ : ∃ NA, NA = wk.heap.size := ⟨_, rfl⟩
        obtain ⟨wA, hwA⟩ : ∃ wA, wA = wk.alloc (.cells #[.slice none 0 0, .slice none 0 0] 49) := ⟨_, rfl⟩
        rw [← hwA]
        try rw [← hNA]
        have hkA : Keeps (fun _ => False) wk wA := by rw [hwA]; exact (Keeps.refl _ _).alloc _
        have hNk := HG.out.rc.lt
        have HNA := Lib.hid (show w.heap.size < NA ∧ wk.heap.size ≤ NA by have := HNX.out; omega)
        have HNN := Lib.hid (show N < NA by omega)
        have HA := Lib.hid (show QR (fun _ => False) True w wA Lo B ps tv n T NA NA [.int .i64 0, .bool false, .string ⟨#[]⟩, .slice none 0 0, .slice none 0 0, .slice none 0 0, .slice none 0 0, .slice none 0 0] [] [.sl 8 []] [] [.slice none 0 0] 1 29 I 0 0 none 0 [] from ⟨HG.out.rs.keep0 hkA, HG.out.kp.trans hkA (fun _ _ h => h.elim), HG.out.zr.keep hkA (fun h => h), by rw [hwA, hNA]; exact ⟨_, heap_alloc_new wk _⟩, ⟨[], fun _ => trivial, World.ownsRow_nil _ _ _ _⟩, fun g hg => (by cases hg), fun g hg => (by cases hg), fun _ => trivial, fun _ => ⟨.nil _ _ _ (Nat.zero_le _), trivial⟩⟩)
        have HKR := Lib.hid (show Keeps (fun b => b = ps) wk wA from hkA.mono (fun _ _ h => h.elim))
        clear hkA hwA hNA hNk
        obtain ⟨ob, hob⟩ : ∃ ob, isOpF [40] (T.drop I) = ob := ⟨_, rfl⟩
        have HOB := Lib.hid hob
        have HQ2 := Lib.hid (qop_at HA.out.rs [40] ob hob 0)
        clear hob
        go_wp2_with fail
        refine HQ2.out.mono ?_
        rintro e wq ⟨rfl, dq, rfl⟩
        obtain ⟨wA2, hw2⟩ : ∃ wA2, wA2 = wA.drewN dq := ⟨_, rfl⟩
        rw [← hw2]
        have hkw : Keeps (fun _ => False) wA wA2 := by rw [hw2]; exact (Keeps.refl _ _).drewN _
        replace HA := Lib.hid (HA.out.keep0 hkw)
        replace HKR := Lib.hid (HKR.out.trans hkw (fun _ _ h => h.elim))
        clear hw2 hkw
        go_upto_if 35 with fail
        go_cut [] from 24 to 124 (fun wx => ∃ (j : Nat) (wy : World), wy = wx ∧ Hid (I ≤ j) ∧ Hid (j ≤ T.length) ∧ Hid (T.drop j = (if isOpF [40] (T.drop I) then (T.drop I).tail else T.drop I)) ∧ Hid (QR (fun _ => False) True w wy Lo B ps tv n T NA NA [.int .i64 0, .bool false, .string ⟨#[]⟩, .slice none 0 0, .slice none 0 0, .slice none 0 0, .slice none 0 0, .slice none 0 0] [] [.sl 8 []] [] [.slice none 0 0] 1 29 j 0 0 none 0 []) ∧ Hid (Keeps (fun b => b = ps) wk wy))
        case first =>
          obtain ⟨c0, c1, c2, f1, f2⟩ := HA.out.rs.cells
          have hlt := HA.out.rs.lt
          have hsumI : IntKind.i64.wrap ((I : Int) + 1) = (I : Int) + 1 := IntWalk.i64_in _ (by omega)
          cases ob with
          | true =>
            have hIl := toks_in (op_pos HOB.out)
            go_wp2_with fail
            go_meet
            case rel =>
              obtain ⟨a1, a2⟩ := inc_qs HA.out.rs (by omega)
              exact ⟨I + 1, _, rfl, Lib.hid (by omega), Lib.hid (by omega), Lib.hid (by rw [HOB.out, if_pos rfl, drop_tail]), Lib.hid (HA.out.inc HPS.out HNA.out.1 HNA.out.1 (by omega)), Lib.hid (HKR.out.trans a2 (fun _ _ h => h))⟩
          | false =>
            go_wp2_with fail
            go_meet
            case rel => exact ⟨I, _, rfl, Lib.hid (Nat.le_refl _), Lib.hid hIT, Lib.hid (by rw [HOB.out, if_neg (by simp)]), HA, HKR⟩
        case rest =>
        clear HA HKR HOB HQ2
        obtain ⟨j, wy, hwy, HJ0, HJT, HJD, HA, HKR⟩ := hcut
        subst hwy
        have hjT := HJT.out
        have HR1 := Lib.hid (show res = qK K M wd acc (match wordF (scrF (commandF K)) (T.drop j) with
            | .error e => .error e
            | .ok (w, r) => qarmP K (patsLoop (scrF (commandF K)) (r.length + 1) [wordR w] r)) by
          rw [HR0.out, qarm_eq, ← HJD.out]
          cases wordF (scrF (commandF K)) (T.drop j) <;> rfl)
        obtain ⟨ra, rm, rc, hrm, HA⟩ : ∃ (ra : Option Addr) (rm rc : Nat), rm ≤ 5 ∧ Hid (QR (fun _ => False) True w wy Lo B ps tv n T NA NA [.int .i64 0, .bool false, .string ⟨#[]⟩, .slice none 0 0, .slice none 0 0, .slice none 0 0, .slice none 0 0, .slice none 0 0] [] [.sl 8 []] [] [.slice none 0 0] 1 29 j 0 rm ra rc []) := ⟨none, 0, 0, by omega, HA⟩
        go_wp2_with fail
        refine (qtake_uni K HSC.out wy Lo B ps n j deep tv T HD.out HA.out.rs).mono ?_
        rintro e w4 ⟨pd, pa, pc, J, y, rfl, hpt, hsm, hj1, hj2, hs4, hk4, hor⟩
        obtain ⟨pl, hpl⟩ : ∃ pl, pl = pd.length := ⟨_, rfl⟩
        rw [← hpl]
        have hna := HA.out.rc.lt
        obtain ⟨xs, hown4, hrec4, hF⟩ := HA.out.more (G' := True) (y := y) (J := J) (us := [.slice pa pl pc]) (d2 := [wordR pd]) HPS.out HNA.out.1 HNA.out.1 (by omega) hk4 hs4 (fun _ => trivial) (fun _ => ⟨by rw [hpl]; exact (rd_pts hpt).mono (fun b _ hb => .inl hb), trivial⟩) (fun b hb => hb.elim)
        have HF := Lib.hid hF
        have HLW := Lib.hid HA.out.low
        have HOR := Lib.hid hor
        replace HKR := Lib.hid (HKR.out.trans hk4 (fun _ _ h => h))
        have HJ := Lib.hid (show j ≤ J ∧ J ≤ T.length from ⟨hj1, hj2 (by omega)⟩)
        have hrec4' := (show RecAt w4 NA [.slice ra rm rc, .slice none 0 0] from hrec4)
        obtain ⟨⟨x0, x1⟩, xf0, xf1⟩ := hrec4'.two
        have hNl := hrec4.lt
        clear hF hrec4 hrec4' hs4 hk4 hpt hsm hor hpl hna hj1 hj2
        go_upto_block 2 with (at_builtin; refine wpList_append_lies _ rfl (.tmp 47) (.tmp 49) _ rfl 0 29 i2 _ 1 24 Tryz.underlying39 hi2 hx0 hx1 hx2 rfl (by omega) (.slice ra rm rc) rm xs rfl (hown4.alloc _) ⟨w4.heap.size, 0, none⟩ 1 1 [.slice pa pl pc] rfl rfl (World.news_of_block (cs := #[.slice pa pl pc]) (t := 29) (fr := (0, 0)) (heap_alloc_new w4 _)) (by simp [Value.oneCell']) (by omega) (by unfold maxLen; omega) (by omega) (by simp) (w4.heap.size + 1) (by simp) ?_; intro gg cap w5 hown2 hgrow hat hlt5; have hG5 := HF.out gg (rm + 1) cap w5 _ hown2 ((Keeps.refl _ _).alloc _) hgrow (hat.imp id (fun h => by omega)); obtain ⟨hrec5, hq5, hk5⟩ := hG5; have hrec5 := (show RecAt w5 NA [.slice ra rm rc, .slice none 0 0] from hrec5); obtain ⟨⟨z0, z1⟩, zf0, zf1⟩ := hrec5.two; have hN5 := hrec5.lt; have HA := Lib.hid (show QR (fun _ => False) True w (w5.setCell ⟨NA, 0, none⟩ (.slice (some ⟨gg, 0, none⟩) (rm + 1) cap)) Lo B ps tv n T NA NA [.int .i64 0, .bool false, .string ⟨#[]⟩, .slice none 0 0, .slice none 0 0, .slice none 0 0, .slice none 0 0, .slice none 0 0] [] [.sl 8 []] [] [.slice none 0 0] 1 29 J y (rm + 1) (some ⟨gg, 0, none⟩) cap ([] ++ [wordR pd]) from hq5); replace HKR := Lib.hid (show Keeps (fun b => b = ps) wk (w5.setCell ⟨NA, 0, none⟩ (.slice (some ⟨gg, 0, none⟩) (rm + 1) cap)) from HKR.out.fresh hk5 (fun b e => by rcases e with e | e; rw [e]; exact HNA.out.2; exact Nat.le_trans HNA.out.2 (HLW.out b e).1)); clear hrec5 hq5 hk5; clear hown2 hgrow hat)
        have HP := Lib.hid (show (y = 0 ∧ ∃ M2, T.length - J + 1 ≤ M2 ∧ res = qK K M wd acc (qarmP K (patsLoop (scrF (commandF K)) M2 ([] ++ [wordR pd]) (T.drop J)))) ∨ (y ≠ 0 ∧ res = .error y) from by
          rcases HOR.out with ⟨h1, h2, _, hw⟩ | ⟨h1, hw⟩
          · refine .inl ⟨h1, _, Nat.le_refl _, ?_⟩
            rw [HR1.out, hw]
            dsimp only
            rw [← h2, List.length_drop]
            rfl
          · exact .inr ⟨h1, by rw [HR1.out, hw]; rfl⟩)
        have HJX := Lib.hid (show I ≤ J ∧ J ≤ T.length from by have := HJ.out; have := HJ0.out; omega)
        have HJZ := Lib.hid (show y = 0 → I + 1 ≤ J from fun h => by
          rcases HOR.out with ⟨_, h2, _, _⟩ | ⟨h1, _⟩
          · have := HJ0.out; omega
          · exact absurd h h1)
        obtain ⟨wB, hwB⟩ : ∃ wB, wB = w5.setCell ⟨NA, 0, none⟩ (.slice (some ⟨gg, 0, none⟩) (rm + 1) cap) := ⟨_, rfl⟩
        rw [← hwB]
        rw [← hwB] at HA HKR
        clear hwB z0 z1 zf0 zf1 hN5 x0 x1 xf0 xf1 hNl hlt5 HR1 HOR HJ HR0
        go_cut [9] from 24 to 124 (fun v9 wx => ∃ (gq : Prop) (I2 x2 qm : Nat) (qa : Option Addr) (qc : Nat) (pats : List Dt) (wy : World), wy = wx ∧ Hid (I ≤ I2 ∧ I2 ≤ T.length) ∧ Hid (x2 = 0 → I + 1 ≤ I2) ∧ Hid (QR (fun _ => False) gq w wy Lo B ps tv n T NA NA [.int .i64 0, .bool false, .string ⟨#[]⟩, .slice none 0 0, .slice none 0 0, .slice none 0 0, .slice none 0 0, .slice none 0 0] [] [.sl 8 []] [] [.slice none 0 0] 1 29 I2 x2 qm qa qc pats) ∧ Hid (Keeps (fun b => b = ps) wk wy) ∧ Hid (EXs gq (res = qK K M wd acc (qarmP K (.ok (pats, T.drop I2)))) x2 res))
        case first =>
          obtain ⟨gy, hgy⟩ : ∃ gy, (y = 0 ∧ gy = T.length + 2000 - J) ∨ (y ≠ 0 ∧ gy = 0) := by
            by_cases h0 : y = 0
            · exact ⟨_, .inl ⟨h0, rfl⟩⟩
            · exact ⟨_, .inr ⟨h0, rfl⟩⟩
          have HGY := Lib.hid hgy
          clear hgy
          go_wp2_with fail
          go_loopg [9] gy (fun g v9 wr => ∃ (gq : Prop) (I2 x2 qm : Nat) (qa : Option Addr) (qc : Nat) (pats : List Dt), ((x2 = 0 ∧ g = T.length + 2000 - I2) ∨ (x2 ≠ 0 ∧ g = 0)) ∧ I ≤ I2 ∧ I2 ≤ T.length ∧ (x2 = 0 → I + 1 ≤ I2 ∧ qm ≤ I2 + 10) ∧ Hid (QR (fun _ => False) gq w wr Lo B ps tv n T NA NA [.int .i64 0, .bool false, .string ⟨#[]⟩, .slice none 0 0, .slice none 0 0, .slice none 0 0, .slice none 0 0, .slice none 0 0] [] [.sl 8 []] [] [.slice none 0 0] 1 29 I2 x2 qm qa qc pats) ∧ Hid (Keeps (fun b => b = ps) wk wr) ∧ Hid ((gq ∧ x2 = 0 ∧ ∃ M2, T.length - I2 + 1 ≤ M2 ∧ res = qK K M wd acc (qarmP K (patsLoop (scrF (commandF K)) M2 pats (T.drop I2)))) ∨ (x2 ≠ 0 ∧ res = .error x2)))
          case atStart => exact ⟨True, J, y, rm + 1, _, _, [] ++ [wordR pd], HGY.out, HJX.out.1, HJX.out.2, fun h => ⟨HJZ.out h, by omega⟩, HA, HKR, Lib.hid (by rcases HP.out with ⟨h1, h2⟩ | h; exact .inl ⟨trivial, h1, h2⟩; exact .inr h)⟩
          case round =>
            clear HA HKR HP
            obtain ⟨gq, I2, x2, qm, qa, qc, pats, hgk2, hI2, hI2T, hqm, HA, HKR, HSQ⟩ := hrel
            have HGK2 := Lib.hid hgk2
            clear hgk2
            obtain ⟨c0, c1, c2, f1, f2⟩ := HA.out.rs.cells
            have hlt := HA.out.rs.lt
            by_cases hx2 : x2 = 0
            · subst hx2
              obtain ⟨hI2b, hqm2⟩ := hqm rfl
              obtain ⟨g, M2, hM2, hr⟩ : gq ∧ ∃ M2, T.length - I2 + 1 ≤ M2 ∧ res = qK K M wd acc (qarmP K (patsLoop (scrF (commandF K)) M2 pats (T.drop I2))) := by
                rcases HSQ.out with ⟨g, _, h9⟩ | ⟨h9, _⟩
                · exact ⟨g, h9⟩
                · exact absurd rfl h9
              obtain ⟨M2, rfl⟩ : ∃ M', M2 = M' + 1 := ⟨M2 - 1, by omega⟩
              have HGQ := Lib.hid g
              rw [qpats_succ] at hr
              clear g HSQ
              cases ho : isOpF [124] (T.drop I2) with
              | false =>
                have HE := Lib.hid (show EXs gq (res = qK K M wd acc (qarmP K (.ok (pats, T.drop I2)))) 0 res from .inl ⟨HGQ.out, rfl, by rw [hr, ho, if_neg (by simp)]⟩)
                have HQ3 := Lib.hid (qop_at HA.out.rs [124] false ho 0)
                clear ho hr
                go_wp2_with fail
                refine HQ3.out.mono ?_
                rintro e wq ⟨rfl, dq, rfl⟩
                obtain ⟨wl3, hw2⟩ : ∃ wl3, wl3 = wr.drewN dq := ⟨_, rfl⟩
                rw [← hw2]
                have hkw : Keeps (fun _ => False) wr wl3 := by rw [hw2]; exact (Keeps.refl _ _).drewN _
                replace HA := Lib.hid (HA.out.keep0 hkw)
                replace HKR := Lib.hid (HKR.out.trans hkw (fun _ _ h => h.elim))
                clear hw2 hkw
                go_wp2_with fail
                go_meet
                case rel => exact ⟨gq, I2, 0, qm, qa, qc, pats, _, rfl, Lib.hid ⟨hI2, hI2T⟩, Lib.hid (fun _ => hI2b), HA, HKR, HE⟩
              | true =>
                rw [ho, if_pos rfl, drop_tail] at hr
                have HR2 := Lib.hid hr
                have hIl := toks_in (op_pos ho)
                have hsum2 : IntKind.i64.wrap ((I2 : Int) + 1) = (I2 : Int) + 1 := IntWalk.i64_in _ (by omega)
                have HQ3 := Lib.hid (qop_at HA.out.rs [124] true ho 0)
                clear ho hr c0 c1 c2 f1 f2 hlt
                obtain ⟨c0, c1, c2, f1, f2⟩ := HA.out.rs.cells
                have hlt := HA.out.rs.lt
                go_wp2_with fail
                refine HQ3.out.mono ?_
                rintro e wq ⟨rfl, dq, rfl⟩
                obtain ⟨wl3, hw2⟩ : ∃ wl3, wl3 = wr.drewN dq := ⟨_, rfl⟩
                rw [← hw2]
                have hkw : Keeps (fun _ => False) wr wl3 := by rw [hw2]; exact (Keeps.refl _ _).drewN _
                replace HA := Lib.hid (HA.out.keep0 hkw)
                replace HKR := Lib.hid (HKR.out.trans hkw (fun _ _ h => h.elim))
                clear hw2 hkw
                obtain ⟨c0, c1, c2, f1, f2⟩ := HA.out.rs.cells
                have hlt := HA.out.rs.lt
                go_wp2_with fail
                obtain ⟨wi, hwi⟩ : ∃ wi, wi = wl3.setCell ⟨ps, 1, none⟩ (.int .i64 ((I2 : Int) + 1)) := ⟨_, rfl⟩
                rw [← hwi]
                obtain ⟨hinc1, hinc⟩ := inc_qs HA.out.rs (by omega)
                rw [← hwi] at hinc1 hinc
                replace HA := Lib.hid (HA.out.move HPS.out HNA.out.1 HNA.out.1 hinc hinc1)
                replace HKR := Lib.hid (HKR.out.trans hinc (fun _ _ h => h))
                clear hwi hinc hinc1 c0 c1 c2 f1 f2 hlt
                refine (qtake_uni K HSC.out wi Lo B ps n (I2 + 1) deep tv T HD.out HA.out.rs).mono ?_
                rintro e w4 ⟨pd, pa, pc, J2, y2, rfl, hpt, hsm, hj1, hj2, hs4, hk4, hor⟩
                obtain ⟨pl, hpl⟩ : ∃ pl, pl = pd.length := ⟨_, rfl⟩
                rw [← hpl]
                have hna := HA.out.rc.lt
                obtain ⟨xs, hown4, hrec4, hF⟩ := HA.out.more (G' := True) (y := y2) (J := J2) (us := [.slice pa pl pc]) (d2 := [wordR pd]) HPS.out HNA.out.1 HNA.out.1 (by omega) hk4 hs4 (fun _ => HGQ.out) (fun _ => ⟨by rw [hpl]; exact (rd_pts hpt).mono (fun b _ hb => .inl hb), trivial⟩) (fun b hb => hb.elim)
                have HF := Lib.hid hF
                have HLW := Lib.hid HA.out.low
                have HOR := Lib.hid hor
                replace HKR := Lib.hid (HKR.out.trans hk4 (fun _ _ h => h))
                have HJ := Lib.hid (show (I2 + 1) ≤ J2 ∧ J2 ≤ T.length from ⟨hj1, hj2 (by omega)⟩)
                have hrec4' := (show RecAt w4 NA [.slice qa qm qc, .slice none 0 0] from hrec4)
                obtain ⟨⟨x0, x1⟩, xf0, xf1⟩ := hrec4'.two
                have hNl := hrec4.lt
                clear hF hrec4 hrec4' hs4 hk4 hpt hsm hor hpl hna hj1 hj2
                go_wp2_with (at_builtin; refine wpList_append_lies _ rfl (.tmp 72) (.tmp 74) _ rfl 0 29 i2 _ 1 24 Tryz.underlying39 hi2 hx0 hx1 hx2 rfl (by omega) (.slice qa qm qc) qm xs rfl (hown4.alloc _) ⟨w4.heap.size, 0, none⟩ 1 1 [.slice pa pl pc] rfl rfl (World.news_of_block (cs := #[.slice pa pl pc]) (t := 29) (fr := (0, 0)) (heap_alloc_new w4 _)) (by simp [Value.oneCell']) (by omega) (by unfold maxLen; omega) (by omega) (by simp) (w4.heap.size + 1) (by simp) ?_; intro gg cap w5 hown2 hgrow hat hlt5; have hG5 := HF.out gg (qm + 1) cap w5 _ hown2 ((Keeps.refl _ _).alloc _) hgrow (hat.imp id (fun h => by omega)); obtain ⟨hrec5, hq5, hk5⟩ := hG5; have hrec5 := (show RecAt w5 NA [.slice qa qm qc, .slice none 0 0] from hrec5); obtain ⟨⟨z0, z1⟩, zf0, zf1⟩ := hrec5.two; have hN5 := hrec5.lt; have HA := Lib.hid (show QR (fun _ => False) True w (w5.setCell ⟨NA, 0, none⟩ (.slice (some ⟨gg, 0, none⟩) (qm + 1) cap)) Lo B ps tv n T NA NA [.int .i64 0, .bool false, .string ⟨#[]⟩, .slice none 0 0, .slice none 0 0, .slice none 0 0, .slice none 0 0, .slice none 0 0] [] [.sl 8 []] [] [.slice none 0 0] 1 29 J2 y2 (qm + 1) (some ⟨gg, 0, none⟩) cap (pats ++ [wordR pd]) from hq5); replace HKR := Lib.hid (show Keeps (fun b => b = ps) wk (w5.setCell ⟨NA, 0, none⟩ (.slice (some ⟨gg, 0, none⟩) (qm + 1) cap)) from HKR.out.fresh hk5 (fun b e => by rcases e with e | e; rw [e]; exact HNA.out.2; exact Nat.le_trans HNA.out.2 (HLW.out b e).1)); clear hrec5 hq5 hk5; clear hown2 hgrow hat)
                rcases HOR.out with ⟨h1, h2, _, hw⟩ | ⟨h1, hw⟩
                · go_roundg (T.length + 2000 - J2)
                  case measure => have := HGK2.out; omega
                  case rel => exact ⟨True, J2, y2, qm + 1, _, _, pats ++ [wordR pd], .inl ⟨h1, rfl⟩, by omega, by omega, fun _ => by omega, HA, HKR, Lib.hid (.inl ⟨trivial, h1, M2, by omega, by rw [HR2.out, hw, h2]⟩)⟩
                · go_roundg 0
                  case measure => have := HGK2.out; omega
                  case rel => exact ⟨True, J2, y2, qm + 1, _, _, pats ++ [wordR pd], .inr ⟨h1, rfl⟩, by have := HJ.out; omega, HJ.out.2, fun h => absurd h h1, HA, HKR, Lib.hid (.inr ⟨h1, by rw [HR2.out, hw]; rfl⟩)⟩
            · have t9 : ((x2 : Int) == 0) = false := by rw [beq_eq_false_iff_ne]; omega
              have HE := Lib.hid (show EXs gq (res = qK K M wd acc (qarmP K (.ok (pats, T.drop I2)))) x2 res from .inr ⟨hx2, by rcases HSQ.out with ⟨_, h9, _⟩ | ⟨_, h9⟩; exact absurd h9 hx2; exact h9⟩)
              have HXN := Lib.hid hx2
              clear hx2 HSQ
              go_wp2_with fail
              go_meet
              case rel => exact ⟨gq, I2, x2, qm, qa, qc, pats, _, rfl, Lib.hid ⟨hI2, hI2T⟩, Lib.hid (fun h => absurd h HXN.out), HA, HKR, HE⟩
        case rest =>
        clear HA HKR HP HJX HJZ HJ0 HJT HJD hjT
        obtain ⟨gq, I2, x2, qm, qa, qc, pats, wy, hwy, HJ2, HJ3, HA, HKR, HEX⟩ := hcut
        subst hwy
        have hI2T := HJ2.out.2
        cases ob2 : isOpF [41] (T.drop I2) with
        | false =>
          obtain ⟨xf, hxf⟩ : ∃ xf, xf = badX x2 := ⟨_, rfl⟩
          have HBAD := Lib.hid (show ∀ w D us, QF false w D T res us I2 xf from fun _ _ _ => by
            rcases HEX.out with ⟨g, h0, hr⟩ | ⟨h0, hr⟩
            · rw [show badX x2 = 2 from if_pos h0] at hxf
              exact QF.err (by omega) (by rw [hr, hxf, qarmP_no ob2]; rfl)
            · rw [show badX x2 = x2 from if_neg h0] at hxf
              exact QF.err (by omega) (by rw [hr, hxf]))
          have HXF := Lib.hid hxf
          have HQ4 := Lib.hid (qop_at HA.out.rs [41] false ob2 0)
          have HIB := Lib.hid (show i ≤ I2 ∧ I2 ≤ T.length + (2 * K + 2) by have := HJ2.out; omega)
          clear ob2 hxf HEX
          go_wp2_with fail
          refine HQ4.out.mono ?_
          rintro e wq ⟨rfl, dq, rfl⟩
          obtain ⟨wl4, hw2⟩ : ∃ wl4, wl4 = wy.drewN dq := ⟨_, rfl⟩
          rw [← hw2]
          have hkw : Keeps (fun _ => False) wy wl4 := by rw [hw2]; exact (Keeps.refl _ _).drewN _
          replace HA := Lib.hid (HA.out.keep0 hkw)
          replace HKR := Lib.hid (HKR.out.trans hkw (fun _ _ h => h.elim))
          clear hw2 hkw
          go_wp2_with fail
          refine (qfail_any wl4 Lo B ps n I2 x2 2 tv T HA.out.rs).mono ?_
          rintro e wz ⟨rfl, hsz, hkz⟩
          have hsz := (show QS wz Lo B ps tv n T I2 xf by rw [HXF.out]; exact hsz)
          replace HG := Lib.hid (HG.out.move HPS.out (Nat.lt_succ_self _) HNX.out (HKR.out.trans hkz (fun _ _ h => h)) hsz)
          clear hsz hkz
          obtain ⟨⟨x0, x1, x2, x3, x4, x5, x6, x7⟩, ⟨xf0, xf1, xf2, xf3, xf4, xf5, xf6, xf7⟩⟩ := (show RecAt wz N [.int .i64 10, .bool false, .string ⟨#[]⟩, .slice (some ⟨NW, 0, none⟩) 1 1, .slice none 0 0, .slice none 0 0, .slice none 0 0, .slice la m lc] from HG.out.rc).eight
          have hNl := HG.out.rc.lt
          have HF := Lib.hid (show QF false wz (fun b => Qd Lo B w.heap.size b ∧ b ≠ w.heap.size) T res [.int .i64 10, .bool false, .string ⟨#[]⟩, .slice (some ⟨NW, 0, none⟩) 1 1, .slice none 0 0, .slice none 0 0, .slice none 0 0, .slice la m lc] I2 xf from qr_fin HG.out (Nat.lt_succ_self _) HPS.out (.inr HBAD.out))
          have HK := Lib.hid HG.out.kp
          have HS := Lib.hid HG.out.rs
          obtain ⟨⟨z0, z1, z2, z3, z4, z5, z6, z7⟩, ⟨zf0, zf1, zf2, zf3, zf4, zf5, zf6, zf7⟩⟩ := HG.out.zr.eight
          have hzl := HG.out.zr.lt
          go_wp2_with fail
          refine bodyPost_ret (v := .agg #[.int .i64 10, .bool false, .string ⟨#[]⟩, .slice (some ⟨NW, 0, none⟩) 1 1, .slice none 0 0, .slice none 0 0, .slice none 0 0, .slice la m lc]) (by simp [results, Tryz.results183, go_sem, z0, z1, z2, z3, z4, z5, z6, z7]) rfl ?_
          obtain ⟨f1, f2, f3⟩ := qnd_fin HK.out HS.out HPS.out HF.out (set8_keeps wz w.heap.size (.int .i64 10) (.bool false) (.string ⟨#[]⟩) (.slice (some ⟨NW, 0, none⟩) 1 1) (.slice none 0 0) (.slice none 0 0) (.slice none 0 0) (.slice la m lc))
          exact ⟨⟨10, false, ⟨#[]⟩, some ⟨NW, 0, none⟩, 1, 1, none, 0, 0, none, 0, 0, none, 0, 0, la, m, lc⟩, I2, xf, rfl, HIB.out.1, HIB.out.2, f1, f2, f3⟩
        | true =>
          have HQ4 := Lib.hid (qop_at HA.out.rs [41] true ob2 0)
          have hI2l := toks_in (op_pos ob2)
          have HOB2 := Lib.hid ob2
          have hsum4 : IntKind.i64.wrap ((I2 : Int) + 1) = (I2 : Int) + 1 := IntWalk.i64_in _ (by omega)
          clear ob2
          go_wp2_with fail
          refine HQ4.out.mono ?_
          rintro e wq ⟨rfl, dq, rfl⟩
          obtain ⟨wl4, hw2⟩ : ∃ wl4, wl4 = wy.drewN dq := ⟨_, rfl⟩
          rw [← hw2]
          have hkw : Keeps (fun _ => False) wy wl4 := by rw [hw2]; exact (Keeps.refl _ _).drewN _
          replace HA := Lib.hid (HA.out.keep0 hkw)
          replace HKR := Lib.hid (HKR.out.trans hkw (fun _ _ h => h.elim))
          clear hw2 hkw
          obtain ⟨c0, c1, c2, f1, f2⟩ := HA.out.rs.cells
          have hlt := HA.out.rs.lt
          go_wp2_with fail
          obtain ⟨wi, hwi⟩ : ∃ wi, wi = wl4.setCell ⟨ps, 1, none⟩ (.int .i64 ((I2 : Int) + 1)) := ⟨_, rfl⟩
          rw [← hwi]
          obtain ⟨hinc1, hinc⟩ := inc_qs HA.out.rs (by omega)
          rw [← hwi] at hinc1 hinc
          replace HA := Lib.hid (HA.out.move HPS.out HNA.out.1 HNA.out.1 hinc hinc1)
          replace HKR := Lib.hid (HKR.out.trans hinc (fun _ _ h => h))
          clear hwi hinc hinc1 c0 c1 c2 f1 f2 hlt
          refine (qlines_any wi Lo B ps n (I2 + 1) x2 tv T HA.out.rs).mono ?_
          rintro e wl5 ⟨rfl, j4, hl1, hl2, hl3, hl4, hsl4, hkl4⟩
          replace HA := Lib.hid (HA.out.move HPS.out HNA.out.1 HNA.out.1 hkl4 hsl4)
          replace HKR := Lib.hid (HKR.out.trans hkl4 (fun _ _ h => h))
          have hj4T : j4 ≤ T.length := hl2 (by omega)
          have HJ4 := Lib.hid (show I2 + 1 ≤ j4 from hl1)
          have HL4 := Lib.hid (show linesF (T.drop j4) = T.drop j4 by rw [hl4, lines_idem])
          have HEX2 := Lib.hid (show EXs gq (res = qK K M wd acc (qarmB K pats (T.drop j4))) x2 res from by
            rcases HEX.out with ⟨g, h0, hr⟩ | h
            · exact .inl ⟨g, h0, by rw [hr, qarmP_yes HOB2.out, drop_tail, ← hl4]⟩
            · exact .inr h)
          clear hl1 hl2 hl3 hl4 hsl4 hkl4 HEX
          cases ob3 : isOpF [59, 59] (T.drop j4) with
          | true =>
            have HQS := Lib.hid (arm_none HEX2.out (fun _ => hj4T) (.inl ob3))
            have HSB := Lib.hid HA.out.rs
            have HAR := Lib.hid (show RecAt wl5 NA [.slice qa qm qc, .slice none 0 0] from HA.out.rc)
            have HRDA := Lib.hid (show gq → RdL wl5 (Qd Lo B wk.heap.size) [.sl 1 pats, .sl 8 []] [.slice qa qm qc, .slice none 0 0] from fun g => ⟨(qr_own HA.out g).mono (fun b _ hb => by rcases hb.1 with h | h; exact .inl h; exact .inr (Nat.le_trans HNA.out.2 h)), .nil _ _ _ (Nat.zero_le _), trivial⟩)
            have HJB := Lib.hid (show I ≤ j4 ∧ i ≤ j4 from by have := HJ4.out; have := HJ2.out; omega)
            have HJC := Lib.hid (show j4 ≤ T.length + 2 * K by omega)
            have HQ5 := Lib.hid (qop_at HA.out.rs [59, 59] true ob3 0)
            have ho := ob3
            have HO5 := Lib.hid ob3
            clear ob3
            go_wp2_with fail
            refine HQ5.out.mono ?_
            rintro e wq ⟨rfl, dq, rfl⟩
            obtain ⟨wl6, hw6⟩ : ∃ wl6, wl6 = wl5.drewN dq := ⟨_, rfl⟩
            rw [← hw6]
            have hkw : Keeps (fun _ => False) wl5 wl6 := by rw [hw6]; exact (Keeps.refl _ _).drewN _
            replace HKR := Lib.hid (HKR.out.trans hkw (fun _ _ h => h.elim))
            replace HSB := Lib.hid (HSB.out.keep0 hkw)
            replace HAR := Lib.hid (HAR.out.keep hkw (fun h => h))
            replace HRDA := Lib.hid (fun g => (HRDA.out g).keep hkw (fun _ _ _ h => h))
            clear hw6 hkw ho HA
            have hnr := HG.out.rc.lt
            obtain ⟨xs, hown4, hrec4, hF⟩ := HG.out.more (G' := gq) (y := x2) (J := j4) (us := [.slice qa qm qc, .slice none 0 0]) (d2 := [.sl 1 pats, .sl 8 []]) HPS.out (Nat.lt_succ_self _) HNX.out (by have := HNE.out; omega) HKR.out HSB.out (fun _ => HG1.out) (fun g => HRDA.out g) (fun b hb => hb.elim)
            have HF := Lib.hid hF
            obtain ⟨⟨u0, u1, u2, u3, u4, u5, u6, u7⟩, ⟨uf0, uf1, uf2, uf3, uf4, uf5, uf6, uf7⟩⟩ := (show RecAt wl6 N [.int .i64 10, .bool false, .string ⟨#[]⟩, .slice (some ⟨NW, 0, none⟩) 1 1, .slice none 0 0, .slice none 0 0, .slice none 0 0, .slice la m lc] from hrec4).eight
            obtain ⟨⟨n0, n1⟩, nf0, nf1⟩ := HAR.out.two
            have hNl := hrec4.lt
            have hNAl := HAR.out.lt
            have hne9 : N ≠ NA := by have := HNN.out; omega
            clear hF hrec4 hnr
            go_upto_region 26 with (at_builtin; refine wpList_append_lies _ rfl (.tmp 108) (.tmp 110) _ rfl 0 49 i0 _ 2 48 Tryz.underlying42 hi0 hz0 hz1 hz2 rfl (by omega) (.slice la m lc) m xs rfl (hown4.alloc _) ⟨wl6.heap.size, 0, none⟩ 1 1 [.slice qa qm qc, .slice none 0 0] rfl rfl (World.news_of_block (cs := #[.slice qa qm qc, .slice none 0 0]) (t := 49) (fr := (0, 0)) (heap_alloc_new wl6 _)) (by simp [Value.oneCell']) (by omega) (by unfold maxLen; omega) (by omega) (by simp) (wl6.heap.size + 1) (by simp) ?_; intro gg cap w5 hown2 hgrow hat hlt5; have hG5 := HF.out gg (m + 1) cap w5 _ hown2 ((Keeps.refl _ _).alloc _) hgrow (hat.imp id (fun h => by omega)); obtain ⟨hrec5, hq5, hk5⟩ := hG5; have hrec5 := (show RecAt w5 N [.int .i64 10, .bool false, .string ⟨#[]⟩, .slice (some ⟨NW, 0, none⟩) 1 1, .slice none 0 0, .slice none 0 0, .slice none 0 0, .slice la m lc] from hrec5); obtain ⟨⟨z0, z1, z2, z3, z4, z5, z6, z7⟩, ⟨zf0, zf1, zf2, zf3, zf4, zf5, zf6, zf7⟩⟩ := hrec5.eight; have hN5 := hrec5.lt; have HG := Lib.hid (show QR (fun _ => False) gq w (w5.setCell ⟨N, 7, none⟩ (.slice (some ⟨gg, 0, none⟩) (m + 1) cap)) Lo B ps tv n T (w.heap.size + 1) N [.int .i64 0, .bool false, .string ⟨#[]⟩, .slice none 0 0, .slice none 0 0, .slice none 0 0, .slice none 0 0, .slice none 0 0] [.int 10, .bool false, .str [], .sl 1 [wordR wd], .sl 2 [], .sl 2 [], .sl 8 []] [] [.int .i64 10, .bool false, .string ⟨#[]⟩, .slice (some ⟨NW, 0, none⟩) 1 1, .slice none 0 0, .slice none 0 0, .slice none 0 0] [] 2 49 j4 x2 (m + 1) (some ⟨gg, 0, none⟩) cap (acc ++ [.sl 1 pats, .sl 8 []]) from hq5); clear hrec5 hq5 hk5; clear hown2 hgrow hat)
            obtain ⟨wp, hwp⟩ : ∃ wp, wp = w5.setCell ⟨N, 7, none⟩ (.slice (some ⟨gg, 0, none⟩) (m + 1) cap) := ⟨_, rfl⟩
            rw [← hwp]
            rw [← hwp] at HG
            clear hwp z0 z1 z2 z3 z4 z5 z6 z7 n0 n1 nf0 nf1 hNAl hne9 hNl hN5
            try clear zf0 zf1 zf2 zf3 zf4 zf5 zf6 zf7
            clear u0 u1 u2 u3 u4 u5 u6 u7 uf0 uf1 uf2 uf3 uf4 uf5 uf6 uf7
            have ho := HO5.out
            have HO := Lib.hid ho
            have hjl := toks_in (op_pos ho)
            have hsumB : IntKind.i64.wrap ((j4 : Int) + 1) = (j4 : Int) + 1 := IntWalk.i64_in _ (by omega)
            have HQ := Lib.hid (qop_at HG.out.rs [59, 59] true ho 0)
            clear ho
            go_wp2_with fail
            refine HQ.out.mono ?_
            rintro e wq ⟨rfl, dq, rfl⟩
            obtain ⟨wq1, hw2⟩ : ∃ wq1, wq1 = wp.drewN dq := ⟨_, rfl⟩
            rw [← hw2]
            have hkw : Keeps (fun _ => False) wp wq1 := by rw [hw2]; exact (Keeps.refl _ _).drewN _
            replace HG := Lib.hid (HG.out.keep0 hkw)
            clear hw2 hkw
            obtain ⟨c0, c1, c2, f1, f2⟩ := HG.out.rs.cells
            have hlt := HG.out.rs.lt
            go_wp2_with fail
            obtain ⟨wq2, hw2⟩ : ∃ wq2, wq2 = wq1.setCell ⟨ps, 1, none⟩ (.int .i64 ((j4 : Int) + 1)) := ⟨_, rfl⟩
            rw [← hw2]
            obtain ⟨hinc1, hinc⟩ := inc_qs HG.out.rs (by omega)
            rw [← hw2] at hinc1 hinc
            replace HG := Lib.hid (HG.out.move HPS.out (Nat.lt_succ_self _) HNX.out hinc hinc1)
            clear hw2 hinc hinc1
            clear c0 c1 c2 f1 f2 hlt
            refine (qlines_any wq2 Lo B ps n (j4 + 1) x2 tv T HG.out.rs).mono ?_
            rintro e wq3 ⟨rfl, I3, hl1, hl2, hl3, hl4, hsl4, hkl4⟩
            replace HG := Lib.hid (HG.out.move HPS.out (Nat.lt_succ_self _) HNX.out hkl4 hsl4)
            have hI3T : I3 ≤ T.length := hl2 (by omega)
            have HI3 := Lib.hid hl1
            have HCA := Lib.hid (show CA gq K wd (acc ++ [.sl 1 pats, .sl 8 []]) T I3 x2 res from by
              rcases HQS.out with ⟨g, h0, _, hr⟩ | ⟨h0, hr⟩ | ⟨_, ho9, _⟩
              · refine .inl ⟨g, h0, hI3T, M, by have := HJB.out; omega, ?_⟩
                rw [hr, qK_more HO.out, hl4, drop_tail]
              · exact .inr ⟨h0, hr⟩
              · rw [op40_ne ho9 [59, 59] (by decide)] at HO
                cases HO.out)
            clear hl1 hl2 hl3 hl4 hsl4 hkl4
            go_wp2_with fail
            by_cases hxb : x2 = 0
            · go_roundg (T.length + 2000 - I3)
              case measure => have := HGK.out; have := HJB.out; have := HI3.out; omega
              case rel => exact ⟨gq, I3, x2, m + 1, _, _, _, .inl ⟨hxb, rfl⟩, by have := HJB.out; have := HI3.out; omega, by omega, fun _ => by have := HJB.out; have := HI3.out; omega, HG, HCA⟩
            · go_roundg 0
              case measure => have := HGK.out; omega
              case rel => exact ⟨gq, I3, x2, m + 1, _, _, _, .inr ⟨hxb, rfl⟩, by have := HJB.out; have := HI3.out; omega, by omega, fun h => absurd h hxb, HG, HCA⟩
          | false =>
            have HQ5 := Lib.hid (qop_at HA.out.rs [59, 59] false ob3 0)
            obtain ⟨s4, hs4⟩ : ∃ s4, plainT (atF (T.drop j4)) = s4 := ⟨_, rfl⟩
            have HS4 := Lib.hid hs4
            have HQ6 := Lib.hid (fun q => qplain_at HA.out.rs s4 hs4 q)
            have HO5 := Lib.hid ob3
            clear hs4 ob3
            by_cases he : s4 = [101, 115, 97, 99]
            · subst he
              have HQS := Lib.hid (arm_none HEX2.out (fun _ => hj4T) (.inr (by rw [isWF_plain HS4.out]; rfl)))
              have HSB := Lib.hid HA.out.rs
              have HAR := Lib.hid (show RecAt wl5 NA [.slice qa qm qc, .slice none 0 0] from HA.out.rc)
              have HRDA := Lib.hid (show gq → RdL wl5 (Qd Lo B wk.heap.size) [.sl 1 pats, .sl 8 []] [.slice qa qm qc, .slice none 0 0] from fun g => ⟨(qr_own HA.out g).mono (fun b _ hb => by rcases hb.1 with h | h; exact .inl h; exact .inr (Nat.le_trans HNA.out.2 h)), .nil _ _ _ (Nat.zero_le _), trivial⟩)
              have HJB := Lib.hid (show I ≤ j4 ∧ i ≤ j4 from by have := HJ4.out; have := HJ2.out; omega)
              have HJC := Lib.hid (show j4 ≤ T.length + 2 * K by omega)
              go_wp2_with fail
              refine HQ5.out.mono ?_
              rintro e wq ⟨rfl, dq, rfl⟩
              go_wp2_with fail
              refine (HQ6.out dq).mono ?_
              rintro e wq ⟨rfl, dq2, rfl⟩
              obtain ⟨wl6, hw6⟩ : ∃ wl6, wl6 = wl5.drewN dq2 := ⟨_, rfl⟩
              rw [← hw6]
              have hkw : Keeps (fun _ => False) wl5 wl6 := by rw [hw6]; exact (Keeps.refl _ _).drewN _
              replace HKR := Lib.hid (HKR.out.trans hkw (fun _ _ h => h.elim))
              replace HSB := Lib.hid (HSB.out.keep0 hkw)
              replace HAR := Lib.hid (HAR.out.keep hkw (fun h => h))
              replace HRDA := Lib.hid (fun g => (HRDA.out g).keep hkw (fun _ _ _ h => h))
              clear hw6 hkw HA
              have hnr := HG.out.rc.lt
              obtain ⟨xs, hown4, hrec4, hF⟩ := HG.out.more (G' := gq) (y := x2) (J := j4) (us := [.slice qa qm qc, .slice none 0 0]) (d2 := [.sl 1 pats, .sl 8 []]) HPS.out (Nat.lt_succ_self _) HNX.out (by have := HNE.out; omega) HKR.out HSB.out (fun _ => HG1.out) (fun g => HRDA.out g) (fun b hb => hb.elim)
              have HF := Lib.hid hF
              obtain ⟨⟨u0, u1, u2, u3, u4, u5, u6, u7⟩, ⟨uf0, uf1, uf2, uf3, uf4, uf5, uf6, uf7⟩⟩ := (show RecAt wl6 N [.int .i64 10, .bool false, .string ⟨#[]⟩, .slice (some ⟨NW, 0, none⟩) 1 1, .slice none 0 0, .slice none 0 0, .slice none 0 0, .slice la m lc] from hrec4).eight
              obtain ⟨⟨n0, n1⟩, nf0, nf1⟩ := HAR.out.two
              have hNl := hrec4.lt
              have hNAl := HAR.out.lt
              have hne9 : N ≠ NA := by have := HNN.out; omega
              clear hF hrec4 hnr
              go_upto_region 26 with (at_builtin; refine wpList_append_lies _ rfl (.tmp 108) (.tmp 110) _ rfl 0 49 i0 _ 2 48 Tryz.underlying42 hi0 hz0 hz1 hz2 rfl (by omega) (.slice la m lc) m xs rfl (hown4.alloc _) ⟨wl6.heap.size, 0, none⟩ 1 1 [.slice qa qm qc, .slice none 0 0] rfl rfl (World.news_of_block (cs := #[.slice qa qm qc, .slice none 0 0]) (t := 49) (fr := (0, 0)) (heap_alloc_new wl6 _)) (by simp [Value.oneCell']) (by omega) (by unfold maxLen; omega) (by omega) (by simp) (wl6.heap.size + 1) (by simp) ?_; intro gg cap w5 hown2 hgrow hat hlt5; have hG5 := HF.out gg (m + 1) cap w5 _ hown2 ((Keeps.refl _ _).alloc _) hgrow (hat.imp id (fun h => by omega)); obtain ⟨hrec5, hq5, hk5⟩ := hG5; have hrec5 := (show RecAt w5 N [.int .i64 10, .bool false, .string ⟨#[]⟩, .slice (some ⟨NW, 0, none⟩) 1 1, .slice none 0 0, .slice none 0 0, .slice none 0 0, .slice la m lc] from hrec5); obtain ⟨⟨z0, z1, z2, z3, z4, z5, z6, z7⟩, ⟨zf0, zf1, zf2, zf3, zf4, zf5, zf6, zf7⟩⟩ := hrec5.eight; have hN5 := hrec5.lt; have HG := Lib.hid (show QR (fun _ => False) gq w (w5.setCell ⟨N, 7, none⟩ (.slice (some ⟨gg, 0, none⟩) (m + 1) cap)) Lo B ps tv n T (w.heap.size + 1) N [.int .i64 0, .bool false, .string ⟨#[]⟩, .slice none 0 0, .slice none 0 0, .slice none 0 0, .slice none 0 0, .slice none 0 0] [.int 10, .bool false, .str [], .sl 1 [wordR wd], .sl 2 [], .sl 2 [], .sl 8 []] [] [.int .i64 10, .bool false, .string ⟨#[]⟩, .slice (some ⟨NW, 0, none⟩) 1 1, .slice none 0 0, .slice none 0 0, .slice none 0 0] [] 2 49 j4 x2 (m + 1) (some ⟨gg, 0, none⟩) cap (acc ++ [.sl 1 pats, .sl 8 []]) from hq5); clear hrec5 hq5 hk5; clear hown2 hgrow hat)
              obtain ⟨wp, hwp⟩ : ∃ wp, wp = w5.setCell ⟨N, 7, none⟩ (.slice (some ⟨gg, 0, none⟩) (m + 1) cap) := ⟨_, rfl⟩
              rw [← hwp]
              rw [← hwp] at HG
              clear hwp z0 z1 z2 z3 z4 z5 z6 z7 n0 n1 nf0 nf1 hNAl hne9 hNl hN5
              try clear zf0 zf1 zf2 zf3 zf4 zf5 zf6 zf7
              clear u0 u1 u2 u3 u4 u5 u6 u7 uf0 uf1 uf2 uf3 uf4 uf5 uf6 uf7
              have ho := HO5.out
              have HO := Lib.hid ho
              have HQ := Lib.hid (qop_at HG.out.rs [59, 59] false ho 0)
              clear ho
              go_wp2_with fail
              refine HQ.out.mono ?_
              rintro e wq ⟨rfl, dq, rfl⟩
              obtain ⟨wq1, hw2⟩ : ∃ wq1, wq1 = wp.drewN dq := ⟨_, rfl⟩
              rw [← hw2]
              have hkw : Keeps (fun _ => False) wp wq1 := by rw [hw2]; exact (Keeps.refl _ _).drewN _
              replace HG := Lib.hid (HG.out.keep0 hkw)
              clear hw2 hkw
              go_upto_region 29 with fail
              obtain ⟨la, hla⟩ : ∃ la2, la2 = (some ⟨gg, 0, none⟩ : Option Addr) := ⟨_, rfl⟩
              obtain ⟨m9, hmm⟩ : ∃ m9, m9 = m + 1 := ⟨_, rfl⟩
              rw [← hla, ← hmm] at HG
              clear hla hmm
              obtain ⟨xe, hxe⟩ : ∃ xe, xe = if x2 = 0 then (if isWF [101, 115, 97, 99] (T.drop j4) then 0 else 2) else x2 := ⟨_, rfl⟩
              have HFI := Lib.hid ((fun hxe => case_fin (ds := ndR 10 false [] [wordR wd] [] [] [] (acc ++ [.sl 1 pats, .sl 8 []])) HQS.out hxe (fun h => ⟨fun hw => by rw [h, qK_esac HO.out hw], fun hw => by rw [h, qK_no HO.out hw]⟩)) hxe)
              have HXE := Lib.hid hxe
              have HIB := Lib.hid (show i ≤ j4 + 1 ∧ j4 + 1 ≤ T.length + (2 * K + 2) by have := HJB.out; have := HJC.out; omega)
              have hI9 : j4 + 1 ≤ T.length + 900 := by have := HIB.out; have := HD.out; omega
              clear hxe
              go_wp2_with fail
              refine (qwant_any wq1 Lo B ps n j4 x2 tv T [101, 115, 97, 99] HG.out.rs (by omega)).mono ?_
              rintro e wz ⟨rfl, hsz, hkz⟩
              have hsz := (show QS wz Lo B ps tv n T (j4 + 1) xe by rw [HXE.out]; exact hsz)
              replace HG := Lib.hid (HG.out.move HPS.out (Nat.lt_succ_self _) HNX.out hkz hsz)
              clear hsz hkz
              obtain ⟨⟨x0, x1, x2, x3, x4, x5, x6, x7⟩, ⟨xf0, xf1, xf2, xf3, xf4, xf5, xf6, xf7⟩⟩ := (show RecAt wz N [.int .i64 10, .bool false, .string ⟨#[]⟩, .slice (some ⟨NW, 0, none⟩) 1 1, .slice none 0 0, .slice none 0 0, .slice none 0 0, .slice la m9 cap] from HG.out.rc).eight
              have hNl := HG.out.rc.lt
              have HF := Lib.hid (show QF false wz (fun b => Qd Lo B w.heap.size b ∧ b ≠ w.heap.size) T res [.int .i64 10, .bool false, .string ⟨#[]⟩, .slice (some ⟨NW, 0, none⟩) 1 1, .slice none 0 0, .slice none 0 0, .slice none 0 0, .slice la m9 cap] (j4 + 1) xe from qr_fin HG.out (Nat.lt_succ_self _) HPS.out (by rcases HFI.out with ⟨g, h0, hj, hr⟩ | ⟨h0, hr⟩; exact .inl ⟨g, h0, hj, ⟨_, _, _, _, _, _, _, _, rfl⟩, hr⟩; exact .inr fun _ _ _ => QF.err h0 hr))
              have HK := Lib.hid HG.out.kp
              have HS := Lib.hid HG.out.rs
              obtain ⟨⟨z0, z1, z2, z3, z4, z5, z6, z7⟩, ⟨zf0, zf1, zf2, zf3, zf4, zf5, zf6, zf7⟩⟩ := HG.out.zr.eight
              have hzl := HG.out.zr.lt
              go_wp2_with fail
              refine bodyPost_ret (v := .agg #[.int .i64 10, .bool false, .string ⟨#[]⟩, .slice (some ⟨NW, 0, none⟩) 1 1, .slice none 0 0, .slice none 0 0, .slice none 0 0, .slice la m9 cap]) (by simp [results, Tryz.results183, go_sem, z0, z1, z2, z3, z4, z5, z6, z7]) rfl ?_
              obtain ⟨f1, f2, f3⟩ := qnd_fin HK.out HS.out HPS.out HF.out (set8_keeps wz w.heap.size (.int .i64 10) (.bool false) (.string ⟨#[]⟩) (.slice (some ⟨NW, 0, none⟩) 1 1) (.slice none 0 0) (.slice none 0 0) (.slice none 0 0) (.slice la m9 cap))
              exact ⟨⟨10, false, ⟨#[]⟩, some ⟨NW, 0, none⟩, 1, 1, none, 0, 0, none, 0, 0, none, 0, 0, la, m9, cap⟩, (j4 + 1), xe, rfl, HIB.out.1, HIB.out.2, f1, f2, f3⟩
            · have t5 : (s4 == [101, 115, 97, 99]) = false := ls_ne he
              have t6 : (s4 != [101, 115, 97, 99]) = true := by rw [bne, t5]; rfl
              have HE5 := Lib.hid (show isWF [101, 115, 97, 99] (T.drop j4) = false by rw [isWF_plain HS4.out]; exact t5)
              clear he
              go_wp2_with fail
              refine HQ5.out.mono ?_
              rintro e wq ⟨rfl, dq, rfl⟩
              go_wp2_with fail
              refine (HQ6.out dq).mono ?_
              rintro e wq ⟨rfl, dq2, rfl⟩
              obtain ⟨wl6, hw6⟩ : ∃ wl6, wl6 = wl5.drewN dq2 := ⟨_, rfl⟩
              rw [← hw6]
              have hkw : Keeps (fun _ => False) wl5 wl6 := by rw [hw6]; exact (Keeps.refl _ _).drewN _
              replace HKR := Lib.hid (HKR.out.trans hkw (fun _ _ h => h.elim))
              replace HA := Lib.hid (HA.out.keep0 hkw)
              clear hw6 hkw
              go_wp2_with fail
              refine (qlist_uni K HC.out wl6 Lo B ps n j4 x2 (deep + 1) tv T HA.out.rs (fun _ => hj4T) (by have := HD.out; omega)).mono ?_
              rintro e w6 ⟨vb, jb, xb, rfl, hjb1, hjb2, hs6, hk6, hf6⟩
              obtain ⟨gb, db, hgb, hst⟩ := arm_list HEX2.out HL4.out HO5.out HE5.out hf6
              have HQS := Lib.hid hst
              go_upto_region 24 with fail
              obtain ⟨NB, hNB⟩ : ∃ NB, NB = w6.heap.size := ⟨_, rfl⟩
              obtain ⟨W7, hW7⟩ : ∃ W7, W7 = w6.alloc (.cells #[.int .i64 vb.k, .bool vb.nt, .string vb.nm, .slice vb.a0 vb.n0 vb.c0, .slice vb.a1 vb.n1 vb.c1, .slice vb.a2 vb.n2 vb.c2, .slice vb.a3 vb.n3 vb.c3, .slice vb.a4 vb.n4 vb.c4] 44) := ⟨_, rfl⟩
              rw [← hW7]
              try rw [← hNB]
              have hk7 : Keeps (fun _ => False) w6 W7 := by rw [hW7]; exact (Keeps.refl _ _).alloc _
              have HNB := Lib.hid (show RecAt W7 NB [.int .i64 vb.k, .bool vb.nt, .string vb.nm, .slice vb.a0 vb.n0 vb.c0, .slice vb.a1 vb.n1 vb.c1, .slice vb.a2 vb.n2 vb.c2, .slice vb.a3 vb.n3 vb.c3, .slice vb.a4 vb.n4 vb.c4] by rw [hW7, hNB]; exact new_rec8 _ _ _ _ _ _ _ _ _ _)
              have hkk := hk6.trans hk7 (fun _ _ h => h.elim)
              have hna6 := HA.out.rc.lt
              have hsz6 := hk6.size
              have hsz7 : W7.heap.size = w6.heap.size + 1 := by rw [hW7]; simp
              have HA7 := Lib.hid (HA.out.move HPS.out HNA.out.1 HNA.out.1 hkk (hs6.keep0 hk7))
              replace HKR := Lib.hid (HKR.out.trans hkk (fun _ _ h => h))
              have HDB := Lib.hid (show gb → gq ∧ NdD db ∧ RdL W7 (fun b => Qd Lo B (NA + 1) b ∧ b < NB) db vb.vals from fun g => ⟨(hgb g).1, (hgb g).2.1, ((hgb g).2.2.lt.keep hk7 (fun _ _ _ h => h)).mono (fun b _ hb => ⟨by rcases hb.1 with h | h; exact .inl h; exact .inr (by omega), by rw [hNB]; exact hb.2⟩)⟩)
              have HSZ := Lib.hid (show NA < NB ∧ NB < W7.heap.size by omega)
              obtain ⟨⟨x0, x1⟩, xf0, xf1⟩ := (show RecAt W7 NA [.slice qa qm qc, .slice none 0 0] from HA7.out.rc).two
              obtain ⟨⟨n0, n1, n2, n3, n4, n5, n6, n7⟩, ⟨nf0, nf1, nf2, nf3, nf4, nf5, nf6, nf7⟩⟩ := HNB.out.eight
              have hNl := HA7.out.rc.lt
              have hNBl := HNB.out.lt
              have hne7 : NA ≠ NB := by have := HSZ.out; omega
              have HJB := Lib.hid (show I ≤ jb ∧ i ≤ jb from by have := HJ4.out; have := HJ2.out; omega)
              have HJC := Lib.hid (show jb ≤ T.length + 2 * K by omega)
              clear hs6 hk6 hf6 hgb hst hk7 hkk hW7 hNB hna6 hsz6 hsz7 HA
              go_upto_region 25 with fail
              obtain ⟨KB, hKB⟩ : ∃ KB, KB = W7.heap.size := ⟨_, rfl⟩
              obtain ⟨W8, hW8⟩ : ∃ W8, W8 = (W7.setCell ⟨NA, 1, none⟩ (.slice (some ⟨W7.heap.size, 0, none⟩) 1 1)).alloc (.cells #[.int .i64 vb.k, .bool vb.nt, .string vb.nm, .slice vb.a0 vb.n0 vb.c0, .slice vb.a1 vb.n1 vb.c1, .slice vb.a2 vb.n2 vb.c2, .slice vb.a3 vb.n3 vb.c3, .slice vb.a4 vb.n4 vb.c4] 44) := ⟨_, rfl⟩
              rw [← hW8]
              obtain ⟨w8, hw8⟩ : ∃ w8, w8 = W7.setCell ⟨NA, 1, none⟩ (.slice (some ⟨W7.heap.size, 0, none⟩) 1 1) := ⟨_, rfl⟩
              rw [← hw8] at hW8
              have hs8 : w8.heap.size = W7.heap.size := by rw [hw8]; simp [World.setCell]
              have hk8 : Keeps (fun b => b = NA) W7 w8 := by rw [hw8]; exact (Keeps.refl _ _).setCell _ _ fun _ => rfl
              have hk9 : Keeps (fun _ => False) w8 W8 := by rw [hW8]; exact (Keeps.refl _ _).alloc _
              have hna := HNA.out
              have hnx := HNX.out
              have hpx := HPS.out
              have hsz9 := HSZ.out
              have HSB := Lib.hid ((HA7.out.rs.keep hk8 (fun b hb e => by have := HA7.out.rs.ps; omega) (fun e => by omega)).keep0 hk9)
              replace HKR := Lib.hid ((HKR.out.fresh hk8 (fun b e => by rw [e]; exact hna.2)).trans hk9 (fun _ _ h => h.elim))
              have HAR := Lib.hid (show RecAt W8 NA [.slice qa qm qc, .slice (some ⟨KB, 0, none⟩) 1 1] from by
                have h9 := (show RecAt W7 NA [.slice qa qm qc, .slice none 0 0] from HA7.out.rc).set 1 (.slice (some ⟨W7.heap.size, 0, none⟩) 1 1)
                rw [← hw8, ← hKB] at h9
                exact h9.keep hk9 (fun h => h))
              have HRDA := Lib.hid (show gb → RdL W8 (Qd Lo B wk.heap.size) [.sl 1 pats, .sl 8 db] [.slice qa qm qc, .slice (some ⟨KB, 0, none⟩) 1 1] from fun g => by
                obtain ⟨g1, g2, g3⟩ := HDB.out g
                have hB := HA7.out.rs.ps
                have r1 := ((qr_own HA7.out g1).keep hk8 (fun b _ hb e => hb.2 e)).keep hk9 (fun _ _ _ h => h)
                have r2 := rd_lit (D := Qd Lo B wk.heap.size) (k := 8) (m := 1) ((g3.keep hk8 (fun b _ hb e => by rcases hb.1 with h | h <;> omega)).mono (fun b _ hb => by rcases hb.1 with h | h; exact .inl h; exact .inr (by omega))) (by rw [g2.len]) (by decide) hW8 (.inr (by omega))
                rw [hs8, ← hKB] at r2
                exact ⟨r1.mono (fun b _ hb => by rcases hb.1 with h | h; exact .inl h; exact .inr (by omega)), r2, trivial⟩)
              clear hW8 hw8 hs8 hk8 hk9 hna hnx hpx hsz9 hKB x0 x1 xf0 xf1 n0 n1 n2 n3 n4 n5 n6 n7 nf0 nf1 nf2 nf3 nf4 nf5 nf6 nf7 hNl hNBl hne7
              have hnr := HG.out.rc.lt
              obtain ⟨xs, hown4, hrec4, hF⟩ := HG.out.more (G' := gb) (y := xb) (J := jb) (us := [.slice qa qm qc, .slice (some ⟨KB, 0, none⟩) 1 1]) (d2 := [.sl 1 pats, .sl 8 db]) HPS.out (Nat.lt_succ_self _) HNX.out (by have := HNE.out; omega) HKR.out HSB.out (fun _ => HG1.out) (fun g => HRDA.out g) (fun b hb => hb.elim)
              have HF := Lib.hid hF
              obtain ⟨⟨u0, u1, u2, u3, u4, u5, u6, u7⟩, ⟨uf0, uf1, uf2, uf3, uf4, uf5, uf6, uf7⟩⟩ := (show RecAt W8 N [.int .i64 10, .bool false, .string ⟨#[]⟩, .slice (some ⟨NW, 0, none⟩) 1 1, .slice none 0 0, .slice none 0 0, .slice none 0 0, .slice la m lc] from hrec4).eight
              obtain ⟨⟨n0, n1⟩, nf0, nf1⟩ := HAR.out.two
              have hNl := hrec4.lt
              have hNAl := HAR.out.lt
              have hne9 : N ≠ NA := by have := HNN.out; omega
              clear hF hrec4 hnr
              go_upto_region 26 with (at_builtin; refine wpList_append_lies _ rfl (.tmp 108) (.tmp 110) _ rfl 0 49 i0 _ 2 48 Tryz.underlying42 hi0 hz0 hz1 hz2 rfl (by omega) (.slice la m lc) m xs rfl (hown4.alloc _) ⟨W8.heap.size, 0, none⟩ 1 1 [.slice qa qm qc, .slice (some ⟨KB, 0, none⟩) 1 1] rfl rfl (World.news_of_block (cs := #[.slice qa qm qc, .slice (some ⟨KB, 0, none⟩) 1 1]) (t := 49) (fr := (0, 0)) (heap_alloc_new W8 _)) (by simp [Value.oneCell']) (by omega) (by unfold maxLen; omega) (by omega) (by simp) (W8.heap.size + 1) (by simp) ?_; intro gg cap w5 hown2 hgrow hat hlt5; have hG5 := HF.out gg (m + 1) cap w5 _ hown2 ((Keeps.refl _ _).alloc _) hgrow (hat.imp id (fun h => by omega)); obtain ⟨hrec5, hq5, hk5⟩ := hG5; have hrec5 := (show RecAt w5 N [.int .i64 10, .bool false, .string ⟨#[]⟩, .slice (some ⟨NW, 0, none⟩) 1 1, .slice none 0 0, .slice none 0 0, .slice none 0 0, .slice la m lc] from hrec5); obtain ⟨⟨z0, z1, z2, z3, z4, z5, z6, z7⟩, ⟨zf0, zf1, zf2, zf3, zf4, zf5, zf6, zf7⟩⟩ := hrec5.eight; have hN5 := hrec5.lt; have HG := Lib.hid (show QR (fun _ => False) gb w (w5.setCell ⟨N, 7, none⟩ (.slice (some ⟨gg, 0, none⟩) (m + 1) cap)) Lo B ps tv n T (w.heap.size + 1) N [.int .i64 0, .bool false, .string ⟨#[]⟩, .slice none 0 0, .slice none 0 0, .slice none 0 0, .slice none 0 0, .slice none 0 0] [.int 10, .bool false, .str [], .sl 1 [wordR wd], .sl 2 [], .sl 2 [], .sl 8 []] [] [.int .i64 10, .bool false, .string ⟨#[]⟩, .slice (some ⟨NW, 0, none⟩) 1 1, .slice none 0 0, .slice none 0 0, .slice none 0 0] [] 2 49 jb xb (m + 1) (some ⟨gg, 0, none⟩) cap (acc ++ [.sl 1 pats, .sl 8 db]) from hq5); clear hrec5 hq5 hk5; clear hown2 hgrow hat)
              obtain ⟨wp, hwp⟩ : ∃ wp, wp = w5.setCell ⟨N, 7, none⟩ (.slice (some ⟨gg, 0, none⟩) (m + 1) cap) := ⟨_, rfl⟩
              rw [← hwp]
              rw [← hwp] at HG
              clear hwp z0 z1 z2 z3 z4 z5 z6 z7 n0 n1 nf0 nf1 hNAl hne9 hNl hN5
              try clear zf0 zf1 zf2 zf3 zf4 zf5 zf6 zf7
              clear u0 u1 u2 u3 u4 u5 u6 u7 uf0 uf1 uf2 uf3 uf4 uf5 uf6 uf7
              cases ho : isOpF [59, 59] (T.drop jb) with
              | true =>
                have HO := Lib.hid ho
                have hjl := toks_in (op_pos ho)
                have hsumB : IntKind.i64.wrap ((jb : Int) + 1) = (jb : Int) + 1 := IntWalk.i64_in _ (by omega)
                have HQ := Lib.hid (qop_at HG.out.rs [59, 59] true ho 0)
                clear ho
                go_wp2_with fail
                refine HQ.out.mono ?_
                rintro e wq ⟨rfl, dq, rfl⟩
                obtain ⟨wq1, hw2⟩ : ∃ wq1, wq1 = wp.drewN dq := ⟨_, rfl⟩
                rw [← hw2]
                have hkw : Keeps (fun _ => False) wp wq1 := by rw [hw2]; exact (Keeps.refl _ _).drewN _
                replace HG := Lib.hid (HG.out.keep0 hkw)
                clear hw2 hkw
                obtain ⟨c0, c1, c2, f1, f2⟩ := HG.out.rs.cells
                have hlt := HG.out.rs.lt
                go_wp2_with fail
                obtain ⟨wq2, hw2⟩ : ∃ wq2, wq2 = wq1.setCell ⟨ps, 1, none⟩ (.int .i64 ((jb : Int) + 1)) := ⟨_, rfl⟩
                rw [← hw2]
                obtain ⟨hinc1, hinc⟩ := inc_qs HG.out.rs (by omega)
                rw [← hw2] at hinc1 hinc
                replace HG := Lib.hid (HG.out.move HPS.out (Nat.lt_succ_self _) HNX.out hinc hinc1)
                clear hw2 hinc hinc1
                clear c0 c1 c2 f1 f2 hlt
                refine (qlines_any wq2 Lo B ps n (jb + 1) xb tv T HG.out.rs).mono ?_
                rintro e wq3 ⟨rfl, I3, hl1, hl2, hl3, hl4, hsl4, hkl4⟩
                replace HG := Lib.hid (HG.out.move HPS.out (Nat.lt_succ_self _) HNX.out hkl4 hsl4)
                have hI3T : I3 ≤ T.length := hl2 (by omega)
                have HI3 := Lib.hid hl1
                have HCA := Lib.hid (show CA gb K wd (acc ++ [.sl 1 pats, .sl 8 db]) T I3 xb res from by
                  rcases HQS.out with ⟨g, h0, _, hr⟩ | ⟨h0, hr⟩ | ⟨_, ho9, _⟩
                  · refine .inl ⟨g, h0, hI3T, M, by have := HJB.out; omega, ?_⟩
                    rw [hr, qK_more HO.out, hl4, drop_tail]
                  · exact .inr ⟨h0, hr⟩
                  · rw [op40_ne ho9 [59, 59] (by decide)] at HO
                    cases HO.out)
                clear hl1 hl2 hl3 hl4 hsl4 hkl4
                go_wp2_with fail
                by_cases hxb : xb = 0
                · go_roundg (T.length + 2000 - I3)
                  case measure => have := HGK.out; have := HJB.out; have := HI3.out; omega
                  case rel => exact ⟨gb, I3, xb, m + 1, _, _, _, .inl ⟨hxb, rfl⟩, by have := HJB.out; have := HI3.out; omega, by omega, fun _ => by have := HJB.out; have := HI3.out; omega, HG, HCA⟩
                · go_roundg 0
                  case measure => have := HGK.out; omega
                  case rel => exact ⟨gb, I3, xb, m + 1, _, _, _, .inr ⟨hxb, rfl⟩, by have := HJB.out; have := HI3.out; omega, by omega, fun h => absurd h hxb, HG, HCA⟩
              | false =>
                have HO := Lib.hid ho
                have HQ := Lib.hid (qop_at HG.out.rs [59, 59] false ho 0)
                clear ho
                go_wp2_with fail
                refine HQ.out.mono ?_
                rintro e wq ⟨rfl, dq, rfl⟩
                obtain ⟨wq1, hw2⟩ : ∃ wq1, wq1 = wp.drewN dq := ⟨_, rfl⟩
                rw [← hw2]
                have hkw : Keeps (fun _ => False) wp wq1 := by rw [hw2]; exact (Keeps.refl _ _).drewN _
                replace HG := Lib.hid (HG.out.keep0 hkw)
                clear hw2 hkw
                go_upto_region 29 with fail
                obtain ⟨la, hla⟩ : ∃ la2, la2 = (some ⟨gg, 0, none⟩ : Option Addr) := ⟨_, rfl⟩
                obtain ⟨m9, hmm⟩ : ∃ m9, m9 = m + 1 := ⟨_, rfl⟩
                rw [← hla, ← hmm] at HG
                clear hla hmm
                obtain ⟨xe, hxe⟩ : ∃ xe, xe = if xb = 0 then (if isWF [101, 115, 97, 99] (T.drop jb) then 0 else 2) else xb := ⟨_, rfl⟩
                have HFI := Lib.hid ((fun hxe => case_fin (ds := ndR 10 false [] [wordR wd] [] [] [] (acc ++ [.sl 1 pats, .sl 8 db])) HQS.out hxe (fun h => ⟨fun hw => by rw [h, qK_esac HO.out hw], fun hw => by rw [h, qK_no HO.out hw]⟩)) hxe)
                have HXE := Lib.hid hxe
                have HIB := Lib.hid (show i ≤ jb + 1 ∧ jb + 1 ≤ T.length + (2 * K + 2) by have := HJB.out; have := HJC.out; omega)
                have hI9 : jb + 1 ≤ T.length + 900 := by have := HIB.out; have := HD.out; omega
                clear hxe
                go_wp2_with fail
                refine (qwant_any wq1 Lo B ps n jb xb tv T [101, 115, 97, 99] HG.out.rs (by omega)).mono ?_
                rintro e wz ⟨rfl, hsz, hkz⟩
                have hsz := (show QS wz Lo B ps tv n T (jb + 1) xe by rw [HXE.out]; exact hsz)
                replace HG := Lib.hid (HG.out.move HPS.out (Nat.lt_succ_self _) HNX.out hkz hsz)
                clear hsz hkz
                obtain ⟨⟨x0, x1, x2, x3, x4, x5, x6, x7⟩, ⟨xf0, xf1, xf2, xf3, xf4, xf5, xf6, xf7⟩⟩ := (show RecAt wz N [.int .i64 10, .bool false, .string ⟨#[]⟩, .slice (some ⟨NW, 0, none⟩) 1 1, .slice none 0 0, .slice none 0 0, .slice none 0 0, .slice la m9 cap] from HG.out.rc).eight
                have hNl := HG.out.rc.lt
                have HF := Lib.hid (show QF false wz (fun b => Qd Lo B w.heap.size b ∧ b ≠ w.heap.size) T res [.int .i64 10, .bool false, .string ⟨#[]⟩, .slice (some ⟨NW, 0, none⟩) 1 1, .slice none 0 0, .slice none 0 0, .slice none 0 0, .slice la m9 cap] (jb + 1) xe from qr_fin HG.out (Nat.lt_succ_self _) HPS.out (by rcases HFI.out with ⟨g, h0, hj, hr⟩ | ⟨h0, hr⟩; exact .inl ⟨g, h0, hj, ⟨_, _, _, _, _, _, _, _, rfl⟩, hr⟩; exact .inr fun _ _ _ => QF.err h0 hr))
                have HK := Lib.hid HG.out.kp
                have HS := Lib.hid HG.out.rs
                obtain ⟨⟨z0, z1, z2, z3, z4, z5, z6, z7⟩, ⟨zf0, zf1, zf2, zf3, zf4, zf5, zf6, zf7⟩⟩ := HG.out.zr.eight
                have hzl := HG.out.zr.lt
                go_wp2_with fail
                refine bodyPost_ret (v := .agg #[.int .i64 10, .bool false, .string ⟨#[]⟩, .slice (some ⟨NW, 0, none⟩) 1 1, .slice none 0 0, .slice none 0 0, .slice none 0 0, .slice la m9 cap]) (by simp [results, Tryz.results183, go_sem, z0, z1, z2, z3, z4, z5, z6, z7]) rfl ?_
                obtain ⟨f1, f2, f3⟩ := qnd_fin HK.out HS.out HPS.out HF.out (set8_keeps wz w.heap.size (.int .i64 10) (.bool false) (.string ⟨#[]⟩) (.slice (some ⟨NW, 0, none⟩) 1 1) (.slice none 0 0) (.slice none 0 0) (.slice none 0 0) (.slice la m9 cap))
                exact ⟨⟨10, false, ⟨#[]⟩, some ⟨NW, 0, none⟩, 1, 1, none, 0, 0, none, 0, 0, none, 0, 0, la, m9, cap⟩, (jb + 1), xe, rfl, HIB.out.1, HIB.out.2, f1, f2, f3⟩
    · have t : ((x : Int) == 0) = false := by rw [beq_eq_false_iff_ne]; omega
      have HQS := Lib.hid (show QSt gd False T I x res from by
        rcases HST.out with ⟨_, h9, _⟩ | h
        · exact absurd h9 hx
        · exact .inr (.inl h))
      clear hx HST
      go_upto_region 29 with fail
      clear c0 c1 c2 f1 f2 hlt
      obtain ⟨xe, hxe⟩ : ∃ xe, xe = if x = 0 then (if isWF [101, 115, 97, 99] (T.drop I) then 0 else 2) else x := ⟨_, rfl⟩
      have HFI := Lib.hid ((fun hxe => case_fin (ds := ndR 10 false [] [wordR wd] [] [] [] acc) HQS.out hxe (fun h => h.elim)) hxe)
      have HXE := Lib.hid hxe
      have HIB := Lib.hid (show i ≤ I + 1 ∧ I + 1 ≤ T.length + (2 * K + 2) by omega)
      have hI9 : I + 1 ≤ T.length + 900 := by have := HIB.out; have := HD.out; omega
      clear hxe
      go_wp2_with fail
      refine (qwant_any wr Lo B ps n I x tv T [101, 115, 97, 99] HG.out.rs (by omega)).mono ?_
      rintro e wz ⟨rfl, hsz, hkz⟩
      have hsz := (show QS wz Lo B ps tv n T (I + 1) xe by rw [HXE.out]; exact hsz)
      replace HG := Lib.hid (HG.out.move HPS.out (Nat.lt_succ_self _) HNX.out hkz hsz)
      clear hsz hkz
      obtain ⟨⟨x0, x1, x2, x3, x4, x5, x6, x7⟩, ⟨xf0, xf1, xf2, xf3, xf4, xf5, xf6, xf7⟩⟩ := (show RecAt wz N [.int .i64 10, .bool false, .string ⟨#[]⟩, .slice (some ⟨NW, 0, none⟩) 1 1, .slice none 0 0, .slice none 0 0, .slice none 0 0, .slice la m lc] from HG.out.rc).eight
      have hNl := HG.out.rc.lt
      have HF := Lib.hid (show QF false wz (fun b => Qd Lo B w.heap.size b ∧ b ≠ w.heap.size) T res [.int .i64 10, .bool false, .string ⟨#[]⟩, .slice (some ⟨NW, 0, none⟩) 1 1, .slice none 0 0, .slice none 0 0, .slice none 0 0, .slice la m lc] (I + 1) xe from qr_fin HG.out (Nat.lt_succ_self _) HPS.out (by rcases HFI.out with ⟨g, h0, hj, hr⟩ | ⟨h0, hr⟩; exact .inl ⟨g, h0, hj, ⟨_, _, _, _, _, _, _, _, rfl⟩, hr⟩; exact .inr fun _ _ _ => QF.err h0 hr))
      have HK := Lib.hid HG.out.kp
      have HS := Lib.hid HG.out.rs
      obtain ⟨⟨z0, z1, z2, z3, z4, z5, z6, z7⟩, ⟨zf0, zf1, zf2, zf3, zf4, zf5, zf6, zf7⟩⟩ := HG.out.zr.eight
      have hzl := HG.out.zr.lt
      go_wp2_with fail
      refine bodyPost_ret (v := .agg #[.int .i64 10, .bool false, .string ⟨#[]⟩, .slice (some ⟨NW, 0, none⟩) 1 1, .slice none 0 0, .slice none 0 0, .slice none 0 0, .slice la m lc]) (by simp [results, Tryz.results183, go_sem, z0, z1, z2, z3, z4, z5, z6, z7]) rfl ?_
      obtain ⟨f1, f2, f3⟩ := qnd_fin HK.out HS.out HPS.out HF.out (set8_keeps wz w.heap.size (.int .i64 10) (.bool false) (.string ⟨#[]⟩) (.slice (some ⟨NW, 0, none⟩) 1 1) (.slice none 0 0) (.slice none 0 0) (.slice none 0 0) (.slice la m lc))
      exact ⟨⟨10, false, ⟨#[]⟩, some ⟨NW, 0, none⟩, 1, 1, none, 0, 0, none, 0, 0, none, 0, 0, la, m, lc⟩, (I + 1), xe, rfl, HIB.out.1, HIB.out.2, f1, f2, f3⟩
end Go.Proofs.YtiihpbccabeoeaaGreatDoor
