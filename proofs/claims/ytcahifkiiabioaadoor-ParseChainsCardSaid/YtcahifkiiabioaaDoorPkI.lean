/-
  A command that is not simple.
  A command.
  What is thrown while a script is read is caught.
  All tokens are read.
  Scripts, however deep.
-/
import Derived.Test.YtcahifkiiabioaaDoorPkH
import Derived.Defers
import Derived.Recover
import Derived.Laws.Pointers
import Derived.Deep.RegionHeld3
namespace Go.Proofs.YtcahifkiiabioaaDoor
open Go.RowKit
set_option linter.unusedVariables false

set_option maxRecDepth 100000 in
set_option maxHeartbeats 64000000 in
theorem compound_any (K : Nat) (hcmd : CmdOK K) (hscr : ScrOK K) (w : World) (B cs n i d : Nat) (tv : Value) (T : List Tk) (h : RS w B cs tv n T i d) (hd : d + K = 40) :
    Calls Tryd.prog 75 #[.pointer (some ⟨cs, 0, none⟩)] w (CompPost w B cs tv n T i d (compoundF (commandF K) (scrF (commandF K)) (T.drop i))) := by
  obtain ⟨res, hres⟩ : ∃ res, res = compoundF (commandF K) (scrF (commandF K)) (T.drop i) := ⟨_, rfl⟩
  rw [← hres]
  obtain ⟨nm, hnm⟩ : ∃ nm, nm = plainT (atF (T.drop i)) := ⟨_, rfl⟩
  have hnl : nm.length ≤ 140737488351232 := by
    rw [hnm]
    have hsm := atF_mem (i := i) h.sm
    unfold plainT
    split
    · split
      · next p hp =>
        split
        · have := smL_mem hsm.1.2 (p := p) (by rw [hp]; simp)
          omega
        · simp
      · simp
    · simp
  have HNM := Lib.hid hnm
  have HNL := Lib.hid hnl
  have hc8 := cells_node
  have hc2 := cells_redir
  obtain ⟨i0, hi0, hz0, hz1, hz2⟩ := info_parts info_redir
  have HRES0 := Lib.hid hres
  have HH := Lib.hid h
  have HC := Lib.hid hcmd
  have HSC := Lib.hid hscr
  have HD := Lib.hid hd
  have HCS := Lib.hid h.lt
  clear hres h hcmd hd hscr hnm hnl
  go_enter Tryd.func75, Tryd.ntmps75
  go_wp2_with fail
  obtain ⟨N, hN⟩ : ∃ N, N = w.heap.size + 1 := ⟨_, rfl⟩
  obtain ⟨W1, hW1⟩ : ∃ W1, W1 = w.alloc (.cells #[.int .i64 0, .bool false, .string ⟨#[]⟩, .slice none 0 0, .slice none 0 0, .slice none 0 0, .slice none 0 0, .slice none 0 0] 40) := ⟨_, rfl⟩
  have hk1 : Keeps (fun _ => False) w W1 := by rw [hW1]; exact (Keeps.refl _ _).alloc _
  have hs1 : W1.heap.size = N := by rw [hW1, hN]; simp
  obtain ⟨W, hW⟩ : ∃ W, W = W1.alloc (.cells #[.int .i64 0, .bool false, .string ⟨#[]⟩, .slice none 0 0, .slice none 0 0, .slice none 0 0, .slice none 0 0, .slice none 0 0] 40) := ⟨_, rfl⟩
  have hk2 : Keeps (fun _ => False) W1 W := by rw [hW]; exact (Keeps.refl _ _).alloc _
  obtain ⟨X, hX⟩ : ∃ X, X = W.heap.size := ⟨_, rfl⟩
  have hsW : W.heap.size = N + 1 := by rw [hW, ← hs1]; simp
  have HR := Lib.hid (show RecAt W w.heap.size [.int .i64 0, .bool false, .string ⟨#[]⟩, .slice none 0 0, .slice none 0 0, .slice none 0 0, .slice none 0 0, .slice none 0 0] from RecAt.keep (by rw [hW1]; exact new_rec8 _ _ _ _ _ _ _ _ _ _) hk2 (fun h => h))
  have HN0 := Lib.hid (show RecAt W N [.int .i64 0, .bool false, .string ⟨#[]⟩, .slice none 0 0, .slice none 0 0, .slice none 0 0, .slice none 0 0, .slice none 0 0] by rw [hW, ← hs1]; exact new_rec8 _ _ _ _ _ _ _ _ _ _)
  have HKW := Lib.hid (hk1.trans hk2 (fun _ _ h => h))
  have HS := Lib.hid (HH.out.keep0 (hk1.trans hk2 (fun _ _ h => h)))
  have HXE := Lib.hid hX
  have HNE := Lib.hid (show N = w.heap.size + 1 ∧ X = N + 1 ∧ W.heap.size = X by omega)
  have HXN := Lib.hid (show w.heap.size < X ∧ w.heap.size < N by omega)
  have HXS := Lib.hid (show X ≤ N + 1 by omega)
  rw [← hN, ← hW1, ← hW]
  clear hk1 hk2 hs1 hsW hN hX hW hW1
  refine (at_tok W B cs n i d tv T HS.out).mono ?_
  rintro e wa ⟨a, c, rfl, hp, hk⟩
  have HP := Lib.hid hp
  have HSa := Lib.hid (HS.out.keep0 hk)
  have HKa := Lib.hid (hk.mono (T := fun b => b = cs) (fun _ _ h => h.elim))
  clear hk hp
  go_wp2_with fail
  refine (plain_any _ _ _ _ _ _ HP.out).mono ?_
  rintro e wa0 ⟨rfl, hk⟩
  rw [← HNM.out]
  obtain ⟨ja0, hja0⟩ : ∃ ja0, ja0 = i := ⟨_, rfl⟩
  have HS0 := Lib.hid (show RS wa0 B cs tv n T ja0 d by rw [hja0]; exact HSa.out.keep0 hk)
  have HK0 := Lib.hid (HKa.out.trans hk (fun _ _ h => h.elim))
  have HT0 := Lib.hid (show T.drop ja0 = T.drop i by rw [hja0])
  have hji0 : i ≤ ja0 := by omega
  rw [← hja0] at HRES0
  clear hk hja0
  go_wp2_with fail
  cases hq1 : isOpF [40] (T.drop ja0) with
  | true =>
    have hrb : res = some (withRedirs (scrF (commandF K)) (shutF (commandF K) 13 (needOp [41]) (T.drop ja0).tail)) := by rw [HRES0.out, compound_eq]; rw [hq1, if_pos rfl]
    refine (opP_any wa0 B cs n ja0 d tv T [40] true HS0.out hq1).mono ?_
    rintro e wb ⟨rfl, jb, hjb, htb, hrsb, hkb⟩
    have HSB := Lib.hid hrsb
    have HKB := Lib.hid (HK0.out.trans hkb (fun _ _ h => h))
    rw [← show T.drop jb = (T.drop ja0).tail from htb] at hrb
    have HRB := Lib.hid hrb
    clear hrsb hkb htb hrb hq1
    go_wp2_with fail
    refine (list_any K HC.out wb B cs n jb d tv T HSB.out HD.out).mono ?_
    intro e w2 hp
    cases hcm : listF (commandF K) (T.drop jb) with
    | error y =>
      rw [hcm] at hp
      obtain ⟨rfl, hk2⟩ := hp
      have HRX := Lib.hid (show res = some (.error y) by rw [HRB.out]; unfold shutF; rw [hcm]; rfl)
      have HK3 := Lib.hid (((HKW.out.mono (fun _ _ h => h.elim)).trans HKB.out (fun _ _ h => h)).trans hk2 (fun _ _ h => h))
      clear hcm hk2
      go_wp2_with fail
      refine ⟨rfl, ?_⟩
      rw [HRX.out]
      exact ⟨rfl, HK3.out⟩
    | ok dr =>
      obtain ⟨acc0, r⟩ := dr
      rw [hcm] at hp
      obtain ⟨vs, ⟨rfl, j2, hj2, ht2, hrs2, hk2⟩, _, hnd, hrd⟩ := hp
      obtain ⟨k, b, s, a0, n0, c0, a1, n1, c1, a2, n2, c2, a3, n3, c3, a4, n4, c4, rfl⟩ := nd_vals hnd hrd
      have HRL2 := Lib.hid (show res = some (withRedirs (scrF (commandF K)) (if isOpF [41] (T.drop j2) then .ok ((ndR 13 false [] [] [] [] acc0 []), (T.drop j2).tail) else .error 2)) by
        rw [HRB.out]; unfold shutF needOp; rw [hcm]; dsimp only; rw [← ht2]; cases isOpF [41] (T.drop j2) <;> rfl)
      obtain ⟨lk, hlk⟩ : ∃ lk, lk = some (⟨w2.heap.size, 0, none⟩ : Addr) := ⟨_, rfl⟩
      obtain ⟨wz, hwz⟩ : ∃ wz, wz = ((((((((w2.setCell ⟨N, 0, none⟩ (.int .i64 13)).setCell ⟨N, 1, none⟩ (.bool false)).setCell ⟨N, 2, none⟩ (.string ⟨#[]⟩)).setCell ⟨N, 3, none⟩ (.slice none 0 0)).setCell ⟨N, 4, none⟩ (.slice none 0 0)).setCell ⟨N, 5, none⟩ (.slice none 0 0)).setCell ⟨N, 6, none⟩ (.slice lk 1 1)).setCell ⟨N, 7, none⟩ (.slice none 0 0)) := ⟨_, rfl⟩
      have hkr : Keeps (fun b => b = N) w2 wz := by rw [hwz]; exact set8_keeps _ _ _ _ _ _ _ _ _ _
      have hzz : wz.heap.size = w2.heap.size := by rw [hwz]; simp
      obtain ⟨wr, hwr⟩ : ∃ wr, wr = wz.alloc (.cells #[.int .i64 k, .bool b, .string s, .slice a0 n0 c0, .slice a1 n1 c1, .slice a2 n2 c2, .slice a3 n3 c3, .slice a4 n4 c4] 40) := ⟨_, rfl⟩
      have hka : Keeps (fun _ => False) wz wr := by rw [hwr]; exact (Keeps.refl _ _).alloc _
      have hkk := HKB.out.trans hk2 (fun _ _ h => h)
      have hxn := HXN.out
      have hxe := HXE.out
      have hne := HNE.out
      have hcw := HCS.out
      have hsb := HKB.out.size
      have hB := hrs2.cs
      have hs2 := hkk.size
      have hrn2 := HN0.out.keep hkk (fun e => by omega)
      have hrow := rd_lit (k := 8) (m := 1) (Ty := 40) (D := fun b => X ≤ b) ((hrd.keep hkr (fun b _ hb e => by omega)).mono (fun b _ hb => by omega)) hnd.len (by decide) hwr (by omega)
      rw [hzz, ← hlk] at hrow
      have hrd3 : RdL wr (fun b => X ≤ b) (ndR 13 false [] [] [] [] acc0 []) [.int .i64 13, .bool false, .string ⟨#[]⟩, .slice none 0 0, .slice none 0 0, .slice none 0 0, .slice lk 1 1, .slice none 0 0] := ⟨.int _, .bool _, .str _, .nil _ _ _ (Nat.zero_le _), .nil _ _ _ (Nat.zero_le _), .nil _ _ _ (Nat.zero_le _), hrow, .nil _ _ _ (Nat.zero_le _), trivial⟩
      obtain ⟨⟨z0, z1, z2, z3, z4, z5, z6, z7⟩, y0, y1, y2, y3, y4, y5, y6, y7⟩ := hrn2.eight
      have hzl := hrn2.lt
      have hj2i : i ≤ j2 := by omega
      obtain ⟨p0, p1, p2, p3, p4, q6, q7, hset, hnds, hgi⟩ := core_gi (w := w) (N := N) (X := X) (Z := [.int .i64 0, .bool false, .string ⟨#[]⟩, .slice none 0 0, .slice none 0 0, .slice none 0 0, .slice none 0 0, .slice none 0 0]) (ds := (ndR 13 false [] [] [] [] acc0 [])) ⟨_, _, _, _, _, _, _, _, rfl⟩ hrd3 ((hrs2.keep hkr (fun b hb e => by omega) (fun e => by omega)).keep0 hka) ((((HKW.out.mono (fun _ _ h => h.elim)).trans hkk (fun _ _ h => h)).fresh hkr (fun b e => by omega)).trans hka (fun _ _ h => h.elim)) (((HR.out.keep hkk (fun e => by omega)).keep hkr (fun e => by omega)).keep hka (fun h => h)) ((by rw [hwz]; exact set8_rec hrn2 _ _ _ _ _ _ _ _ : RecAt wz N _).keep hka (fun h => h)) (by omega)
      have HG0 := Lib.hid hgi
      have HSET := Lib.hid hset
      have HNDS := Lib.hid hnds
      have HWR := Lib.hid hwr
      have HWZ := Lib.hid hwz
      have HLA := Lib.hid hlk
      clear hcm hk2 hrs2 hnd hrd ht2 hkr hka hkk hxn hxe hne hcw hsb hB hs2 hrn2 hrd3 hset hnds hgi hwr hwz hzz hrow hlk
      go_wp2_with fail
      rw [← HLA.out, ← HWZ.out, ← HWR.out]
      clear HWR HWZ HLA z0 z1 z2 z3 z4 z5 z6 z7 y0 y1 y2 y3 y4 y5 y6 y7 hzl
      cases hq2 : isOpF [41] (T.drop j2) with
      | false =>
        have HRX := Lib.hid (show res = some (.error 2) by rw [HRL2.out, hq2]; rfl)
        refine (opP_any wr B cs n j2 d tv T [41] false HG0.out.rs hq2).mono ?_
        rintro e w3 ⟨rfl, j3, hj3, ht3, hrs3, hk3⟩
        have HK3 := Lib.hid (HG0.out.kp.trans hk3 (fun _ _ h => h))
        clear hrs3 hk3 ht3 hq2
        go_wp2_with fail
        refine (need_no _).mono ?_
        rintro e w4 ⟨rfl, rfl⟩
        go_wp2_with fail
        refine ⟨rfl, ?_⟩
        rw [HRX.out]
        exact ⟨rfl, HK3.out⟩
      | true =>
        refine (opP_any wr B cs n j2 d tv T [41] true HG0.out.rs hq2).mono ?_
        rintro e w3 ⟨rfl, j3, hj3, ht3, hrs3, hk3⟩
        have HG1 := Lib.hid (HG0.out.move HCS.out HXN.out.1 HXN.out.2 hk3 hrs3)
        have HRL := Lib.hid (show res = some (redEnd (ndR 13 false [] [] [] [] acc0 []) (redirsF (scrF (commandF K)) (T.length - j3 + 1) [] (T.drop j3))) by rw [HRL2.out, hq2, if_pos rfl, with_ok, ← show T.drop j3 = (T.drop j2).tail from ht3, List.length_drop])
        clear hrs3 hk3 ht3 hq2 HG0 HRL2
        go_wp2_with fail
        refine (need_yes _).mono ?_
        rintro e w4 ⟨rfl, rfl⟩
        go_wp2_with fail
        go_loopg [] (T.length - j3) (fun g wr => ∃ (I M m : Nat) (la : Option Addr) (lc : Nat) (acc : List Dt), g = T.length - I ∧ i ≤ I ∧ m ≤ I ∧ T.length - I + 1 ≤ M ∧ Hid (GI w wr B cs tv n T d X N [.int .i64 0, .bool false, .string ⟨#[]⟩, .slice none 0 0, .slice none 0 0, .slice none 0 0, .slice none 0 0, .slice none 0 0] [p0, p1, p2, p3, p4] [q6, q7] [.int .i64 13, .bool false, .string ⟨#[]⟩, .slice none 0 0, .slice none 0 0] [.slice lk 1 1, .slice none 0 0] 2 47 I m la lc acc) ∧ Hid (res = some (redEnd (ndR 13 false [] [] [] [] acc0 []) (redirsF (scrF (commandF K)) M acc (T.drop I)))))
        case atStart => exact ⟨j3, _, 0, none, 0, [], rfl, by omega, Nat.zero_le _, Nat.le_refl _, HG1, HRL⟩
        case round =>
          obtain ⟨I, M, m, la, lc, acc, hgk, hiI, hmI, hM, HG, HRL0⟩ := hrel
          have HGK := Lib.hid hgk
          have hIT := HG.out.rs.i
          have hT2 := HG.out.rs.sm.1
          obtain ⟨M, rfl⟩ : ∃ M', M = M' + 1 := ⟨M - 1, by omega⟩
          clear hgk HG1 HRL
          cases hq : redirB (T.drop I) with
          | true =>
            have HPOS := Lib.hid (redir_pos hq)
            have HRL1 := Lib.hid (show res = some (redEnd (ndR 13 false [] [] [] [] acc0 []) (match redirF (scrF (commandF K)) (T.drop I) with
              | .error e => .error e
              | .ok (d, r) => redirsF (scrF (commandF K)) M (acc ++ d) r)) by rw [HRL0.out, redirs_succ, hq, if_pos rfl]; all_goals rfl)
            have HQ := Lib.hid hq
            clear hq HRL0
            go_wp2_with fail
            refine (redirects_any _ B cs n I d tv T true HG.out.rs HQ.out).mono ?_
            rintro e wb2 ⟨rfl, hk⟩
            have HGB := Lib.hid (HG.out.keep0 hk)
            clear hk HG
            go_wp2_with fail
            have hXw := HXN.out.1
            have HXW := Lib.hid (show X ≤ wb2.heap.size by have h1 := HGB.out.rc.lt; have h2 := HXS.out; omega)
            obtain ⟨⟨x0, x1, x2, x3, x4, x5, x6, x7⟩, ⟨xf0, xf1, xf2, xf3, xf4, xf5, xf6, xf7⟩⟩ := (show RecAt wb2 N [.int .i64 13, .bool false, .string ⟨#[]⟩, .slice none 0 0, .slice none 0 0, .slice la m lc, .slice lk 1 1, .slice none 0 0] from HGB.out.rc).eight
            have hNl := HGB.out.rc.lt
            cases hcm : redirF (scrF (commandF K)) (T.drop I) with
            | error y =>
              have HRX := Lib.hid (show res = some (.error y) by rw [HRL1.out, hcm]; rfl)
              have HCM := Lib.hid hcm
              clear hcm
              go_wp2_with fail
              refine wp_region_held_drew (S := (fun w' => RecAt w' N [.int .i64 13, .bool false, .string ⟨#[]⟩, .slice none 0 0, .slice none 0 0, .slice la m lc, .slice lk 1 1, .slice none 0 0])) (by kernel_rfl) (HGB.out.rc.keep (S := fun _ => False) (Keeps.refl _ _).drew (fun h => h)) (fun hHeld => ?_)
              refine wpAnyH_take (i := 0) (v := .pointer (some ⟨N, 5, none⟩)) rfl (by kernel_rfl) (by kernel_rfl) (by kernel_rfl) (fun _ _ _ h => h) (Or.inl ⟨by rfl, ?_⟩) hHeld ?_
              · (intro ww hSw; have ⟨⟨g0, g1, g2, g3, g4, g5, g6, g7⟩, _⟩ := RecAt.eight hSw; go_simp; all_goals (first | done | with_reducible rfl))
              refine wpAnyH_take (i := 1) (v := .slice la m lc) rfl (by kernel_rfl) (by kernel_rfl) (by kernel_rfl) (fun _ _ _ h => h) (Or.inl ⟨by rfl, ?_⟩) hHeld ?_
              · (intro ww hSw; have ⟨⟨g0, g1, g2, g3, g4, g5, g6, g7⟩, _⟩ := RecAt.eight hSw; go_simp; all_goals (first | done | with_reducible rfl))
              refine wpAnyH_take (i := 2) (v := .pointer (some ⟨cs, 0, none⟩)) rfl (by kernel_rfl) (by kernel_rfl) (by kernel_rfl) (fun _ _ _ h => h) (Or.inl ⟨by rfl, ?_⟩) hHeld ?_
              · (intro ww hSw; have ⟨⟨g0, g1, g2, g3, g4, g5, g6, g7⟩, _⟩ := RecAt.eight hSw; go_simp; all_goals (first | done | with_reducible rfl))
              refine wpAnyH_ready (rs := [3]) (by kernel_rfl) (by simp) ?_
              refine AllReadyH.cons rfl (fun KK hK => ?_) AllReadyH.nil
              go_simp
              go_at_call 90
              refine (redir_any K HSC.out _ B cs n I d tv T (HGB.out.rs.keep0 (Keeps.refl _ _).drew) HD.out HPOS.out).mono ?_
              rw [HCM.out]
              rintro e w4 ⟨rfl, hk4⟩
              have HK4 := Lib.hid ((HGB.out.kp.drew).trans hk4 (fun _ _ h => h))
              clear hk4
              go_wp2_with fail
              refine ⟨rfl, ?_⟩
              rw [HRX.out]
              exact ⟨rfl, HK4.out⟩
            | ok dr =>
              obtain ⟨d2, r2⟩ := dr
              have HRX := Lib.hid (show res = some (redEnd (ndR 13 false [] [] [] [] acc0 []) (redirsF (scrF (commandF K)) M (acc ++ d2) r2)) by rw [HRL1.out, hcm])
              have HCM := Lib.hid hcm
              clear hcm
              have HCALL := Lib.hid (show ∀ e w4, RecPost wb2.drew B cs tv n T I d RdrS (.ok (d2, r2)) e w4 → ∃ (j4 : Nat) (sv : ByteArray) (a5 : Option Addr) (m5 c5 : Nat) (xs : List Value), e = .returned (.agg #[.string sv, .slice a5 m5 c5]) ∧ (I ≤ j4 ∧ j4 ≤ T.length ∧ T.drop j4 = r2 ∧ True) ∧ w4.ownsRow 0 47 2 (.slice la m lc) m xs ∧ RecAt w4 N [.int .i64 13, .bool false, .string ⟨#[]⟩, .slice none 0 0, .slice none 0 0, .slice la m lc, .slice lk 1 1, .slice none 0 0] ∧
                  (∀ (gg cap : Nat) (w5 : World) (o : Obj), w5.ownsRow 0 47 2 (.slice (some ⟨gg, 0, none⟩) (m + 1) cap) (m + 1) (xs ++ [.string sv, .slice a5 m5 c5]) → (w4.alloc o).grownBy w5 (Value.slice la m lc).ownBlock → ((Value.slice la m lc).ownBlock = some gg ∨ gg = w4.heap.size + 1) →
                    RecAt w5 N [.int .i64 13, .bool false, .string ⟨#[]⟩, .slice none 0 0, .slice none 0 0, .slice la m lc, .slice lk 1 1, .slice none 0 0] ∧ GI w (w5.setCell ⟨N, 5, none⟩ (.slice (some ⟨gg, 0, none⟩) (m + 1) cap)) B cs tv n T d X N [.int .i64 0, .bool false, .string ⟨#[]⟩, .slice none 0 0, .slice none 0 0, .slice none 0 0, .slice none 0 0, .slice none 0 0] [p0, p1, p2, p3, p4] [q6, q7] [.int .i64 13, .bool false, .string ⟨#[]⟩, .slice none 0 0, .slice none 0 0] [.slice lk 1 1, .slice none 0 0] 2 47 j4 (m + 1) (some ⟨gg, 0, none⟩) cap (acc ++ d2)) from fun e w4 hp => by
                obtain ⟨vs, ⟨he, j4, hj4, ht4, hrs4, hk4⟩, ⟨sv, a5, m5, c5, rfl⟩, hrd4⟩ := hp
                obtain ⟨xs, ho, hrec, hF⟩ := HGB.out.more HCS.out HXN.out.1 HXN.out.2 HXW.out ((Keeps.refl (fun b => b = cs) wb2).drew.trans hk4 (fun _ _ h => h)) hrs4 hrd4
                exact ⟨j4, sv, a5, m5, c5, xs, he, ⟨hj4, hrs4.i, ht4, trivial⟩, ho, hrec, hF⟩)
              go_wp2_with fail
              go_region_law (first
                | (refine step_append_lies _ (by rfl) _ _ _ (by rfl) 0 47 i0 _ 2 40 Tryd.underlying37 hi0 hz0 hz1 hz2 rfl (by omega) (.slice la m lc) m xs (by rfl) (hown4.alloc _)
                    ⟨w4.heap.size, 0, none⟩ 1 1 [.string sv, .slice a5 m5 c5] (by rfl) (by rfl) (World.news_of_block (cs := #[.string sv, .slice a5 m5 c5]) (t := 47) (fr := (0, 0)) (heap_alloc_new w4 _)) (by simp [Value.oneCell'])
                    (by omega) (by unfold maxLen; omega) (by omega) (by simp) (w4.heap.size + 1) (by simp) ?_; intro gg cap w5 hown2 hgrow hat hlt5
                   obtain ⟨hrec5, hG5⟩ := HF.out gg cap w5 _ hown2 hgrow hat
                   obtain ⟨⟨z0, z1, z2, z3, z4, z5, z6, z7⟩, ⟨zf0, zf1, zf2, zf3, zf4, zf5, zf6, zf7⟩⟩ := RecAt.eight hrec5
                   have hN5 := hrec5.lt
                   have HG5 := Lib.hid hG5
                   clear hrec5 hG5 hown2 hgrow hat)
                | (go_simp; go_at_call 90; refine (redir_any K HSC.out _ B cs n I d tv T (HGB.out.rs.keep0 (Keeps.refl _ _).drew) HD.out HPOS.out).mono ?_; rw [HCM.out]; intro e w4 hp; obtain ⟨j4, sv, a5, m5, c5, xs, he, hJ4, hown4, hrec4, hF⟩ := HCALL.out e w4 hp; subst he; obtain ⟨⟨y0, y1, y2, y3, y4, y5, y6, y7⟩, ⟨yf0, yf1, yf2, yf3, yf4, yf5, yf6, yf7⟩⟩ := RecAt.eight hrec4; have hN4 := hrec4.lt; have HF := Lib.hid hF; have HJ4 := Lib.hid hJ4; clear hp hF hJ4 hrec4))
              all_goals
                obtain ⟨w3, hw3⟩ : ∃ w3, w3 = w5.setCell ⟨N, 5, none⟩ (.slice (some ⟨gg, 0, none⟩) (m + 1) cap) := ⟨_, rfl⟩
                rw [← hw3] at HG5
                rw [← hw3]
                have HRN := Lib.hid (show res = some (redEnd (ndR 13 false [] [] [] [] acc0 []) (redirsF (scrF (commandF K)) M (acc ++ d2) (T.drop j4))) by rw [HRX.out, HJ4.out.2.2.1])
                have hj4b : I + 1 ≤ j4 := by
                  have h1 := redirF_len HCM.out
                  have h2 := congrArg List.length HJ4.out.2.2.1
                  rw [List.length_drop] at h1 h2
                  have h3 := HJ4.out.2.1
                  omega
                have hj4T := HJ4.out.2.1
                clear hw3 HJ4 HCM
                go_wp2_with fail
                go_roundg (T.length - j4)
                case measure => have := HGK.out; omega
                case rel => exact ⟨j4, M, m + 1, _, cap, acc ++ d2, rfl, by omega, by omega, by omega, HG5, HRN⟩
          | false =>
            have HRX := Lib.hid (show res = some (.ok ((ndR 13 false [] [] [] [] acc0 []).set 5 (.sl 2 acc), T.drop I)) by rw [HRL0.out, redirs_succ, hq]; rfl)
            have HQ := Lib.hid hq
            clear hq HRL0
            go_wp2_with fail
            refine (redirects_any _ B cs n I d tv T false HG.out.rs HQ.out).mono ?_
            rintro e wy ⟨rfl, hk⟩
            have HGY := Lib.hid (HG.out.keep0 hk)
            clear hk HG
            have hrec := (show RecAt wy N [.int .i64 13, .bool false, .string ⟨#[]⟩, .slice none 0 0, .slice none 0 0, .slice la m lc, .slice lk 1 1, .slice none 0 0] from HGY.out.rc)
            obtain ⟨⟨v0, v1, v2, v3, v4, v5, v6, v7⟩, _⟩ := hrec.eight
            have hnl := hrec.lt
            have HR3 := Lib.hid HGY.out.zr
            have HK3 := Lib.hid HGY.out.kp
            have HS3 := Lib.hid HGY.out.rs
            have HRD3 := Lib.hid (show RdL wy (fun b => X ≤ b) ((ndR 13 false [] [] [] [] acc0 []).set 5 (.sl 2 acc)) [.int .i64 13, .bool false, .string ⟨#[]⟩, .slice none 0 0, .slice none 0 0, .slice la m lc, .slice lk 1 1, .slice none 0 0] by rw [HSET.out]; exact HGY.out.all)
            have HND := Lib.hid (HNDS.out acc)
            clear hrec
            obtain ⟨⟨z0, z1, z2, z3, z4, z5, z6, z7⟩, y0, y1, y2, y3, y4, y5, y6, y7⟩ := HR3.out.eight
            have hzl := HR3.out.lt
            go_wp2_with fail
            refine bodyPost_ret (v := .tuple #[.agg #[.int .i64 13, .bool false, .string ⟨#[]⟩, .slice none 0 0, .slice none 0 0, .slice la m lc, .slice lk 1 1, .slice none 0 0], .bool true]) (by simp [results, Tryd.results75, go_sem, z0, z1, z2, z3, z4, z5, z6, z7]) rfl ?_
            obtain ⟨f1, f2, f3⟩ := nd_fin HK3.out HS3.out HXN.out.1 HCS.out HRD3.out (set8_keeps wy w.heap.size (.int .i64 13) (.bool false) (.string ⟨#[]⟩) (.slice none 0 0) (.slice none 0 0) (.slice la m lc) (.slice lk 1 1) (.slice none 0 0))
            rw [HRX.out]
            exact ⟨[.int .i64 13, .bool false, .string ⟨#[]⟩, .slice none 0 0, .slice none 0 0, .slice la m lc, .slice lk 1 1, .slice none 0 0], ⟨rfl, _, hiI, rfl, f1, f2⟩, HND.out, f3⟩
  | false =>
  refine (opP_any wa0 B cs n ja0 d tv T [40] false HS0.out hq1).mono ?_
  rintro e wa1 ⟨rfl, ja1, hj1, ht1, hrs1, hk1⟩
  have HS1 := Lib.hid hrs1
  have HK1 := Lib.hid (HK0.out.trans hk1 (fun _ _ h => h))
  have HT1 := Lib.hid (show T.drop ja1 = T.drop i by rw [show T.drop ja1 = T.drop ja0 from ht1]; exact HT0.out)
  have hji1 : i ≤ ja1 := by omega
  have HRES1 := Lib.hid (show res = chain1 (commandF K) (scrF (commandF K)) (T.drop ja1) by rw [show T.drop ja1 = T.drop ja0 from ht1]; rw [HRES0.out, compound_eq]; rw [hq1]; rfl)
  clear hrs1 hk1 ht1 hq1
  go_wp2_with fail
  cases hq2 : isWF [123] (T.drop ja1) with
  | true =>
    have hrb : res = some (withRedirs (scrF (commandF K)) (shutF (commandF K) 12 (needW [125]) (T.drop ja1).tail)) := by rw [HRES1.out]; unfold chain1; rw [hq2, if_pos rfl]
    refine (is_any wa1 B cs n ja1 d tv T [123] true HS1.out (by decide) hq2).mono ?_
    rintro e wb ⟨rfl, jb, hjb, htb, hrsb, hkb⟩
    have HSB := Lib.hid hrsb
    have HKB := Lib.hid (HK1.out.trans hkb (fun _ _ h => h))
    rw [← show T.drop jb = (T.drop ja1).tail from htb] at hrb
    have HRB := Lib.hid hrb
    clear hrsb hkb htb hrb hq2
    go_wp2_with fail
    refine (list_any K HC.out wb B cs n jb d tv T HSB.out HD.out).mono ?_
    intro e w2 hp
    cases hcm : listF (commandF K) (T.drop jb) with
    | error y =>
      rw [hcm] at hp
      obtain ⟨rfl, hk2⟩ := hp
      have HRX := Lib.hid (show res = some (.error y) by rw [HRB.out]; unfold shutF; rw [hcm]; rfl)
      have HK3 := Lib.hid (((HKW.out.mono (fun _ _ h => h.elim)).trans HKB.out (fun _ _ h => h)).trans hk2 (fun _ _ h => h))
      clear hcm hk2
      go_wp2_with fail
      refine ⟨rfl, ?_⟩
      rw [HRX.out]
      exact ⟨rfl, HK3.out⟩
    | ok dr =>
      obtain ⟨acc0, r⟩ := dr
      rw [hcm] at hp
      obtain ⟨vs, ⟨rfl, j2, hj2, ht2, hrs2, hk2⟩, _, hnd, hrd⟩ := hp
      obtain ⟨k, b, s, a0, n0, c0, a1, n1, c1, a2, n2, c2, a3, n3, c3, a4, n4, c4, rfl⟩ := nd_vals hnd hrd
      have HRL2 := Lib.hid (show res = some (withRedirs (scrF (commandF K)) (if isWF [125] (T.drop j2) then .ok ((ndR 12 false [] [] [] [] acc0 []), (T.drop j2).tail) else .error 2)) by
        rw [HRB.out]; unfold shutF needW; rw [hcm]; dsimp only; rw [← ht2]; cases isWF [125] (T.drop j2) <;> rfl)
      obtain ⟨lk, hlk⟩ : ∃ lk, lk = some (⟨w2.heap.size, 0, none⟩ : Addr) := ⟨_, rfl⟩
      obtain ⟨wz, hwz⟩ : ∃ wz, wz = ((((((((w2.setCell ⟨N, 0, none⟩ (.int .i64 12)).setCell ⟨N, 1, none⟩ (.bool false)).setCell ⟨N, 2, none⟩ (.string ⟨#[]⟩)).setCell ⟨N, 3, none⟩ (.slice none 0 0)).setCell ⟨N, 4, none⟩ (.slice none 0 0)).setCell ⟨N, 5, none⟩ (.slice none 0 0)).setCell ⟨N, 6, none⟩ (.slice lk 1 1)).setCell ⟨N, 7, none⟩ (.slice none 0 0)) := ⟨_, rfl⟩
      have hkr : Keeps (fun b => b = N) w2 wz := by rw [hwz]; exact set8_keeps _ _ _ _ _ _ _ _ _ _
      have hzz : wz.heap.size = w2.heap.size := by rw [hwz]; simp
      obtain ⟨wr, hwr⟩ : ∃ wr, wr = wz.alloc (.cells #[.int .i64 k, .bool b, .string s, .slice a0 n0 c0, .slice a1 n1 c1, .slice a2 n2 c2, .slice a3 n3 c3, .slice a4 n4 c4] 40) := ⟨_, rfl⟩
      have hka : Keeps (fun _ => False) wz wr := by rw [hwr]; exact (Keeps.refl _ _).alloc _
      have hkk := HKB.out.trans hk2 (fun _ _ h => h)
      have hxn := HXN.out
      have hxe := HXE.out
      have hne := HNE.out
      have hcw := HCS.out
      have hsb := HKB.out.size
      have hB := hrs2.cs
      have hs2 := hkk.size
      have hrn2 := HN0.out.keep hkk (fun e => by omega)
      have hrow := rd_lit (k := 8) (m := 1) (Ty := 40) (D := fun b => X ≤ b) ((hrd.keep hkr (fun b _ hb e => by omega)).mono (fun b _ hb => by omega)) hnd.len (by decide) hwr (by omega)
      rw [hzz, ← hlk] at hrow
      have hrd3 : RdL wr (fun b => X ≤ b) (ndR 12 false [] [] [] [] acc0 []) [.int .i64 12, .bool false, .string ⟨#[]⟩, .slice none 0 0, .slice none 0 0, .slice none 0 0, .slice lk 1 1, .slice none 0 0] := ⟨.int _, .bool _, .str _, .nil _ _ _ (Nat.zero_le _), .nil _ _ _ (Nat.zero_le _), .nil _ _ _ (Nat.zero_le _), hrow, .nil _ _ _ (Nat.zero_le _), trivial⟩
      obtain ⟨⟨z0, z1, z2, z3, z4, z5, z6, z7⟩, y0, y1, y2, y3, y4, y5, y6, y7⟩ := hrn2.eight
      have hzl := hrn2.lt
      have hj2i : i ≤ j2 := by omega
      obtain ⟨p0, p1, p2, p3, p4, q6, q7, hset, hnds, hgi⟩ := core_gi (w := w) (N := N) (X := X) (Z := [.int .i64 0, .bool false, .string ⟨#[]⟩, .slice none 0 0, .slice none 0 0, .slice none 0 0, .slice none 0 0, .slice none 0 0]) (ds := (ndR 12 false [] [] [] [] acc0 [])) ⟨_, _, _, _, _, _, _, _, rfl⟩ hrd3 ((hrs2.keep hkr (fun b hb e => by omega) (fun e => by omega)).keep0 hka) ((((HKW.out.mono (fun _ _ h => h.elim)).trans hkk (fun _ _ h => h)).fresh hkr (fun b e => by omega)).trans hka (fun _ _ h => h.elim)) (((HR.out.keep hkk (fun e => by omega)).keep hkr (fun e => by omega)).keep hka (fun h => h)) ((by rw [hwz]; exact set8_rec hrn2 _ _ _ _ _ _ _ _ : RecAt wz N _).keep hka (fun h => h)) (by omega)
      have HG0 := Lib.hid hgi
      have HSET := Lib.hid hset
      have HNDS := Lib.hid hnds
      have HWR := Lib.hid hwr
      have HWZ := Lib.hid hwz
      have HLA := Lib.hid hlk
      clear hcm hk2 hrs2 hnd hrd ht2 hkr hka hkk hxn hxe hne hcw hsb hB hs2 hrn2 hrd3 hset hnds hgi hwr hwz hzz hrow hlk
      go_wp2_with fail
      rw [← HLA.out, ← HWZ.out, ← HWR.out]
      clear HWR HWZ HLA z0 z1 z2 z3 z4 z5 z6 z7 y0 y1 y2 y3 y4 y5 y6 y7 hzl
      cases hq2 : isWF [125] (T.drop j2) with
      | false =>
        have HRX := Lib.hid (show res = some (.error 2) by rw [HRL2.out, hq2]; rfl)
        refine (is_any wr B cs n j2 d tv T [125] false HG0.out.rs (by decide) hq2).mono ?_
        rintro e w3 ⟨rfl, j3, hj3, ht3, hrs3, hk3⟩
        have HK3 := Lib.hid (HG0.out.kp.trans hk3 (fun _ _ h => h))
        clear hrs3 hk3 ht3 hq2
        go_wp2_with fail
        refine (need_no _).mono ?_
        rintro e w4 ⟨rfl, rfl⟩
        go_wp2_with fail
        refine ⟨rfl, ?_⟩
        rw [HRX.out]
        exact ⟨rfl, HK3.out⟩
      | true =>
        refine (is_any wr B cs n j2 d tv T [125] true HG0.out.rs (by decide) hq2).mono ?_
        rintro e w3 ⟨rfl, j3, hj3, ht3, hrs3, hk3⟩
        have HG1 := Lib.hid (HG0.out.move HCS.out HXN.out.1 HXN.out.2 hk3 hrs3)
        have HRL := Lib.hid (show res = some (redEnd (ndR 12 false [] [] [] [] acc0 []) (redirsF (scrF (commandF K)) (T.length - j3 + 1) [] (T.drop j3))) by rw [HRL2.out, hq2, if_pos rfl, with_ok, ← show T.drop j3 = (T.drop j2).tail from ht3, List.length_drop])
        clear hrs3 hk3 ht3 hq2 HG0 HRL2
        go_wp2_with fail
        refine (need_yes _).mono ?_
        rintro e w4 ⟨rfl, rfl⟩
        go_wp2_with fail
        go_loopg [] (T.length - j3) (fun g wr => ∃ (I M m : Nat) (la : Option Addr) (lc : Nat) (acc : List Dt), g = T.length - I ∧ i ≤ I ∧ m ≤ I ∧ T.length - I + 1 ≤ M ∧ Hid (GI w wr B cs tv n T d X N [.int .i64 0, .bool false, .string ⟨#[]⟩, .slice none 0 0, .slice none 0 0, .slice none 0 0, .slice none 0 0, .slice none 0 0] [p0, p1, p2, p3, p4] [q6, q7] [.int .i64 12, .bool false, .string ⟨#[]⟩, .slice none 0 0, .slice none 0 0] [.slice lk 1 1, .slice none 0 0] 2 47 I m la lc acc) ∧ Hid (res = some (redEnd (ndR 12 false [] [] [] [] acc0 []) (redirsF (scrF (commandF K)) M acc (T.drop I)))))
        case atStart => exact ⟨j3, _, 0, none, 0, [], rfl, by omega, Nat.zero_le _, Nat.le_refl _, HG1, HRL⟩
        case round =>
          obtain ⟨I, M, m, la, lc, acc, hgk, hiI, hmI, hM, HG, HRL0⟩ := hrel
          have HGK := Lib.hid hgk
          have hIT := HG.out.rs.i
          have hT2 := HG.out.rs.sm.1
          obtain ⟨M, rfl⟩ : ∃ M', M = M' + 1 := ⟨M - 1, by omega⟩
          clear hgk HG1 HRL
          cases hq : redirB (T.drop I) with
          | true =>
            have HPOS := Lib.hid (redir_pos hq)
            have HRL1 := Lib.hid (show res = some (redEnd (ndR 12 false [] [] [] [] acc0 []) (match redirF (scrF (commandF K)) (T.drop I) with
              | .error e => .error e
              | .ok (d, r) => redirsF (scrF (commandF K)) M (acc ++ d) r)) by rw [HRL0.out, redirs_succ, hq, if_pos rfl]; all_goals rfl)
            have HQ := Lib.hid hq
            clear hq HRL0
            go_wp2_with fail
            refine (redirects_any _ B cs n I d tv T true HG.out.rs HQ.out).mono ?_
            rintro e wb2 ⟨rfl, hk⟩
            have HGB := Lib.hid (HG.out.keep0 hk)
            clear hk HG
            go_wp2_with fail
            have hXw := HXN.out.1
            have HXW := Lib.hid (show X ≤ wb2.heap.size by have h1 := HGB.out.rc.lt; have h2 := HXS.out; omega)
            obtain ⟨⟨x0, x1, x2, x3, x4, x5, x6, x7⟩, ⟨xf0, xf1, xf2, xf3, xf4, xf5, xf6, xf7⟩⟩ := (show RecAt wb2 N [.int .i64 12, .bool false, .string ⟨#[]⟩, .slice none 0 0, .slice none 0 0, .slice la m lc, .slice lk 1 1, .slice none 0 0] from HGB.out.rc).eight
            have hNl := HGB.out.rc.lt
            cases hcm : redirF (scrF (commandF K)) (T.drop I) with
            | error y =>
              have HRX := Lib.hid (show res = some (.error y) by rw [HRL1.out, hcm]; rfl)
              have HCM := Lib.hid hcm
              clear hcm
              go_wp2_with fail
              refine wp_region_held_drew (S := (fun w' => RecAt w' N [.int .i64 12, .bool false, .string ⟨#[]⟩, .slice none 0 0, .slice none 0 0, .slice la m lc, .slice lk 1 1, .slice none 0 0])) (by kernel_rfl) (HGB.out.rc.keep (S := fun _ => False) (Keeps.refl _ _).drew (fun h => h)) (fun hHeld => ?_)
              refine wpAnyH_take (i := 0) (v := .pointer (some ⟨N, 5, none⟩)) rfl (by kernel_rfl) (by kernel_rfl) (by kernel_rfl) (fun _ _ _ h => h) (Or.inl ⟨by rfl, ?_⟩) hHeld ?_
              · (intro ww hSw; have ⟨⟨g0, g1, g2, g3, g4, g5, g6, g7⟩, _⟩ := RecAt.eight hSw; go_simp; all_goals (first | done | with_reducible rfl))
              refine wpAnyH_take (i := 1) (v := .slice la m lc) rfl (by kernel_rfl) (by kernel_rfl) (by kernel_rfl) (fun _ _ _ h => h) (Or.inl ⟨by rfl, ?_⟩) hHeld ?_
              · (intro ww hSw; have ⟨⟨g0, g1, g2, g3, g4, g5, g6, g7⟩, _⟩ := RecAt.eight hSw; go_simp; all_goals (first | done | with_reducible rfl))
              refine wpAnyH_take (i := 2) (v := .pointer (some ⟨cs, 0, none⟩)) rfl (by kernel_rfl) (by kernel_rfl) (by kernel_rfl) (fun _ _ _ h => h) (Or.inl ⟨by rfl, ?_⟩) hHeld ?_
              · (intro ww hSw; have ⟨⟨g0, g1, g2, g3, g4, g5, g6, g7⟩, _⟩ := RecAt.eight hSw; go_simp; all_goals (first | done | with_reducible rfl))
              refine wpAnyH_ready (rs := [3]) (by kernel_rfl) (by simp) ?_
              refine AllReadyH.cons rfl (fun KK hK => ?_) AllReadyH.nil
              go_simp
              go_at_call 90
              refine (redir_any K HSC.out _ B cs n I d tv T (HGB.out.rs.keep0 (Keeps.refl _ _).drew) HD.out HPOS.out).mono ?_
              rw [HCM.out]
              rintro e w4 ⟨rfl, hk4⟩
              have HK4 := Lib.hid ((HGB.out.kp.drew).trans hk4 (fun _ _ h => h))
              clear hk4
              go_wp2_with fail
              refine ⟨rfl, ?_⟩
              rw [HRX.out]
              exact ⟨rfl, HK4.out⟩
            | ok dr =>
              obtain ⟨d2, r2⟩ := dr
              have HRX := Lib.hid (show res = some (redEnd (ndR 12 false [] [] [] [] acc0 []) (redirsF (scrF (commandF K)) M (acc ++ d2) r2)) by rw [HRL1.out, hcm])
              have HCM := Lib.hid hcm
              clear hcm
              have HCALL := Lib.hid (show ∀ e w4, RecPost wb2.drew B cs tv n T I d RdrS (.ok (d2, r2)) e w4 → ∃ (j4 : Nat) (sv : ByteArray) (a5 : Option Addr) (m5 c5 : Nat) (xs : List Value), e = .returned (.agg #[.string sv, .slice a5 m5 c5]) ∧ (I ≤ j4 ∧ j4 ≤ T.length ∧ T.drop j4 = r2 ∧ True) ∧ w4.ownsRow 0 47 2 (.slice la m lc) m xs ∧ RecAt w4 N [.int .i64 12, .bool false, .string ⟨#[]⟩, .slice none 0 0, .slice none 0 0, .slice la m lc, .slice lk 1 1, .slice none 0 0] ∧
                  (∀ (gg cap : Nat) (w5 : World) (o : Obj), w5.ownsRow 0 47 2 (.slice (some ⟨gg, 0, none⟩) (m + 1) cap) (m + 1) (xs ++ [.string sv, .slice a5 m5 c5]) → (w4.alloc o).grownBy w5 (Value.slice la m lc).ownBlock → ((Value.slice la m lc).ownBlock = some gg ∨ gg = w4.heap.size + 1) →
                    RecAt w5 N [.int .i64 12, .bool false, .string ⟨#[]⟩, .slice none 0 0, .slice none 0 0, .slice la m lc, .slice lk 1 1, .slice none 0 0] ∧ GI w (w5.setCell ⟨N, 5, none⟩ (.slice (some ⟨gg, 0, none⟩) (m + 1) cap)) B cs tv n T d X N [.int .i64 0, .bool false, .string ⟨#[]⟩, .slice none 0 0, .slice none 0 0, .slice none 0 0, .slice none 0 0, .slice none 0 0] [p0, p1, p2, p3, p4] [q6, q7] [.int .i64 12, .bool false, .string ⟨#[]⟩, .slice none 0 0, .slice none 0 0] [.slice lk 1 1, .slice none 0 0] 2 47 j4 (m + 1) (some ⟨gg, 0, none⟩) cap (acc ++ d2)) from fun e w4 hp => by
                obtain ⟨vs, ⟨he, j4, hj4, ht4, hrs4, hk4⟩, ⟨sv, a5, m5, c5, rfl⟩, hrd4⟩ := hp
                obtain ⟨xs, ho, hrec, hF⟩ := HGB.out.more HCS.out HXN.out.1 HXN.out.2 HXW.out ((Keeps.refl (fun b => b = cs) wb2).drew.trans hk4 (fun _ _ h => h)) hrs4 hrd4
                exact ⟨j4, sv, a5, m5, c5, xs, he, ⟨hj4, hrs4.i, ht4, trivial⟩, ho, hrec, hF⟩)
              go_wp2_with fail
              go_region_law (first
                | (refine step_append_lies _ (by rfl) _ _ _ (by rfl) 0 47 i0 _ 2 40 Tryd.underlying37 hi0 hz0 hz1 hz2 rfl (by omega) (.slice la m lc) m xs (by rfl) (hown4.alloc _)
                    ⟨w4.heap.size, 0, none⟩ 1 1 [.string sv, .slice a5 m5 c5] (by rfl) (by rfl) (World.news_of_block (cs := #[.string sv, .slice a5 m5 c5]) (t := 47) (fr := (0, 0)) (heap_alloc_new w4 _)) (by simp [Value.oneCell'])
                    (by omega) (by unfold maxLen; omega) (by omega) (by simp) (w4.heap.size + 1) (by simp) ?_; intro gg cap w5 hown2 hgrow hat hlt5
                   obtain ⟨hrec5, hG5⟩ := HF.out gg cap w5 _ hown2 hgrow hat
                   obtain ⟨⟨z0, z1, z2, z3, z4, z5, z6, z7⟩, ⟨zf0, zf1, zf2, zf3, zf4, zf5, zf6, zf7⟩⟩ := RecAt.eight hrec5
                   have hN5 := hrec5.lt
                   have HG5 := Lib.hid hG5
                   clear hrec5 hG5 hown2 hgrow hat)
                | (go_simp; go_at_call 90; refine (redir_any K HSC.out _ B cs n I d tv T (HGB.out.rs.keep0 (Keeps.refl _ _).drew) HD.out HPOS.out).mono ?_; rw [HCM.out]; intro e w4 hp; obtain ⟨j4, sv, a5, m5, c5, xs, he, hJ4, hown4, hrec4, hF⟩ := HCALL.out e w4 hp; subst he; obtain ⟨⟨y0, y1, y2, y3, y4, y5, y6, y7⟩, ⟨yf0, yf1, yf2, yf3, yf4, yf5, yf6, yf7⟩⟩ := RecAt.eight hrec4; have hN4 := hrec4.lt; have HF := Lib.hid hF; have HJ4 := Lib.hid hJ4; clear hp hF hJ4 hrec4))
              all_goals
                obtain ⟨w3, hw3⟩ : ∃ w3, w3 = w5.setCell ⟨N, 5, none⟩ (.slice (some ⟨gg, 0, none⟩) (m + 1) cap) := ⟨_, rfl⟩
                rw [← hw3] at HG5
                rw [← hw3]
                have HRN := Lib.hid (show res = some (redEnd (ndR 12 false [] [] [] [] acc0 []) (redirsF (scrF (commandF K)) M (acc ++ d2) (T.drop j4))) by rw [HRX.out, HJ4.out.2.2.1])
                have hj4b : I + 1 ≤ j4 := by
                  have h1 := redirF_len HCM.out
                  have h2 := congrArg List.length HJ4.out.2.2.1
                  rw [List.length_drop] at h1 h2
                  have h3 := HJ4.out.2.1
                  omega
                have hj4T := HJ4.out.2.1
                clear hw3 HJ4 HCM
                go_wp2_with fail
                go_roundg (T.length - j4)
                case measure => have := HGK.out; omega
                case rel => exact ⟨j4, M, m + 1, _, cap, acc ++ d2, rfl, by omega, by omega, by omega, HG5, HRN⟩
          | false =>
            have HRX := Lib.hid (show res = some (.ok ((ndR 12 false [] [] [] [] acc0 []).set 5 (.sl 2 acc), T.drop I)) by rw [HRL0.out, redirs_succ, hq]; rfl)
            have HQ := Lib.hid hq
            clear hq HRL0
            go_wp2_with fail
            refine (redirects_any _ B cs n I d tv T false HG.out.rs HQ.out).mono ?_
            rintro e wy ⟨rfl, hk⟩
            have HGY := Lib.hid (HG.out.keep0 hk)
            clear hk HG
            have hrec := (show RecAt wy N [.int .i64 12, .bool false, .string ⟨#[]⟩, .slice none 0 0, .slice none 0 0, .slice la m lc, .slice lk 1 1, .slice none 0 0] from HGY.out.rc)
            obtain ⟨⟨v0, v1, v2, v3, v4, v5, v6, v7⟩, _⟩ := hrec.eight
            have hnl := hrec.lt
            have HR3 := Lib.hid HGY.out.zr
            have HK3 := Lib.hid HGY.out.kp
            have HS3 := Lib.hid HGY.out.rs
            have HRD3 := Lib.hid (show RdL wy (fun b => X ≤ b) ((ndR 12 false [] [] [] [] acc0 []).set 5 (.sl 2 acc)) [.int .i64 12, .bool false, .string ⟨#[]⟩, .slice none 0 0, .slice none 0 0, .slice la m lc, .slice lk 1 1, .slice none 0 0] by rw [HSET.out]; exact HGY.out.all)
            have HND := Lib.hid (HNDS.out acc)
            clear hrec
            obtain ⟨⟨z0, z1, z2, z3, z4, z5, z6, z7⟩, y0, y1, y2, y3, y4, y5, y6, y7⟩ := HR3.out.eight
            have hzl := HR3.out.lt
            go_wp2_with fail
            refine bodyPost_ret (v := .tuple #[.agg #[.int .i64 12, .bool false, .string ⟨#[]⟩, .slice none 0 0, .slice none 0 0, .slice la m lc, .slice lk 1 1, .slice none 0 0], .bool true]) (by simp [results, Tryd.results75, go_sem, z0, z1, z2, z3, z4, z5, z6, z7]) rfl ?_
            obtain ⟨f1, f2, f3⟩ := nd_fin HK3.out HS3.out HXN.out.1 HCS.out HRD3.out (set8_keeps wy w.heap.size (.int .i64 12) (.bool false) (.string ⟨#[]⟩) (.slice none 0 0) (.slice none 0 0) (.slice la m lc) (.slice lk 1 1) (.slice none 0 0))
            rw [HRX.out]
            exact ⟨[.int .i64 12, .bool false, .string ⟨#[]⟩, .slice none 0 0, .slice none 0 0, .slice la m lc, .slice lk 1 1, .slice none 0 0], ⟨rfl, _, hiI, rfl, f1, f2⟩, HND.out, f3⟩
  | false =>
  refine (is_any wa1 B cs n ja1 d tv T [123] false HS1.out (by decide) hq2).mono ?_
  rintro e wa2 ⟨rfl, ja2, hj2, ht2, hrs2, hk2⟩
  have HS2 := Lib.hid hrs2
  have HK2 := Lib.hid (HK1.out.trans hk2 (fun _ _ h => h))
  have HT2 := Lib.hid (show T.drop ja2 = T.drop i by rw [show T.drop ja2 = T.drop ja1 from ht2]; exact HT1.out)
  have hji2 : i ≤ ja2 := by omega
  have HRES2 := Lib.hid (show res = chain2 (commandF K) (scrF (commandF K)) (T.drop ja2) by rw [show T.drop ja2 = T.drop ja1 from ht2]; rw [HRES1.out]; unfold chain1; rw [hq2]; rfl)
  clear hrs2 hk2 ht2 hq2
  go_wp2_with fail
  cases hq3 : isWF [105, 102] (T.drop ja2) with
  | true =>
    have hrb : res = some (withRedirs (scrF (commandF K)) (choiceF (commandF K) (T.drop ja2).tail)) := by rw [HRES2.out]; unfold chain2; rw [hq3, if_pos rfl]
    refine (is_any wa2 B cs n ja2 d tv T [105, 102] true HS2.out (by decide) hq3).mono ?_
    rintro e wb ⟨rfl, jb, hjb, htb, hrsb, hkb⟩
    have HSB := Lib.hid hrsb
    have HKB := Lib.hid (HK2.out.trans hkb (fun _ _ h => h))
    rw [← show T.drop jb = (T.drop ja2).tail from htb] at hrb
    have HRB := Lib.hid hrb
    clear hrsb hkb htb hrb hq3
    go_wp2_with fail
    refine (choice_any K HC.out wb B cs n jb d tv T HSB.out HD.out).mono ?_
    intro e w2 hp
    cases hcm : choiceF (commandF K) (T.drop jb) with
    | error y =>
      rw [hcm] at hp
      obtain ⟨rfl, hk2⟩ := hp
      have HRX := Lib.hid (show res = some (.error y) by rw [HRB.out, hcm]; rfl)
      have HK3 := Lib.hid (((HKW.out.mono (fun _ _ h => h.elim)).trans HKB.out (fun _ _ h => h)).trans hk2 (fun _ _ h => h))
      clear hcm hk2
      go_wp2_with fail
      refine ⟨rfl, ?_⟩
      rw [HRX.out]
      exact ⟨rfl, HK3.out⟩
    | ok dr =>
      obtain ⟨ds, r⟩ := dr
      rw [hcm] at hp
      obtain ⟨vs, ⟨rfl, j2, hj2, ht2, hrs2, hk2⟩, hsh, hnd, hrd⟩ := hp
      obtain ⟨k, b, s, a0, n0, c0, a1, n1, c1, a3, n3, c3, a4, n4, c4, rfl⟩ := bare_vals hnd hrd hsh
      have HRL := Lib.hid (show res = some (redEnd ds (redirsF (scrF (commandF K)) (T.length - j2 + 1) [] (T.drop j2))) by rw [HRB.out, hcm, with_ok, ← ht2, List.length_drop])
      obtain ⟨wr, hwr⟩ : ∃ wr, wr = ((((((((w2.setCell ⟨N, 0, none⟩ (.int .i64 k)).setCell ⟨N, 1, none⟩ (.bool b)).setCell ⟨N, 2, none⟩ (.string s)).setCell ⟨N, 3, none⟩ (.slice a0 n0 c0)).setCell ⟨N, 4, none⟩ (.slice a1 n1 c1)).setCell ⟨N, 5, none⟩ (.slice none 0 0)).setCell ⟨N, 6, none⟩ (.slice a3 n3 c3)).setCell ⟨N, 7, none⟩ (.slice a4 n4 c4)) := ⟨_, rfl⟩
      have hkr : Keeps (fun b => b = N) w2 wr := by rw [hwr]; exact set8_keeps _ _ _ _ _ _ _ _ _ _
      have hkk := HKB.out.trans hk2 (fun _ _ h => h)
      have hxn := HXN.out
      have hxe := HXE.out
      have hne := HNE.out
      have hcw := HCS.out
      have hsb := HKB.out.size
      have hB := hrs2.cs
      have hrn2 := HN0.out.keep hkk (fun e => by omega)
      have hrd3 := (hrd.keep hkr (fun b _ hb e => by omega)).mono (D' := fun b => X ≤ b) (fun b _ hb => by omega)
      obtain ⟨⟨z0, z1, z2, z3, z4, z5, z6, z7⟩, y0, y1, y2, y3, y4, y5, y6, y7⟩ := hrn2.eight
      have hzl := hrn2.lt
      have hj2i : i ≤ j2 := by omega
      obtain ⟨p0, p1, p2, p3, p4, q6, q7, hset, hnds, hgi⟩ := core_gi (w := w) (N := N) (X := X) (Z := [.int .i64 0, .bool false, .string ⟨#[]⟩, .slice none 0 0, .slice none 0 0, .slice none 0 0, .slice none 0 0, .slice none 0 0]) (ds := ds) hnd hrd3 (hrs2.keep hkr (fun b hb e => by omega) (fun e => by omega)) (((HKW.out.mono (fun _ _ h => h.elim)).trans hkk (fun _ _ h => h)).fresh hkr (fun b e => by omega)) ((HR.out.keep hkk (fun e => by omega)).keep hkr (fun e => by omega)) (by rw [hwr]; exact set8_rec hrn2 _ _ _ _ _ _ _ _) (by omega)
      have HG0 := Lib.hid hgi
      have HSET := Lib.hid hset
      have HNDS := Lib.hid hnds
      have HWR := Lib.hid hwr
      clear hcm hk2 hrs2 hsh hnd hrd ht2 hkr hkk hxn hxe hne hcw hsb hB hrn2 hrd3 hset hnds hgi hwr
      go_wp2_with fail
      rw [← HWR.out]
      clear HWR z0 z1 z2 z3 z4 z5 z6 z7 y0 y1 y2 y3 y4 y5 y6 y7 hzl
      go_loopg [] (T.length - j2) (fun g wr => ∃ (I M m : Nat) (la : Option Addr) (lc : Nat) (acc : List Dt), g = T.length - I ∧ i ≤ I ∧ m ≤ I ∧ T.length - I + 1 ≤ M ∧ Hid (GI w wr B cs tv n T d X N [.int .i64 0, .bool false, .string ⟨#[]⟩, .slice none 0 0, .slice none 0 0, .slice none 0 0, .slice none 0 0, .slice none 0 0] [p0, p1, p2, p3, p4] [q6, q7] [.int .i64 k, .bool b, .string s, .slice a0 n0 c0, .slice a1 n1 c1] [.slice a3 n3 c3, .slice a4 n4 c4] 2 47 I m la lc acc) ∧ Hid (res = some (redEnd ds (redirsF (scrF (commandF K)) M acc (T.drop I)))))
      case atStart => exact ⟨j2, _, 0, none, 0, [], rfl, by omega, Nat.zero_le _, Nat.le_refl _, HG0, HRL⟩
      case round =>
        obtain ⟨I, M, m, la, lc, acc, hgk, hiI, hmI, hM, HG, HRL0⟩ := hrel
        have HGK := Lib.hid hgk
        have hIT := HG.out.rs.i
        have hT2 := HG.out.rs.sm.1
        obtain ⟨M, rfl⟩ : ∃ M', M = M' + 1 := ⟨M - 1, by omega⟩
        clear hgk HG0 HRL
        cases hq : redirB (T.drop I) with
        | true =>
          have HPOS := Lib.hid (redir_pos hq)
          have HRL1 := Lib.hid (show res = some (redEnd ds (match redirF (scrF (commandF K)) (T.drop I) with
            | .error e => .error e
            | .ok (d, r) => redirsF (scrF (commandF K)) M (acc ++ d) r)) by rw [HRL0.out, redirs_succ, hq, if_pos rfl]; all_goals rfl)
          have HQ := Lib.hid hq
          clear hq HRL0
          go_wp2_with fail
          refine (redirects_any _ B cs n I d tv T true HG.out.rs HQ.out).mono ?_
          rintro e wb2 ⟨rfl, hk⟩
          have HGB := Lib.hid (HG.out.keep0 hk)
          clear hk HG
          go_wp2_with fail
          have hXw := HXN.out.1
          have HXW := Lib.hid (show X ≤ wb2.heap.size by have h1 := HGB.out.rc.lt; have h2 := HXS.out; omega)
          obtain ⟨⟨x0, x1, x2, x3, x4, x5, x6, x7⟩, ⟨xf0, xf1, xf2, xf3, xf4, xf5, xf6, xf7⟩⟩ := (show RecAt wb2 N [.int .i64 k, .bool b, .string s, .slice a0 n0 c0, .slice a1 n1 c1, .slice la m lc, .slice a3 n3 c3, .slice a4 n4 c4] from HGB.out.rc).eight
          have hNl := HGB.out.rc.lt
          cases hcm : redirF (scrF (commandF K)) (T.drop I) with
          | error y =>
            have HRX := Lib.hid (show res = some (.error y) by rw [HRL1.out, hcm]; rfl)
            have HCM := Lib.hid hcm
            clear hcm
            go_wp2_with fail
            refine wp_region_held_drew (S := (fun w' => RecAt w' N [.int .i64 k, .bool b, .string s, .slice a0 n0 c0, .slice a1 n1 c1, .slice la m lc, .slice a3 n3 c3, .slice a4 n4 c4])) (by kernel_rfl) (HGB.out.rc.keep (S := fun _ => False) (Keeps.refl _ _).drew (fun h => h)) (fun hHeld => ?_)
            refine wpAnyH_take (i := 0) (v := .pointer (some ⟨N, 5, none⟩)) rfl (by kernel_rfl) (by kernel_rfl) (by kernel_rfl) (fun _ _ _ h => h) (Or.inl ⟨by rfl, ?_⟩) hHeld ?_
            · (intro ww hSw; have ⟨⟨g0, g1, g2, g3, g4, g5, g6, g7⟩, _⟩ := RecAt.eight hSw; go_simp; all_goals (first | done | with_reducible rfl))
            refine wpAnyH_take (i := 1) (v := .slice la m lc) rfl (by kernel_rfl) (by kernel_rfl) (by kernel_rfl) (fun _ _ _ h => h) (Or.inl ⟨by rfl, ?_⟩) hHeld ?_
            · (intro ww hSw; have ⟨⟨g0, g1, g2, g3, g4, g5, g6, g7⟩, _⟩ := RecAt.eight hSw; go_simp; all_goals (first | done | with_reducible rfl))
            refine wpAnyH_take (i := 2) (v := .pointer (some ⟨cs, 0, none⟩)) rfl (by kernel_rfl) (by kernel_rfl) (by kernel_rfl) (fun _ _ _ h => h) (Or.inl ⟨by rfl, ?_⟩) hHeld ?_
            · (intro ww hSw; have ⟨⟨g0, g1, g2, g3, g4, g5, g6, g7⟩, _⟩ := RecAt.eight hSw; go_simp; all_goals (first | done | with_reducible rfl))
            refine wpAnyH_ready (rs := [3]) (by kernel_rfl) (by simp) ?_
            refine AllReadyH.cons rfl (fun KK hK => ?_) AllReadyH.nil
            go_simp
            go_at_call 90
            refine (redir_any K HSC.out _ B cs n I d tv T (HGB.out.rs.keep0 (Keeps.refl _ _).drew) HD.out HPOS.out).mono ?_
            rw [HCM.out]
            rintro e w4 ⟨rfl, hk4⟩
            have HK4 := Lib.hid ((HGB.out.kp.drew).trans hk4 (fun _ _ h => h))
            clear hk4
            go_wp2_with fail
            refine ⟨rfl, ?_⟩
            rw [HRX.out]
            exact ⟨rfl, HK4.out⟩
          | ok dr =>
            obtain ⟨d2, r2⟩ := dr
            have HRX := Lib.hid (show res = some (redEnd ds (redirsF (scrF (commandF K)) M (acc ++ d2) r2)) by rw [HRL1.out, hcm])
            have HCM := Lib.hid hcm
            clear hcm
            have HCALL := Lib.hid (show ∀ e w4, RecPost wb2.drew B cs tv n T I d RdrS (.ok (d2, r2)) e w4 → ∃ (j4 : Nat) (sv : ByteArray) (a5 : Option Addr) (m5 c5 : Nat) (xs : List Value), e = .returned (.agg #[.string sv, .slice a5 m5 c5]) ∧ (I ≤ j4 ∧ j4 ≤ T.length ∧ T.drop j4 = r2 ∧ True) ∧ w4.ownsRow 0 47 2 (.slice la m lc) m xs ∧ RecAt w4 N [.int .i64 k, .bool b, .string s, .slice a0 n0 c0, .slice a1 n1 c1, .slice la m lc, .slice a3 n3 c3, .slice a4 n4 c4] ∧
                (∀ (gg cap : Nat) (w5 : World) (o : Obj), w5.ownsRow 0 47 2 (.slice (some ⟨gg, 0, none⟩) (m + 1) cap) (m + 1) (xs ++ [.string sv, .slice a5 m5 c5]) → (w4.alloc o).grownBy w5 (Value.slice la m lc).ownBlock → ((Value.slice la m lc).ownBlock = some gg ∨ gg = w4.heap.size + 1) →
                  RecAt w5 N [.int .i64 k, .bool b, .string s, .slice a0 n0 c0, .slice a1 n1 c1, .slice la m lc, .slice a3 n3 c3, .slice a4 n4 c4] ∧ GI w (w5.setCell ⟨N, 5, none⟩ (.slice (some ⟨gg, 0, none⟩) (m + 1) cap)) B cs tv n T d X N [.int .i64 0, .bool false, .string ⟨#[]⟩, .slice none 0 0, .slice none 0 0, .slice none 0 0, .slice none 0 0, .slice none 0 0] [p0, p1, p2, p3, p4] [q6, q7] [.int .i64 k, .bool b, .string s, .slice a0 n0 c0, .slice a1 n1 c1] [.slice a3 n3 c3, .slice a4 n4 c4] 2 47 j4 (m + 1) (some ⟨gg, 0, none⟩) cap (acc ++ d2)) from fun e w4 hp => by
              obtain ⟨vs, ⟨he, j4, hj4, ht4, hrs4, hk4⟩, ⟨sv, a5, m5, c5, rfl⟩, hrd4⟩ := hp
              obtain ⟨xs, ho, hrec, hF⟩ := HGB.out.more HCS.out HXN.out.1 HXN.out.2 HXW.out ((Keeps.refl (fun b => b = cs) wb2).drew.trans hk4 (fun _ _ h => h)) hrs4 hrd4
              exact ⟨j4, sv, a5, m5, c5, xs, he, ⟨hj4, hrs4.i, ht4, trivial⟩, ho, hrec, hF⟩)
            go_wp2_with fail
            go_region_law (first
              | (refine step_append_lies _ (by rfl) _ _ _ (by rfl) 0 47 i0 _ 2 40 Tryd.underlying37 hi0 hz0 hz1 hz2 rfl (by omega) (.slice la m lc) m xs (by rfl) (hown4.alloc _)
                  ⟨w4.heap.size, 0, none⟩ 1 1 [.string sv, .slice a5 m5 c5] (by rfl) (by rfl) (World.news_of_block (cs := #[.string sv, .slice a5 m5 c5]) (t := 47) (fr := (0, 0)) (heap_alloc_new w4 _)) (by simp [Value.oneCell'])
                  (by omega) (by unfold maxLen; omega) (by omega) (by simp) (w4.heap.size + 1) (by simp) ?_; intro gg cap w5 hown2 hgrow hat hlt5
                 obtain ⟨hrec5, hG5⟩ := HF.out gg cap w5 _ hown2 hgrow hat
                 obtain ⟨⟨z0, z1, z2, z3, z4, z5, z6, z7⟩, ⟨zf0, zf1, zf2, zf3, zf4, zf5, zf6, zf7⟩⟩ := RecAt.eight hrec5
                 have hN5 := hrec5.lt
                 have HG5 := Lib.hid hG5
                 clear hrec5 hG5 hown2 hgrow hat)
              | (go_simp; go_at_call 90; refine (redir_any K HSC.out _ B cs n I d tv T (HGB.out.rs.keep0 (Keeps.refl _ _).drew) HD.out HPOS.out).mono ?_; rw [HCM.out]; intro e w4 hp; obtain ⟨j4, sv, a5, m5, c5, xs, he, hJ4, hown4, hrec4, hF⟩ := HCALL.out e w4 hp; subst he; obtain ⟨⟨y0, y1, y2, y3, y4, y5, y6, y7⟩, ⟨yf0, yf1, yf2, yf3, yf4, yf5, yf6, yf7⟩⟩ := RecAt.eight hrec4; have hN4 := hrec4.lt; have HF := Lib.hid hF; have HJ4 := Lib.hid hJ4; clear hp hF hJ4 hrec4))
            all_goals
              obtain ⟨w3, hw3⟩ : ∃ w3, w3 = w5.setCell ⟨N, 5, none⟩ (.slice (some ⟨gg, 0, none⟩) (m + 1) cap) := ⟨_, rfl⟩
              rw [← hw3] at HG5
              rw [← hw3]
              have HRN := Lib.hid (show res = some (redEnd ds (redirsF (scrF (commandF K)) M (acc ++ d2) (T.drop j4))) by rw [HRX.out, HJ4.out.2.2.1])
              have hj4b : I + 1 ≤ j4 := by
                have h1 := redirF_len HCM.out
                have h2 := congrArg List.length HJ4.out.2.2.1
                rw [List.length_drop] at h1 h2
                have h3 := HJ4.out.2.1
                omega
              have hj4T := HJ4.out.2.1
              clear hw3 HJ4 HCM
              go_wp2_with fail
              go_roundg (T.length - j4)
              case measure => have := HGK.out; omega
              case rel => exact ⟨j4, M, m + 1, _, cap, acc ++ d2, rfl, by omega, by omega, by omega, HG5, HRN⟩
        | false =>
          have HRX := Lib.hid (show res = some (.ok (ds.set 5 (.sl 2 acc), T.drop I)) by rw [HRL0.out, redirs_succ, hq]; rfl)
          have HQ := Lib.hid hq
          clear hq HRL0
          go_wp2_with fail
          refine (redirects_any _ B cs n I d tv T false HG.out.rs HQ.out).mono ?_
          rintro e wy ⟨rfl, hk⟩
          have HGY := Lib.hid (HG.out.keep0 hk)
          clear hk HG
          have hrec := (show RecAt wy N [.int .i64 k, .bool b, .string s, .slice a0 n0 c0, .slice a1 n1 c1, .slice la m lc, .slice a3 n3 c3, .slice a4 n4 c4] from HGY.out.rc)
          obtain ⟨⟨v0, v1, v2, v3, v4, v5, v6, v7⟩, _⟩ := hrec.eight
          have hnl := hrec.lt
          have HR3 := Lib.hid HGY.out.zr
          have HK3 := Lib.hid HGY.out.kp
          have HS3 := Lib.hid HGY.out.rs
          have HRD3 := Lib.hid (show RdL wy (fun b => X ≤ b) (ds.set 5 (.sl 2 acc)) [.int .i64 k, .bool b, .string s, .slice a0 n0 c0, .slice a1 n1 c1, .slice la m lc, .slice a3 n3 c3, .slice a4 n4 c4] by rw [HSET.out]; exact HGY.out.all)
          have HND := Lib.hid (HNDS.out acc)
          clear hrec
          obtain ⟨⟨z0, z1, z2, z3, z4, z5, z6, z7⟩, y0, y1, y2, y3, y4, y5, y6, y7⟩ := HR3.out.eight
          have hzl := HR3.out.lt
          go_wp2_with fail
          refine bodyPost_ret (v := .tuple #[.agg #[.int .i64 k, .bool b, .string s, .slice a0 n0 c0, .slice a1 n1 c1, .slice la m lc, .slice a3 n3 c3, .slice a4 n4 c4], .bool true]) (by simp [results, Tryd.results75, go_sem, z0, z1, z2, z3, z4, z5, z6, z7]) rfl ?_
          obtain ⟨f1, f2, f3⟩ := nd_fin HK3.out HS3.out HXN.out.1 HCS.out HRD3.out (set8_keeps wy w.heap.size (.int .i64 k) (.bool b) (.string s) (.slice a0 n0 c0) (.slice a1 n1 c1) (.slice la m lc) (.slice a3 n3 c3) (.slice a4 n4 c4))
          rw [HRX.out]
          exact ⟨[.int .i64 k, .bool b, .string s, .slice a0 n0 c0, .slice a1 n1 c1, .slice la m lc, .slice a3 n3 c3, .slice a4 n4 c4], ⟨rfl, _, hiI, rfl, f1, f2⟩, HND.out, f3⟩
  | false =>
  refine (is_any wa2 B cs n ja2 d tv T [105, 102] false HS2.out (by decide) hq3).mono ?_
  rintro e wa3 ⟨rfl, ja3, hj3, ht3, hrs3, hk3⟩
  have HS3 := Lib.hid hrs3
  have HK3 := Lib.hid (HK2.out.trans hk3 (fun _ _ h => h))
  have HT3 := Lib.hid (show T.drop ja3 = T.drop i by rw [show T.drop ja3 = T.drop ja2 from ht3]; exact HT2.out)
  have hji3 : i ≤ ja3 := by omega
  have HRES3 := Lib.hid (show res = chain3 (commandF K) (scrF (commandF K)) (T.drop ja3) by rw [show T.drop ja3 = T.drop ja2 from ht3]; rw [HRES2.out]; unfold chain2; rw [hq3]; rfl)
  clear hrs3 hk3 ht3 hq3
  go_wp2_with fail
  cases hq4 : isWF [119, 104, 105, 108, 101] (T.drop ja3) with
  | true =>
    have hrb : res = some (withRedirs (scrF (commandF K)) (whileF (commandF K) 7 (T.drop ja3).tail)) := by rw [HRES3.out]; unfold chain3; rw [hq4, if_pos rfl]
    refine (is_any wa3 B cs n ja3 d tv T [119, 104, 105, 108, 101] true HS3.out (by decide) hq4).mono ?_
    rintro e wb ⟨rfl, jb, hjb, htb, hrsb, hkb⟩
    have HSB := Lib.hid hrsb
    have HKB := Lib.hid (HK3.out.trans hkb (fun _ _ h => h))
    rw [← show T.drop jb = (T.drop ja3).tail from htb] at hrb
    have HRB := Lib.hid hrb
    clear hrsb hkb htb hrb hq4
    go_wp2_with fail
    refine (loop_any K HC.out wb B cs n jb d 7 tv T HSB.out HD.out).mono ?_
    intro e w2 hp
    cases hcm : whileF (commandF K) 7 (T.drop jb) with
    | error y =>
      rw [hcm] at hp
      obtain ⟨rfl, hk2⟩ := hp
      have HRX := Lib.hid (show res = some (.error y) by rw [HRB.out, hcm]; rfl)
      have HK3 := Lib.hid (((HKW.out.mono (fun _ _ h => h.elim)).trans HKB.out (fun _ _ h => h)).trans hk2 (fun _ _ h => h))
      clear hcm hk2
      go_wp2_with fail
      refine ⟨rfl, ?_⟩
      rw [HRX.out]
      exact ⟨rfl, HK3.out⟩
    | ok dr =>
      obtain ⟨ds, r⟩ := dr
      rw [hcm] at hp
      obtain ⟨vs, ⟨rfl, j2, hj2, ht2, hrs2, hk2⟩, hsh, hnd, hrd⟩ := hp
      obtain ⟨k, b, s, a0, n0, c0, a1, n1, c1, a3, n3, c3, a4, n4, c4, rfl⟩ := bare_vals hnd hrd hsh
      have HRL := Lib.hid (show res = some (redEnd ds (redirsF (scrF (commandF K)) (T.length - j2 + 1) [] (T.drop j2))) by rw [HRB.out, hcm, with_ok, ← ht2, List.length_drop])
      obtain ⟨wr, hwr⟩ : ∃ wr, wr = ((((((((w2.setCell ⟨N, 0, none⟩ (.int .i64 k)).setCell ⟨N, 1, none⟩ (.bool b)).setCell ⟨N, 2, none⟩ (.string s)).setCell ⟨N, 3, none⟩ (.slice a0 n0 c0)).setCell ⟨N, 4, none⟩ (.slice a1 n1 c1)).setCell ⟨N, 5, none⟩ (.slice none 0 0)).setCell ⟨N, 6, none⟩ (.slice a3 n3 c3)).setCell ⟨N, 7, none⟩ (.slice a4 n4 c4)) := ⟨_, rfl⟩
      have hkr : Keeps (fun b => b = N) w2 wr := by rw [hwr]; exact set8_keeps _ _ _ _ _ _ _ _ _ _
      have hkk := HKB.out.trans hk2 (fun _ _ h => h)
      have hxn := HXN.out
      have hxe := HXE.out
      have hne := HNE.out
      have hcw := HCS.out
      have hsb := HKB.out.size
      have hB := hrs2.cs
      have hrn2 := HN0.out.keep hkk (fun e => by omega)
      have hrd3 := (hrd.keep hkr (fun b _ hb e => by omega)).mono (D' := fun b => X ≤ b) (fun b _ hb => by omega)
      obtain ⟨⟨z0, z1, z2, z3, z4, z5, z6, z7⟩, y0, y1, y2, y3, y4, y5, y6, y7⟩ := hrn2.eight
      have hzl := hrn2.lt
      have hj2i : i ≤ j2 := by omega
      obtain ⟨p0, p1, p2, p3, p4, q6, q7, hset, hnds, hgi⟩ := core_gi (w := w) (N := N) (X := X) (Z := [.int .i64 0, .bool false, .string ⟨#[]⟩, .slice none 0 0, .slice none 0 0, .slice none 0 0, .slice none 0 0, .slice none 0 0]) (ds := ds) hnd hrd3 (hrs2.keep hkr (fun b hb e => by omega) (fun e => by omega)) (((HKW.out.mono (fun _ _ h => h.elim)).trans hkk (fun _ _ h => h)).fresh hkr (fun b e => by omega)) ((HR.out.keep hkk (fun e => by omega)).keep hkr (fun e => by omega)) (by rw [hwr]; exact set8_rec hrn2 _ _ _ _ _ _ _ _) (by omega)
      have HG0 := Lib.hid hgi
      have HSET := Lib.hid hset
      have HNDS := Lib.hid hnds
      have HWR := Lib.hid hwr
      clear hcm hk2 hrs2 hsh hnd hrd ht2 hkr hkk hxn hxe hne hcw hsb hB hrn2 hrd3 hset hnds hgi hwr
      go_wp2_with fail
      rw [← HWR.out]
      clear HWR z0 z1 z2 z3 z4 z5 z6 z7 y0 y1 y2 y3 y4 y5 y6 y7 hzl
      go_loopg [] (T.length - j2) (fun g wr => ∃ (I M m : Nat) (la : Option Addr) (lc : Nat) (acc : List Dt), g = T.length - I ∧ i ≤ I ∧ m ≤ I ∧ T.length - I + 1 ≤ M ∧ Hid (GI w wr B cs tv n T d X N [.int .i64 0, .bool false, .string ⟨#[]⟩, .slice none 0 0, .slice none 0 0, .slice none 0 0, .slice none 0 0, .slice none 0 0] [p0, p1, p2, p3, p4] [q6, q7] [.int .i64 k, .bool b, .string s, .slice a0 n0 c0, .slice a1 n1 c1] [.slice a3 n3 c3, .slice a4 n4 c4] 2 47 I m la lc acc) ∧ Hid (res = some (redEnd ds (redirsF (scrF (commandF K)) M acc (T.drop I)))))
      case atStart => exact ⟨j2, _, 0, none, 0, [], rfl, by omega, Nat.zero_le _, Nat.le_refl _, HG0, HRL⟩
      case round =>
        obtain ⟨I, M, m, la, lc, acc, hgk, hiI, hmI, hM, HG, HRL0⟩ := hrel
        have HGK := Lib.hid hgk
        have hIT := HG.out.rs.i
        have hT2 := HG.out.rs.sm.1
        obtain ⟨M, rfl⟩ : ∃ M', M = M' + 1 := ⟨M - 1, by omega⟩
        clear hgk HG0 HRL
        cases hq : redirB (T.drop I) with
        | true =>
          have HPOS := Lib.hid (redir_pos hq)
          have HRL1 := Lib.hid (show res = some (redEnd ds (match redirF (scrF (commandF K)) (T.drop I) with
            | .error e => .error e
            | .ok (d, r) => redirsF (scrF (commandF K)) M (acc ++ d) r)) by rw [HRL0.out, redirs_succ, hq, if_pos rfl]; all_goals rfl)
          have HQ := Lib.hid hq
          clear hq HRL0
          go_wp2_with fail
          refine (redirects_any _ B cs n I d tv T true HG.out.rs HQ.out).mono ?_
          rintro e wb2 ⟨rfl, hk⟩
          have HGB := Lib.hid (HG.out.keep0 hk)
          clear hk HG
          go_wp2_with fail
          have hXw := HXN.out.1
          have HXW := Lib.hid (show X ≤ wb2.heap.size by have h1 := HGB.out.rc.lt; have h2 := HXS.out; omega)
          obtain ⟨⟨x0, x1, x2, x3, x4, x5, x6, x7⟩, ⟨xf0, xf1, xf2, xf3, xf4, xf5, xf6, xf7⟩⟩ := (show RecAt wb2 N [.int .i64 k, .bool b, .string s, .slice a0 n0 c0, .slice a1 n1 c1, .slice la m lc, .slice a3 n3 c3, .slice a4 n4 c4] from HGB.out.rc).eight
          have hNl := HGB.out.rc.lt
          cases hcm : redirF (scrF (commandF K)) (T.drop I) with
          | error y =>
            have HRX := Lib.hid (show res = some (.error y) by rw [HRL1.out, hcm]; rfl)
            have HCM := Lib.hid hcm
            clear hcm
            go_wp2_with fail
            refine wp_region_held_drew (S := (fun w' => RecAt w' N [.int .i64 k, .bool b, .string s, .slice a0 n0 c0, .slice a1 n1 c1, .slice la m lc, .slice a3 n3 c3, .slice a4 n4 c4])) (by kernel_rfl) (HGB.out.rc.keep (S := fun _ => False) (Keeps.refl _ _).drew (fun h => h)) (fun hHeld => ?_)
            refine wpAnyH_take (i := 0) (v := .pointer (some ⟨N, 5, none⟩)) rfl (by kernel_rfl) (by kernel_rfl) (by kernel_rfl) (fun _ _ _ h => h) (Or.inl ⟨by rfl, ?_⟩) hHeld ?_
            · (intro ww hSw; have ⟨⟨g0, g1, g2, g3, g4, g5, g6, g7⟩, _⟩ := RecAt.eight hSw; go_simp; all_goals (first | done | with_reducible rfl))
            refine wpAnyH_take (i := 1) (v := .slice la m lc) rfl (by kernel_rfl) (by kernel_rfl) (by kernel_rfl) (fun _ _ _ h => h) (Or.inl ⟨by rfl, ?_⟩) hHeld ?_
            · (intro ww hSw; have ⟨⟨g0, g1, g2, g3, g4, g5, g6, g7⟩, _⟩ := RecAt.eight hSw; go_simp; all_goals (first | done | with_reducible rfl))
            refine wpAnyH_take (i := 2) (v := .pointer (some ⟨cs, 0, none⟩)) rfl (by kernel_rfl) (by kernel_rfl) (by kernel_rfl) (fun _ _ _ h => h) (Or.inl ⟨by rfl, ?_⟩) hHeld ?_
            · (intro ww hSw; have ⟨⟨g0, g1, g2, g3, g4, g5, g6, g7⟩, _⟩ := RecAt.eight hSw; go_simp; all_goals (first | done | with_reducible rfl))
            refine wpAnyH_ready (rs := [3]) (by kernel_rfl) (by simp) ?_
            refine AllReadyH.cons rfl (fun KK hK => ?_) AllReadyH.nil
            go_simp
            go_at_call 90
            refine (redir_any K HSC.out _ B cs n I d tv T (HGB.out.rs.keep0 (Keeps.refl _ _).drew) HD.out HPOS.out).mono ?_
            rw [HCM.out]
            rintro e w4 ⟨rfl, hk4⟩
            have HK4 := Lib.hid ((HGB.out.kp.drew).trans hk4 (fun _ _ h => h))
            clear hk4
            go_wp2_with fail
            refine ⟨rfl, ?_⟩
            rw [HRX.out]
            exact ⟨rfl, HK4.out⟩
          | ok dr =>
            obtain ⟨d2, r2⟩ := dr
            have HRX := Lib.hid (show res = some (redEnd ds (redirsF (scrF (commandF K)) M (acc ++ d2) r2)) by rw [HRL1.out, hcm])
            have HCM := Lib.hid hcm
            clear hcm
            have HCALL := Lib.hid (show ∀ e w4, RecPost wb2.drew B cs tv n T I d RdrS (.ok (d2, r2)) e w4 → ∃ (j4 : Nat) (sv : ByteArray) (a5 : Option Addr) (m5 c5 : Nat) (xs : List Value), e = .returned (.agg #[.string sv, .slice a5 m5 c5]) ∧ (I ≤ j4 ∧ j4 ≤ T.length ∧ T.drop j4 = r2 ∧ True) ∧ w4.ownsRow 0 47 2 (.slice la m lc) m xs ∧ RecAt w4 N [.int .i64 k, .bool b, .string s, .slice a0 n0 c0, .slice a1 n1 c1, .slice la m lc, .slice a3 n3 c3, .slice a4 n4 c4] ∧
                (∀ (gg cap : Nat) (w5 : World) (o : Obj), w5.ownsRow 0 47 2 (.slice (some ⟨gg, 0, none⟩) (m + 1) cap) (m + 1) (xs ++ [.string sv, .slice a5 m5 c5]) → (w4.alloc o).grownBy w5 (Value.slice la m lc).ownBlock → ((Value.slice la m lc).ownBlock = some gg ∨ gg = w4.heap.size + 1) →
                  RecAt w5 N [.int .i64 k, .bool b, .string s, .slice a0 n0 c0, .slice a1 n1 c1, .slice la m lc, .slice a3 n3 c3, .slice a4 n4 c4] ∧ GI w (w5.setCell ⟨N, 5, none⟩ (.slice (some ⟨gg, 0, none⟩) (m + 1) cap)) B cs tv n T d X N [.int .i64 0, .bool false, .string ⟨#[]⟩, .slice none 0 0, .slice none 0 0, .slice none 0 0, .slice none 0 0, .slice none 0 0] [p0, p1, p2, p3, p4] [q6, q7] [.int .i64 k, .bool b, .string s, .slice a0 n0 c0, .slice a1 n1 c1] [.slice a3 n3 c3, .slice a4 n4 c4] 2 47 j4 (m + 1) (some ⟨gg, 0, none⟩) cap (acc ++ d2)) from fun e w4 hp => by
              obtain ⟨vs, ⟨he, j4, hj4, ht4, hrs4, hk4⟩, ⟨sv, a5, m5, c5, rfl⟩, hrd4⟩ := hp
              obtain ⟨xs, ho, hrec, hF⟩ := HGB.out.more HCS.out HXN.out.1 HXN.out.2 HXW.out ((Keeps.refl (fun b => b = cs) wb2).drew.trans hk4 (fun _ _ h => h)) hrs4 hrd4
              exact ⟨j4, sv, a5, m5, c5, xs, he, ⟨hj4, hrs4.i, ht4, trivial⟩, ho, hrec, hF⟩)
            go_wp2_with fail
            go_region_law (first
              | (refine step_append_lies _ (by rfl) _ _ _ (by rfl) 0 47 i0 _ 2 40 Tryd.underlying37 hi0 hz0 hz1 hz2 rfl (by omega) (.slice la m lc) m xs (by rfl) (hown4.alloc _)
                  ⟨w4.heap.size, 0, none⟩ 1 1 [.string sv, .slice a5 m5 c5] (by rfl) (by rfl) (World.news_of_block (cs := #[.string sv, .slice a5 m5 c5]) (t := 47) (fr := (0, 0)) (heap_alloc_new w4 _)) (by simp [Value.oneCell'])
                  (by omega) (by unfold maxLen; omega) (by omega) (by simp) (w4.heap.size + 1) (by simp) ?_; intro gg cap w5 hown2 hgrow hat hlt5
                 obtain ⟨hrec5, hG5⟩ := HF.out gg cap w5 _ hown2 hgrow hat
                 obtain ⟨⟨z0, z1, z2, z3, z4, z5, z6, z7⟩, ⟨zf0, zf1, zf2, zf3, zf4, zf5, zf6, zf7⟩⟩ := RecAt.eight hrec5
                 have hN5 := hrec5.lt
                 have HG5 := Lib.hid hG5
                 clear hrec5 hG5 hown2 hgrow hat)
              | (go_simp; go_at_call 90; refine (redir_any K HSC.out _ B cs n I d tv T (HGB.out.rs.keep0 (Keeps.refl _ _).drew) HD.out HPOS.out).mono ?_; rw [HCM.out]; intro e w4 hp; obtain ⟨j4, sv, a5, m5, c5, xs, he, hJ4, hown4, hrec4, hF⟩ := HCALL.out e w4 hp; subst he; obtain ⟨⟨y0, y1, y2, y3, y4, y5, y6, y7⟩, ⟨yf0, yf1, yf2, yf3, yf4, yf5, yf6, yf7⟩⟩ := RecAt.eight hrec4; have hN4 := hrec4.lt; have HF := Lib.hid hF; have HJ4 := Lib.hid hJ4; clear hp hF hJ4 hrec4))
            all_goals
              obtain ⟨w3, hw3⟩ : ∃ w3, w3 = w5.setCell ⟨N, 5, none⟩ (.slice (some ⟨gg, 0, none⟩) (m + 1) cap) := ⟨_, rfl⟩
              rw [← hw3] at HG5
              rw [← hw3]
              have HRN := Lib.hid (show res = some (redEnd ds (redirsF (scrF (commandF K)) M (acc ++ d2) (T.drop j4))) by rw [HRX.out, HJ4.out.2.2.1])
              have hj4b : I + 1 ≤ j4 := by
                have h1 := redirF_len HCM.out
                have h2 := congrArg List.length HJ4.out.2.2.1
                rw [List.length_drop] at h1 h2
                have h3 := HJ4.out.2.1
                omega
              have hj4T := HJ4.out.2.1
              clear hw3 HJ4 HCM
              go_wp2_with fail
              go_roundg (T.length - j4)
              case measure => have := HGK.out; omega
              case rel => exact ⟨j4, M, m + 1, _, cap, acc ++ d2, rfl, by omega, by omega, by omega, HG5, HRN⟩
        | false =>
          have HRX := Lib.hid (show res = some (.ok (ds.set 5 (.sl 2 acc), T.drop I)) by rw [HRL0.out, redirs_succ, hq]; rfl)
          have HQ := Lib.hid hq
          clear hq HRL0
          go_wp2_with fail
          refine (redirects_any _ B cs n I d tv T false HG.out.rs HQ.out).mono ?_
          rintro e wy ⟨rfl, hk⟩
          have HGY := Lib.hid (HG.out.keep0 hk)
          clear hk HG
          have hrec := (show RecAt wy N [.int .i64 k, .bool b, .string s, .slice a0 n0 c0, .slice a1 n1 c1, .slice la m lc, .slice a3 n3 c3, .slice a4 n4 c4] from HGY.out.rc)
          obtain ⟨⟨v0, v1, v2, v3, v4, v5, v6, v7⟩, _⟩ := hrec.eight
          have hnl := hrec.lt
          have HR3 := Lib.hid HGY.out.zr
          have HK3 := Lib.hid HGY.out.kp
          have HS3 := Lib.hid HGY.out.rs
          have HRD3 := Lib.hid (show RdL wy (fun b => X ≤ b) (ds.set 5 (.sl 2 acc)) [.int .i64 k, .bool b, .string s, .slice a0 n0 c0, .slice a1 n1 c1, .slice la m lc, .slice a3 n3 c3, .slice a4 n4 c4] by rw [HSET.out]; exact HGY.out.all)
          have HND := Lib.hid (HNDS.out acc)
          clear hrec
          obtain ⟨⟨z0, z1, z2, z3, z4, z5, z6, z7⟩, y0, y1, y2, y3, y4, y5, y6, y7⟩ := HR3.out.eight
          have hzl := HR3.out.lt
          go_wp2_with fail
          refine bodyPost_ret (v := .tuple #[.agg #[.int .i64 k, .bool b, .string s, .slice a0 n0 c0, .slice a1 n1 c1, .slice la m lc, .slice a3 n3 c3, .slice a4 n4 c4], .bool true]) (by simp [results, Tryd.results75, go_sem, z0, z1, z2, z3, z4, z5, z6, z7]) rfl ?_
          obtain ⟨f1, f2, f3⟩ := nd_fin HK3.out HS3.out HXN.out.1 HCS.out HRD3.out (set8_keeps wy w.heap.size (.int .i64 k) (.bool b) (.string s) (.slice a0 n0 c0) (.slice a1 n1 c1) (.slice la m lc) (.slice a3 n3 c3) (.slice a4 n4 c4))
          rw [HRX.out]
          exact ⟨[.int .i64 k, .bool b, .string s, .slice a0 n0 c0, .slice a1 n1 c1, .slice la m lc, .slice a3 n3 c3, .slice a4 n4 c4], ⟨rfl, _, hiI, rfl, f1, f2⟩, HND.out, f3⟩
  | false =>
  refine (is_any wa3 B cs n ja3 d tv T [119, 104, 105, 108, 101] false HS3.out (by decide) hq4).mono ?_
  rintro e wa4 ⟨rfl, ja4, hj4, ht4, hrs4, hk4⟩
  have HS4 := Lib.hid hrs4
  have HK4 := Lib.hid (HK3.out.trans hk4 (fun _ _ h => h))
  have HT4 := Lib.hid (show T.drop ja4 = T.drop i by rw [show T.drop ja4 = T.drop ja3 from ht4]; exact HT3.out)
  have hji4 : i ≤ ja4 := by omega
  have HRES4 := Lib.hid (show res = chain4 (commandF K) (scrF (commandF K)) (T.drop ja4) by rw [show T.drop ja4 = T.drop ja3 from ht4]; rw [HRES3.out]; unfold chain3; rw [hq4]; rfl)
  clear hrs4 hk4 ht4 hq4
  go_wp2_with fail
  cases hq5 : isWF [117, 110, 116, 105, 108] (T.drop ja4) with
  | true =>
    have hrb : res = some (withRedirs (scrF (commandF K)) (whileF (commandF K) 8 (T.drop ja4).tail)) := by rw [HRES4.out]; unfold chain4; rw [hq5, if_pos rfl]
    refine (is_any wa4 B cs n ja4 d tv T [117, 110, 116, 105, 108] true HS4.out (by decide) hq5).mono ?_
    rintro e wb ⟨rfl, jb, hjb, htb, hrsb, hkb⟩
    have HSB := Lib.hid hrsb
    have HKB := Lib.hid (HK4.out.trans hkb (fun _ _ h => h))
    rw [← show T.drop jb = (T.drop ja4).tail from htb] at hrb
    have HRB := Lib.hid hrb
    clear hrsb hkb htb hrb hq5
    go_wp2_with fail
    refine (loop_any K HC.out wb B cs n jb d 8 tv T HSB.out HD.out).mono ?_
    intro e w2 hp
    cases hcm : whileF (commandF K) 8 (T.drop jb) with
    | error y =>
      rw [hcm] at hp
      obtain ⟨rfl, hk2⟩ := hp
      have HRX := Lib.hid (show res = some (.error y) by rw [HRB.out, hcm]; rfl)
      have HK3 := Lib.hid (((HKW.out.mono (fun _ _ h => h.elim)).trans HKB.out (fun _ _ h => h)).trans hk2 (fun _ _ h => h))
      clear hcm hk2
      go_wp2_with fail
      refine ⟨rfl, ?_⟩
      rw [HRX.out]
      exact ⟨rfl, HK3.out⟩
    | ok dr =>
      obtain ⟨ds, r⟩ := dr
      rw [hcm] at hp
      obtain ⟨vs, ⟨rfl, j2, hj2, ht2, hrs2, hk2⟩, hsh, hnd, hrd⟩ := hp
      obtain ⟨k, b, s, a0, n0, c0, a1, n1, c1, a3, n3, c3, a4, n4, c4, rfl⟩ := bare_vals hnd hrd hsh
      have HRL := Lib.hid (show res = some (redEnd ds (redirsF (scrF (commandF K)) (T.length - j2 + 1) [] (T.drop j2))) by rw [HRB.out, hcm, with_ok, ← ht2, List.length_drop])
      obtain ⟨wr, hwr⟩ : ∃ wr, wr = ((((((((w2.setCell ⟨N, 0, none⟩ (.int .i64 k)).setCell ⟨N, 1, none⟩ (.bool b)).setCell ⟨N, 2, none⟩ (.string s)).setCell ⟨N, 3, none⟩ (.slice a0 n0 c0)).setCell ⟨N, 4, none⟩ (.slice a1 n1 c1)).setCell ⟨N, 5, none⟩ (.slice none 0 0)).setCell ⟨N, 6, none⟩ (.slice a3 n3 c3)).setCell ⟨N, 7, none⟩ (.slice a4 n4 c4)) := ⟨_, rfl⟩
      have hkr : Keeps (fun b => b = N) w2 wr := by rw [hwr]; exact set8_keeps _ _ _ _ _ _ _ _ _ _
      have hkk := HKB.out.trans hk2 (fun _ _ h => h)
      have hxn := HXN.out
      have hxe := HXE.out
      have hne := HNE.out
      have hcw := HCS.out
      have hsb := HKB.out.size
      have hB := hrs2.cs
      have hrn2 := HN0.out.keep hkk (fun e => by omega)
      have hrd3 := (hrd.keep hkr (fun b _ hb e => by omega)).mono (D' := fun b => X ≤ b) (fun b _ hb => by omega)
      obtain ⟨⟨z0, z1, z2, z3, z4, z5, z6, z7⟩, y0, y1, y2, y3, y4, y5, y6, y7⟩ := hrn2.eight
      have hzl := hrn2.lt
      have hj2i : i ≤ j2 := by omega
      obtain ⟨p0, p1, p2, p3, p4, q6, q7, hset, hnds, hgi⟩ := core_gi (w := w) (N := N) (X := X) (Z := [.int .i64 0, .bool false, .string ⟨#[]⟩, .slice none 0 0, .slice none 0 0, .slice none 0 0, .slice none 0 0, .slice none 0 0]) (ds := ds) hnd hrd3 (hrs2.keep hkr (fun b hb e => by omega) (fun e => by omega)) (((HKW.out.mono (fun _ _ h => h.elim)).trans hkk (fun _ _ h => h)).fresh hkr (fun b e => by omega)) ((HR.out.keep hkk (fun e => by omega)).keep hkr (fun e => by omega)) (by rw [hwr]; exact set8_rec hrn2 _ _ _ _ _ _ _ _) (by omega)
      have HG0 := Lib.hid hgi
      have HSET := Lib.hid hset
      have HNDS := Lib.hid hnds
      have HWR := Lib.hid hwr
      clear hcm hk2 hrs2 hsh hnd hrd ht2 hkr hkk hxn hxe hne hcw hsb hB hrn2 hrd3 hset hnds hgi hwr
      go_wp2_with fail
      rw [← HWR.out]
      clear HWR z0 z1 z2 z3 z4 z5 z6 z7 y0 y1 y2 y3 y4 y5 y6 y7 hzl
      go_loopg [] (T.length - j2) (fun g wr => ∃ (I M m : Nat) (la : Option Addr) (lc : Nat) (acc : List Dt), g = T.length - I ∧ i ≤ I ∧ m ≤ I ∧ T.length - I + 1 ≤ M ∧ Hid (GI w wr B cs tv n T d X N [.int .i64 0, .bool false, .string ⟨#[]⟩, .slice none 0 0, .slice none 0 0, .slice none 0 0, .slice none 0 0, .slice none 0 0] [p0, p1, p2, p3, p4] [q6, q7] [.int .i64 k, .bool b, .string s, .slice a0 n0 c0, .slice a1 n1 c1] [.slice a3 n3 c3, .slice a4 n4 c4] 2 47 I m la lc acc) ∧ Hid (res = some (redEnd ds (redirsF (scrF (commandF K)) M acc (T.drop I)))))
      case atStart => exact ⟨j2, _, 0, none, 0, [], rfl, by omega, Nat.zero_le _, Nat.le_refl _, HG0, HRL⟩
      case round =>
        obtain ⟨I, M, m, la, lc, acc, hgk, hiI, hmI, hM, HG, HRL0⟩ := hrel
        have HGK := Lib.hid hgk
        have hIT := HG.out.rs.i
        have hT2 := HG.out.rs.sm.1
        obtain ⟨M, rfl⟩ : ∃ M', M = M' + 1 := ⟨M - 1, by omega⟩
        clear hgk HG0 HRL
        cases hq : redirB (T.drop I) with
        | true =>
          have HPOS := Lib.hid (redir_pos hq)
          have HRL1 := Lib.hid (show res = some (redEnd ds (match redirF (scrF (commandF K)) (T.drop I) with
            | .error e => .error e
            | .ok (d, r) => redirsF (scrF (commandF K)) M (acc ++ d) r)) by rw [HRL0.out, redirs_succ, hq, if_pos rfl]; all_goals rfl)
          have HQ := Lib.hid hq
          clear hq HRL0
          go_wp2_with fail
          refine (redirects_any _ B cs n I d tv T true HG.out.rs HQ.out).mono ?_
          rintro e wb2 ⟨rfl, hk⟩
          have HGB := Lib.hid (HG.out.keep0 hk)
          clear hk HG
          go_wp2_with fail
          have hXw := HXN.out.1
          have HXW := Lib.hid (show X ≤ wb2.heap.size by have h1 := HGB.out.rc.lt; have h2 := HXS.out; omega)
          obtain ⟨⟨x0, x1, x2, x3, x4, x5, x6, x7⟩, ⟨xf0, xf1, xf2, xf3, xf4, xf5, xf6, xf7⟩⟩ := (show RecAt wb2 N [.int .i64 k, .bool b, .string s, .slice a0 n0 c0, .slice a1 n1 c1, .slice la m lc, .slice a3 n3 c3, .slice a4 n4 c4] from HGB.out.rc).eight
          have hNl := HGB.out.rc.lt
          cases hcm : redirF (scrF (commandF K)) (T.drop I) with
          | error y =>
            have HRX := Lib.hid (show res = some (.error y) by rw [HRL1.out, hcm]; rfl)
            have HCM := Lib.hid hcm
            clear hcm
            go_wp2_with fail
            refine wp_region_held_drew (S := (fun w' => RecAt w' N [.int .i64 k, .bool b, .string s, .slice a0 n0 c0, .slice a1 n1 c1, .slice la m lc, .slice a3 n3 c3, .slice a4 n4 c4])) (by kernel_rfl) (HGB.out.rc.keep (S := fun _ => False) (Keeps.refl _ _).drew (fun h => h)) (fun hHeld => ?_)
            refine wpAnyH_take (i := 0) (v := .pointer (some ⟨N, 5, none⟩)) rfl (by kernel_rfl) (by kernel_rfl) (by kernel_rfl) (fun _ _ _ h => h) (Or.inl ⟨by rfl, ?_⟩) hHeld ?_
            · (intro ww hSw; have ⟨⟨g0, g1, g2, g3, g4, g5, g6, g7⟩, _⟩ := RecAt.eight hSw; go_simp; all_goals (first | done | with_reducible rfl))
            refine wpAnyH_take (i := 1) (v := .slice la m lc) rfl (by kernel_rfl) (by kernel_rfl) (by kernel_rfl) (fun _ _ _ h => h) (Or.inl ⟨by rfl, ?_⟩) hHeld ?_
            · (intro ww hSw; have ⟨⟨g0, g1, g2, g3, g4, g5, g6, g7⟩, _⟩ := RecAt.eight hSw; go_simp; all_goals (first | done | with_reducible rfl))
            refine wpAnyH_take (i := 2) (v := .pointer (some ⟨cs, 0, none⟩)) rfl (by kernel_rfl) (by kernel_rfl) (by kernel_rfl) (fun _ _ _ h => h) (Or.inl ⟨by rfl, ?_⟩) hHeld ?_
            · (intro ww hSw; have ⟨⟨g0, g1, g2, g3, g4, g5, g6, g7⟩, _⟩ := RecAt.eight hSw; go_simp; all_goals (first | done | with_reducible rfl))
            refine wpAnyH_ready (rs := [3]) (by kernel_rfl) (by simp) ?_
            refine AllReadyH.cons rfl (fun KK hK => ?_) AllReadyH.nil
            go_simp
            go_at_call 90
            refine (redir_any K HSC.out _ B cs n I d tv T (HGB.out.rs.keep0 (Keeps.refl _ _).drew) HD.out HPOS.out).mono ?_
            rw [HCM.out]
            rintro e w4 ⟨rfl, hk4⟩
            have HK4 := Lib.hid ((HGB.out.kp.drew).trans hk4 (fun _ _ h => h))
            clear hk4
            go_wp2_with fail
            refine ⟨rfl, ?_⟩
            rw [HRX.out]
            exact ⟨rfl, HK4.out⟩
          | ok dr =>
            obtain ⟨d2, r2⟩ := dr
            have HRX := Lib.hid (show res = some (redEnd ds (redirsF (scrF (commandF K)) M (acc ++ d2) r2)) by rw [HRL1.out, hcm])
            have HCM := Lib.hid hcm
            clear hcm
            have HCALL := Lib.hid (show ∀ e w4, RecPost wb2.drew B cs tv n T I d RdrS (.ok (d2, r2)) e w4 → ∃ (j4 : Nat) (sv : ByteArray) (a5 : Option Addr) (m5 c5 : Nat) (xs : List Value), e = .returned (.agg #[.string sv, .slice a5 m5 c5]) ∧ (I ≤ j4 ∧ j4 ≤ T.length ∧ T.drop j4 = r2 ∧ True) ∧ w4.ownsRow 0 47 2 (.slice la m lc) m xs ∧ RecAt w4 N [.int .i64 k, .bool b, .string s, .slice a0 n0 c0, .slice a1 n1 c1, .slice la m lc, .slice a3 n3 c3, .slice a4 n4 c4] ∧
                (∀ (gg cap : Nat) (w5 : World) (o : Obj), w5.ownsRow 0 47 2 (.slice (some ⟨gg, 0, none⟩) (m + 1) cap) (m + 1) (xs ++ [.string sv, .slice a5 m5 c5]) → (w4.alloc o).grownBy w5 (Value.slice la m lc).ownBlock → ((Value.slice la m lc).ownBlock = some gg ∨ gg = w4.heap.size + 1) →
                  RecAt w5 N [.int .i64 k, .bool b, .string s, .slice a0 n0 c0, .slice a1 n1 c1, .slice la m lc, .slice a3 n3 c3, .slice a4 n4 c4] ∧ GI w (w5.setCell ⟨N, 5, none⟩ (.slice (some ⟨gg, 0, none⟩) (m + 1) cap)) B cs tv n T d X N [.int .i64 0, .bool false, .string ⟨#[]⟩, .slice none 0 0, .slice none 0 0, .slice none 0 0, .slice none 0 0, .slice none 0 0] [p0, p1, p2, p3, p4] [q6, q7] [.int .i64 k, .bool b, .string s, .slice a0 n0 c0, .slice a1 n1 c1] [.slice a3 n3 c3, .slice a4 n4 c4] 2 47 j4 (m + 1) (some ⟨gg, 0, none⟩) cap (acc ++ d2)) from fun e w4 hp => by
              obtain ⟨vs, ⟨he, j4, hj4, ht4, hrs4, hk4⟩, ⟨sv, a5, m5, c5, rfl⟩, hrd4⟩ := hp
              obtain ⟨xs, ho, hrec, hF⟩ := HGB.out.more HCS.out HXN.out.1 HXN.out.2 HXW.out ((Keeps.refl (fun b => b = cs) wb2).drew.trans hk4 (fun _ _ h => h)) hrs4 hrd4
              exact ⟨j4, sv, a5, m5, c5, xs, he, ⟨hj4, hrs4.i, ht4, trivial⟩, ho, hrec, hF⟩)
            go_wp2_with fail
            go_region_law (first
              | (refine step_append_lies _ (by rfl) _ _ _ (by rfl) 0 47 i0 _ 2 40 Tryd.underlying37 hi0 hz0 hz1 hz2 rfl (by omega) (.slice la m lc) m xs (by rfl) (hown4.alloc _)
                  ⟨w4.heap.size, 0, none⟩ 1 1 [.string sv, .slice a5 m5 c5] (by rfl) (by rfl) (World.news_of_block (cs := #[.string sv, .slice a5 m5 c5]) (t := 47) (fr := (0, 0)) (heap_alloc_new w4 _)) (by simp [Value.oneCell'])
                  (by omega) (by unfold maxLen; omega) (by omega) (by simp) (w4.heap.size + 1) (by simp) ?_; intro gg cap w5 hown2 hgrow hat hlt5
                 obtain ⟨hrec5, hG5⟩ := HF.out gg cap w5 _ hown2 hgrow hat
                 obtain ⟨⟨z0, z1, z2, z3, z4, z5, z6, z7⟩, ⟨zf0, zf1, zf2, zf3, zf4, zf5, zf6, zf7⟩⟩ := RecAt.eight hrec5
                 have hN5 := hrec5.lt
                 have HG5 := Lib.hid hG5
                 clear hrec5 hG5 hown2 hgrow hat)
              | (go_simp; go_at_call 90; refine (redir_any K HSC.out _ B cs n I d tv T (HGB.out.rs.keep0 (Keeps.refl _ _).drew) HD.out HPOS.out).mono ?_; rw [HCM.out]; intro e w4 hp; obtain ⟨j4, sv, a5, m5, c5, xs, he, hJ4, hown4, hrec4, hF⟩ := HCALL.out e w4 hp; subst he; obtain ⟨⟨y0, y1, y2, y3, y4, y5, y6, y7⟩, ⟨yf0, yf1, yf2, yf3, yf4, yf5, yf6, yf7⟩⟩ := RecAt.eight hrec4; have hN4 := hrec4.lt; have HF := Lib.hid hF; have HJ4 := Lib.hid hJ4; clear hp hF hJ4 hrec4))
            all_goals
              obtain ⟨w3, hw3⟩ : ∃ w3, w3 = w5.setCell ⟨N, 5, none⟩ (.slice (some ⟨gg, 0, none⟩) (m + 1) cap) := ⟨_, rfl⟩
              rw [← hw3] at HG5
              rw [← hw3]
              have HRN := Lib.hid (show res = some (redEnd ds (redirsF (scrF (commandF K)) M (acc ++ d2) (T.drop j4))) by rw [HRX.out, HJ4.out.2.2.1])
              have hj4b : I + 1 ≤ j4 := by
                have h1 := redirF_len HCM.out
                have h2 := congrArg List.length HJ4.out.2.2.1
                rw [List.length_drop] at h1 h2
                have h3 := HJ4.out.2.1
                omega
              have hj4T := HJ4.out.2.1
              clear hw3 HJ4 HCM
              go_wp2_with fail
              go_roundg (T.length - j4)
              case measure => have := HGK.out; omega
              case rel => exact ⟨j4, M, m + 1, _, cap, acc ++ d2, rfl, by omega, by omega, by omega, HG5, HRN⟩
        | false =>
          have HRX := Lib.hid (show res = some (.ok (ds.set 5 (.sl 2 acc), T.drop I)) by rw [HRL0.out, redirs_succ, hq]; rfl)
          have HQ := Lib.hid hq
          clear hq HRL0
          go_wp2_with fail
          refine (redirects_any _ B cs n I d tv T false HG.out.rs HQ.out).mono ?_
          rintro e wy ⟨rfl, hk⟩
          have HGY := Lib.hid (HG.out.keep0 hk)
          clear hk HG
          have hrec := (show RecAt wy N [.int .i64 k, .bool b, .string s, .slice a0 n0 c0, .slice a1 n1 c1, .slice la m lc, .slice a3 n3 c3, .slice a4 n4 c4] from HGY.out.rc)
          obtain ⟨⟨v0, v1, v2, v3, v4, v5, v6, v7⟩, _⟩ := hrec.eight
          have hnl := hrec.lt
          have HR3 := Lib.hid HGY.out.zr
          have HK3 := Lib.hid HGY.out.kp
          have HS3 := Lib.hid HGY.out.rs
          have HRD3 := Lib.hid (show RdL wy (fun b => X ≤ b) (ds.set 5 (.sl 2 acc)) [.int .i64 k, .bool b, .string s, .slice a0 n0 c0, .slice a1 n1 c1, .slice la m lc, .slice a3 n3 c3, .slice a4 n4 c4] by rw [HSET.out]; exact HGY.out.all)
          have HND := Lib.hid (HNDS.out acc)
          clear hrec
          obtain ⟨⟨z0, z1, z2, z3, z4, z5, z6, z7⟩, y0, y1, y2, y3, y4, y5, y6, y7⟩ := HR3.out.eight
          have hzl := HR3.out.lt
          go_wp2_with fail
          refine bodyPost_ret (v := .tuple #[.agg #[.int .i64 k, .bool b, .string s, .slice a0 n0 c0, .slice a1 n1 c1, .slice la m lc, .slice a3 n3 c3, .slice a4 n4 c4], .bool true]) (by simp [results, Tryd.results75, go_sem, z0, z1, z2, z3, z4, z5, z6, z7]) rfl ?_
          obtain ⟨f1, f2, f3⟩ := nd_fin HK3.out HS3.out HXN.out.1 HCS.out HRD3.out (set8_keeps wy w.heap.size (.int .i64 k) (.bool b) (.string s) (.slice a0 n0 c0) (.slice a1 n1 c1) (.slice la m lc) (.slice a3 n3 c3) (.slice a4 n4 c4))
          rw [HRX.out]
          exact ⟨[.int .i64 k, .bool b, .string s, .slice a0 n0 c0, .slice a1 n1 c1, .slice la m lc, .slice a3 n3 c3, .slice a4 n4 c4], ⟨rfl, _, hiI, rfl, f1, f2⟩, HND.out, f3⟩
  | false =>
  refine (is_any wa4 B cs n ja4 d tv T [117, 110, 116, 105, 108] false HS4.out (by decide) hq5).mono ?_
  rintro e wa5 ⟨rfl, ja5, hj5, ht5, hrs5, hk5⟩
  have HS5 := Lib.hid hrs5
  have HK5 := Lib.hid (HK4.out.trans hk5 (fun _ _ h => h))
  have HT5 := Lib.hid (show T.drop ja5 = T.drop i by rw [show T.drop ja5 = T.drop ja4 from ht5]; exact HT4.out)
  have hji5 : i ≤ ja5 := by omega
  have HRES5 := Lib.hid (show res = chain5 (commandF K) (scrF (commandF K)) (T.drop ja5) by rw [show T.drop ja5 = T.drop ja4 from ht5]; rw [HRES4.out]; unfold chain4; rw [hq5]; rfl)
  clear hrs5 hk5 ht5 hq5
  go_wp2_with fail
  cases hq6 : isWF [102, 111, 114] (T.drop ja5) with
  | true =>
    have hrb : res = some (withRedirs (scrF (commandF K)) (eachF (commandF K) (scrF (commandF K)) (T.drop ja5).tail)) := by rw [HRES5.out]; unfold chain5; rw [hq6, if_pos rfl]
    refine (is_any wa5 B cs n ja5 d tv T [102, 111, 114] true HS5.out (by decide) hq6).mono ?_
    rintro e wb ⟨rfl, jb, hjb, htb, hrsb, hkb⟩
    have HSB := Lib.hid hrsb
    have HKB := Lib.hid (HK5.out.trans hkb (fun _ _ h => h))
    rw [← show T.drop jb = (T.drop ja5).tail from htb] at hrb
    have HRB := Lib.hid hrb
    clear hrsb hkb htb hrb hq6
    go_wp2_with fail
    refine (each_any K HC.out HSC.out wb B cs n jb d tv T HSB.out HD.out (fun h => name_pos h)).mono ?_
    intro e w2 hp
    cases hcm : eachF (commandF K) (scrF (commandF K)) (T.drop jb) with
    | error y =>
      rw [hcm] at hp
      obtain ⟨rfl, hk2⟩ := hp
      have HRX := Lib.hid (show res = some (.error y) by rw [HRB.out, hcm]; rfl)
      have HK3 := Lib.hid (((HKW.out.mono (fun _ _ h => h.elim)).trans HKB.out (fun _ _ h => h)).trans hk2 (fun _ _ h => h))
      clear hcm hk2
      go_wp2_with fail
      refine ⟨rfl, ?_⟩
      rw [HRX.out]
      exact ⟨rfl, HK3.out⟩
    | ok dr =>
      obtain ⟨ds, r⟩ := dr
      rw [hcm] at hp
      obtain ⟨vs, ⟨rfl, j2, hj2, ht2, hrs2, hk2⟩, hsh, hnd, hrd⟩ := hp
      obtain ⟨k, b, s, a0, n0, c0, a1, n1, c1, a3, n3, c3, a4, n4, c4, rfl⟩ := bare_vals hnd hrd hsh
      have HRL := Lib.hid (show res = some (redEnd ds (redirsF (scrF (commandF K)) (T.length - j2 + 1) [] (T.drop j2))) by rw [HRB.out, hcm, with_ok, ← ht2, List.length_drop])
      obtain ⟨wr, hwr⟩ : ∃ wr, wr = ((((((((w2.setCell ⟨N, 0, none⟩ (.int .i64 k)).setCell ⟨N, 1, none⟩ (.bool b)).setCell ⟨N, 2, none⟩ (.string s)).setCell ⟨N, 3, none⟩ (.slice a0 n0 c0)).setCell ⟨N, 4, none⟩ (.slice a1 n1 c1)).setCell ⟨N, 5, none⟩ (.slice none 0 0)).setCell ⟨N, 6, none⟩ (.slice a3 n3 c3)).setCell ⟨N, 7, none⟩ (.slice a4 n4 c4)) := ⟨_, rfl⟩
      have hkr : Keeps (fun b => b = N) w2 wr := by rw [hwr]; exact set8_keeps _ _ _ _ _ _ _ _ _ _
      have hkk := HKB.out.trans hk2 (fun _ _ h => h)
      have hxn := HXN.out
      have hxe := HXE.out
      have hne := HNE.out
      have hcw := HCS.out
      have hsb := HKB.out.size
      have hB := hrs2.cs
      have hrn2 := HN0.out.keep hkk (fun e => by omega)
      have hrd3 := (hrd.keep hkr (fun b _ hb e => by omega)).mono (D' := fun b => X ≤ b) (fun b _ hb => by omega)
      obtain ⟨⟨z0, z1, z2, z3, z4, z5, z6, z7⟩, y0, y1, y2, y3, y4, y5, y6, y7⟩ := hrn2.eight
      have hzl := hrn2.lt
      have hj2i : i ≤ j2 := by omega
      obtain ⟨p0, p1, p2, p3, p4, q6, q7, hset, hnds, hgi⟩ := core_gi (w := w) (N := N) (X := X) (Z := [.int .i64 0, .bool false, .string ⟨#[]⟩, .slice none 0 0, .slice none 0 0, .slice none 0 0, .slice none 0 0, .slice none 0 0]) (ds := ds) hnd hrd3 (hrs2.keep hkr (fun b hb e => by omega) (fun e => by omega)) (((HKW.out.mono (fun _ _ h => h.elim)).trans hkk (fun _ _ h => h)).fresh hkr (fun b e => by omega)) ((HR.out.keep hkk (fun e => by omega)).keep hkr (fun e => by omega)) (by rw [hwr]; exact set8_rec hrn2 _ _ _ _ _ _ _ _) (by omega)
      have HG0 := Lib.hid hgi
      have HSET := Lib.hid hset
      have HNDS := Lib.hid hnds
      have HWR := Lib.hid hwr
      clear hcm hk2 hrs2 hsh hnd hrd ht2 hkr hkk hxn hxe hne hcw hsb hB hrn2 hrd3 hset hnds hgi hwr
      go_wp2_with fail
      rw [← HWR.out]
      clear HWR z0 z1 z2 z3 z4 z5 z6 z7 y0 y1 y2 y3 y4 y5 y6 y7 hzl
      go_loopg [] (T.length - j2) (fun g wr => ∃ (I M m : Nat) (la : Option Addr) (lc : Nat) (acc : List Dt), g = T.length - I ∧ i ≤ I ∧ m ≤ I ∧ T.length - I + 1 ≤ M ∧ Hid (GI w wr B cs tv n T d X N [.int .i64 0, .bool false, .string ⟨#[]⟩, .slice none 0 0, .slice none 0 0, .slice none 0 0, .slice none 0 0, .slice none 0 0] [p0, p1, p2, p3, p4] [q6, q7] [.int .i64 k, .bool b, .string s, .slice a0 n0 c0, .slice a1 n1 c1] [.slice a3 n3 c3, .slice a4 n4 c4] 2 47 I m la lc acc) ∧ Hid (res = some (redEnd ds (redirsF (scrF (commandF K)) M acc (T.drop I)))))
      case atStart => exact ⟨j2, _, 0, none, 0, [], rfl, by omega, Nat.zero_le _, Nat.le_refl _, HG0, HRL⟩
      case round =>
        obtain ⟨I, M, m, la, lc, acc, hgk, hiI, hmI, hM, HG, HRL0⟩ := hrel
        have HGK := Lib.hid hgk
        have hIT := HG.out.rs.i
        have hT2 := HG.out.rs.sm.1
        obtain ⟨M, rfl⟩ : ∃ M', M = M' + 1 := ⟨M - 1, by omega⟩
        clear hgk HG0 HRL
        cases hq : redirB (T.drop I) with
        | true =>
          have HPOS := Lib.hid (redir_pos hq)
          have HRL1 := Lib.hid (show res = some (redEnd ds (match redirF (scrF (commandF K)) (T.drop I) with
            | .error e => .error e
            | .ok (d, r) => redirsF (scrF (commandF K)) M (acc ++ d) r)) by rw [HRL0.out, redirs_succ, hq, if_pos rfl]; all_goals rfl)
          have HQ := Lib.hid hq
          clear hq HRL0
          go_wp2_with fail
          refine (redirects_any _ B cs n I d tv T true HG.out.rs HQ.out).mono ?_
          rintro e wb2 ⟨rfl, hk⟩
          have HGB := Lib.hid (HG.out.keep0 hk)
          clear hk HG
          go_wp2_with fail
          have hXw := HXN.out.1
          have HXW := Lib.hid (show X ≤ wb2.heap.size by have h1 := HGB.out.rc.lt; have h2 := HXS.out; omega)
          obtain ⟨⟨x0, x1, x2, x3, x4, x5, x6, x7⟩, ⟨xf0, xf1, xf2, xf3, xf4, xf5, xf6, xf7⟩⟩ := (show RecAt wb2 N [.int .i64 k, .bool b, .string s, .slice a0 n0 c0, .slice a1 n1 c1, .slice la m lc, .slice a3 n3 c3, .slice a4 n4 c4] from HGB.out.rc).eight
          have hNl := HGB.out.rc.lt
          cases hcm : redirF (scrF (commandF K)) (T.drop I) with
          | error y =>
            have HRX := Lib.hid (show res = some (.error y) by rw [HRL1.out, hcm]; rfl)
            have HCM := Lib.hid hcm
            clear hcm
            go_wp2_with fail
            refine wp_region_held_drew (S := (fun w' => RecAt w' N [.int .i64 k, .bool b, .string s, .slice a0 n0 c0, .slice a1 n1 c1, .slice la m lc, .slice a3 n3 c3, .slice a4 n4 c4])) (by kernel_rfl) (HGB.out.rc.keep (S := fun _ => False) (Keeps.refl _ _).drew (fun h => h)) (fun hHeld => ?_)
            refine wpAnyH_take (i := 0) (v := .pointer (some ⟨N, 5, none⟩)) rfl (by kernel_rfl) (by kernel_rfl) (by kernel_rfl) (fun _ _ _ h => h) (Or.inl ⟨by rfl, ?_⟩) hHeld ?_
            · (intro ww hSw; have ⟨⟨g0, g1, g2, g3, g4, g5, g6, g7⟩, _⟩ := RecAt.eight hSw; go_simp; all_goals (first | done | with_reducible rfl))
            refine wpAnyH_take (i := 1) (v := .slice la m lc) rfl (by kernel_rfl) (by kernel_rfl) (by kernel_rfl) (fun _ _ _ h => h) (Or.inl ⟨by rfl, ?_⟩) hHeld ?_
            · (intro ww hSw; have ⟨⟨g0, g1, g2, g3, g4, g5, g6, g7⟩, _⟩ := RecAt.eight hSw; go_simp; all_goals (first | done | with_reducible rfl))
            refine wpAnyH_take (i := 2) (v := .pointer (some ⟨cs, 0, none⟩)) rfl (by kernel_rfl) (by kernel_rfl) (by kernel_rfl) (fun _ _ _ h => h) (Or.inl ⟨by rfl, ?_⟩) hHeld ?_
            · (intro ww hSw; have ⟨⟨g0, g1, g2, g3, g4, g5, g6, g7⟩, _⟩ := RecAt.eight hSw; go_simp; all_goals (first | done | with_reducible rfl))
            refine wpAnyH_ready (rs := [3]) (by kernel_rfl) (by simp) ?_
            refine AllReadyH.cons rfl (fun KK hK => ?_) AllReadyH.nil
            go_simp
            go_at_call 90
            refine (redir_any K HSC.out _ B cs n I d tv T (HGB.out.rs.keep0 (Keeps.refl _ _).drew) HD.out HPOS.out).mono ?_
            rw [HCM.out]
            rintro e w4 ⟨rfl, hk4⟩
            have HK4 := Lib.hid ((HGB.out.kp.drew).trans hk4 (fun _ _ h => h))
            clear hk4
            go_wp2_with fail
            refine ⟨rfl, ?_⟩
            rw [HRX.out]
            exact ⟨rfl, HK4.out⟩
          | ok dr =>
            obtain ⟨d2, r2⟩ := dr
            have HRX := Lib.hid (show res = some (redEnd ds (redirsF (scrF (commandF K)) M (acc ++ d2) r2)) by rw [HRL1.out, hcm])
            have HCM := Lib.hid hcm
            clear hcm
            have HCALL := Lib.hid (show ∀ e w4, RecPost wb2.drew B cs tv n T I d RdrS (.ok (d2, r2)) e w4 → ∃ (j4 : Nat) (sv : ByteArray) (a5 : Option Addr) (m5 c5 : Nat) (xs : List Value), e = .returned (.agg #[.string sv, .slice a5 m5 c5]) ∧ (I ≤ j4 ∧ j4 ≤ T.length ∧ T.drop j4 = r2 ∧ True) ∧ w4.ownsRow 0 47 2 (.slice la m lc) m xs ∧ RecAt w4 N [.int .i64 k, .bool b, .string s, .slice a0 n0 c0, .slice a1 n1 c1, .slice la m lc, .slice a3 n3 c3, .slice a4 n4 c4] ∧
                (∀ (gg cap : Nat) (w5 : World) (o : Obj), w5.ownsRow 0 47 2 (.slice (some ⟨gg, 0, none⟩) (m + 1) cap) (m + 1) (xs ++ [.string sv, .slice a5 m5 c5]) → (w4.alloc o).grownBy w5 (Value.slice la m lc).ownBlock → ((Value.slice la m lc).ownBlock = some gg ∨ gg = w4.heap.size + 1) →
                  RecAt w5 N [.int .i64 k, .bool b, .string s, .slice a0 n0 c0, .slice a1 n1 c1, .slice la m lc, .slice a3 n3 c3, .slice a4 n4 c4] ∧ GI w (w5.setCell ⟨N, 5, none⟩ (.slice (some ⟨gg, 0, none⟩) (m + 1) cap)) B cs tv n T d X N [.int .i64 0, .bool false, .string ⟨#[]⟩, .slice none 0 0, .slice none 0 0, .slice none 0 0, .slice none 0 0, .slice none 0 0] [p0, p1, p2, p3, p4] [q6, q7] [.int .i64 k, .bool b, .string s, .slice a0 n0 c0, .slice a1 n1 c1] [.slice a3 n3 c3, .slice a4 n4 c4] 2 47 j4 (m + 1) (some ⟨gg, 0, none⟩) cap (acc ++ d2)) from fun e w4 hp => by
              obtain ⟨vs, ⟨he, j4, hj4, ht4, hrs4, hk4⟩, ⟨sv, a5, m5, c5, rfl⟩, hrd4⟩ := hp
              obtain ⟨xs, ho, hrec, hF⟩ := HGB.out.more HCS.out HXN.out.1 HXN.out.2 HXW.out ((Keeps.refl (fun b => b = cs) wb2).drew.trans hk4 (fun _ _ h => h)) hrs4 hrd4
              exact ⟨j4, sv, a5, m5, c5, xs, he, ⟨hj4, hrs4.i, ht4, trivial⟩, ho, hrec, hF⟩)
            go_wp2_with fail
            go_region_law (first
              | (refine step_append_lies _ (by rfl) _ _ _ (by rfl) 0 47 i0 _ 2 40 Tryd.underlying37 hi0 hz0 hz1 hz2 rfl (by omega) (.slice la m lc) m xs (by rfl) (hown4.alloc _)
                  ⟨w4.heap.size, 0, none⟩ 1 1 [.string sv, .slice a5 m5 c5] (by rfl) (by rfl) (World.news_of_block (cs := #[.string sv, .slice a5 m5 c5]) (t := 47) (fr := (0, 0)) (heap_alloc_new w4 _)) (by simp [Value.oneCell'])
                  (by omega) (by unfold maxLen; omega) (by omega) (by simp) (w4.heap.size + 1) (by simp) ?_; intro gg cap w5 hown2 hgrow hat hlt5
                 obtain ⟨hrec5, hG5⟩ := HF.out gg cap w5 _ hown2 hgrow hat
                 obtain ⟨⟨z0, z1, z2, z3, z4, z5, z6, z7⟩, ⟨zf0, zf1, zf2, zf3, zf4, zf5, zf6, zf7⟩⟩ := RecAt.eight hrec5
                 have hN5 := hrec5.lt
                 have HG5 := Lib.hid hG5
                 clear hrec5 hG5 hown2 hgrow hat)
              | (go_simp; go_at_call 90; refine (redir_any K HSC.out _ B cs n I d tv T (HGB.out.rs.keep0 (Keeps.refl _ _).drew) HD.out HPOS.out).mono ?_; rw [HCM.out]; intro e w4 hp; obtain ⟨j4, sv, a5, m5, c5, xs, he, hJ4, hown4, hrec4, hF⟩ := HCALL.out e w4 hp; subst he; obtain ⟨⟨y0, y1, y2, y3, y4, y5, y6, y7⟩, ⟨yf0, yf1, yf2, yf3, yf4, yf5, yf6, yf7⟩⟩ := RecAt.eight hrec4; have hN4 := hrec4.lt; have HF := Lib.hid hF; have HJ4 := Lib.hid hJ4; clear hp hF hJ4 hrec4))
            all_goals
              obtain ⟨w3, hw3⟩ : ∃ w3, w3 = w5.setCell ⟨N, 5, none⟩ (.slice (some ⟨gg, 0, none⟩) (m + 1) cap) := ⟨_, rfl⟩
              rw [← hw3] at HG5
              rw [← hw3]
              have HRN := Lib.hid (show res = some (redEnd ds (redirsF (scrF (commandF K)) M (acc ++ d2) (T.drop j4))) by rw [HRX.out, HJ4.out.2.2.1])
              have hj4b : I + 1 ≤ j4 := by
                have h1 := redirF_len HCM.out
                have h2 := congrArg List.length HJ4.out.2.2.1
                rw [List.length_drop] at h1 h2
                have h3 := HJ4.out.2.1
                omega
              have hj4T := HJ4.out.2.1
              clear hw3 HJ4 HCM
              go_wp2_with fail
              go_roundg (T.length - j4)
              case measure => have := HGK.out; omega
              case rel => exact ⟨j4, M, m + 1, _, cap, acc ++ d2, rfl, by omega, by omega, by omega, HG5, HRN⟩
        | false =>
          have HRX := Lib.hid (show res = some (.ok (ds.set 5 (.sl 2 acc), T.drop I)) by rw [HRL0.out, redirs_succ, hq]; rfl)
          have HQ := Lib.hid hq
          clear hq HRL0
          go_wp2_with fail
          refine (redirects_any _ B cs n I d tv T false HG.out.rs HQ.out).mono ?_
          rintro e wy ⟨rfl, hk⟩
          have HGY := Lib.hid (HG.out.keep0 hk)
          clear hk HG
          have hrec := (show RecAt wy N [.int .i64 k, .bool b, .string s, .slice a0 n0 c0, .slice a1 n1 c1, .slice la m lc, .slice a3 n3 c3, .slice a4 n4 c4] from HGY.out.rc)
          obtain ⟨⟨v0, v1, v2, v3, v4, v5, v6, v7⟩, _⟩ := hrec.eight
          have hnl := hrec.lt
          have HR3 := Lib.hid HGY.out.zr
          have HK3 := Lib.hid HGY.out.kp
          have HS3 := Lib.hid HGY.out.rs
          have HRD3 := Lib.hid (show RdL wy (fun b => X ≤ b) (ds.set 5 (.sl 2 acc)) [.int .i64 k, .bool b, .string s, .slice a0 n0 c0, .slice a1 n1 c1, .slice la m lc, .slice a3 n3 c3, .slice a4 n4 c4] by rw [HSET.out]; exact HGY.out.all)
          have HND := Lib.hid (HNDS.out acc)
          clear hrec
          obtain ⟨⟨z0, z1, z2, z3, z4, z5, z6, z7⟩, y0, y1, y2, y3, y4, y5, y6, y7⟩ := HR3.out.eight
          have hzl := HR3.out.lt
          go_wp2_with fail
          refine bodyPost_ret (v := .tuple #[.agg #[.int .i64 k, .bool b, .string s, .slice a0 n0 c0, .slice a1 n1 c1, .slice la m lc, .slice a3 n3 c3, .slice a4 n4 c4], .bool true]) (by simp [results, Tryd.results75, go_sem, z0, z1, z2, z3, z4, z5, z6, z7]) rfl ?_
          obtain ⟨f1, f2, f3⟩ := nd_fin HK3.out HS3.out HXN.out.1 HCS.out HRD3.out (set8_keeps wy w.heap.size (.int .i64 k) (.bool b) (.string s) (.slice a0 n0 c0) (.slice a1 n1 c1) (.slice la m lc) (.slice a3 n3 c3) (.slice a4 n4 c4))
          rw [HRX.out]
          exact ⟨[.int .i64 k, .bool b, .string s, .slice a0 n0 c0, .slice a1 n1 c1, .slice la m lc, .slice a3 n3 c3, .slice a4 n4 c4], ⟨rfl, _, hiI, rfl, f1, f2⟩, HND.out, f3⟩
  | false =>
  refine (is_any wa5 B cs n ja5 d tv T [102, 111, 114] false HS5.out (by decide) hq6).mono ?_
  rintro e wa6 ⟨rfl, ja6, hj6, ht6, hrs6, hk6⟩
  have HS6 := Lib.hid hrs6
  have HK6 := Lib.hid (HK5.out.trans hk6 (fun _ _ h => h))
  have HT6 := Lib.hid (show T.drop ja6 = T.drop i by rw [show T.drop ja6 = T.drop ja5 from ht6]; exact HT5.out)
  have hji6 : i ≤ ja6 := by omega
  have HRES6 := Lib.hid (show res = chain6 (commandF K) (scrF (commandF K)) (T.drop ja6) by rw [show T.drop ja6 = T.drop ja5 from ht6]; rw [HRES5.out]; unfold chain5; rw [hq6]; rfl)
  clear hrs6 hk6 ht6 hq6
  go_wp2_with fail
  cases hq7 : isWF [99, 97, 115, 101] (T.drop ja6) with
  | true =>
    have hrb : res = some (withRedirs (scrF (commandF K)) (casesF (commandF K) (scrF (commandF K)) (T.drop ja6).tail)) := by rw [HRES6.out]; unfold chain6; rw [hq7, if_pos rfl]
    refine (is_any wa6 B cs n ja6 d tv T [99, 97, 115, 101] true HS6.out (by decide) hq7).mono ?_
    rintro e wb ⟨rfl, jb, hjb, htb, hrsb, hkb⟩
    have HSB := Lib.hid hrsb
    have HKB := Lib.hid (HK6.out.trans hkb (fun _ _ h => h))
    rw [← show T.drop jb = (T.drop ja6).tail from htb] at hrb
    have HRB := Lib.hid hrb
    clear hrsb hkb htb hrb hq7
    go_wp2_with fail
    refine (cases_any K HC.out HSC.out wb B cs n jb d tv T HSB.out HD.out).mono ?_
    intro e w2 hp
    cases hcm : casesF (commandF K) (scrF (commandF K)) (T.drop jb) with
    | error y =>
      rw [hcm] at hp
      obtain ⟨rfl, hk2⟩ := hp
      have HRX := Lib.hid (show res = some (.error y) by rw [HRB.out, hcm]; rfl)
      have HK3 := Lib.hid (((HKW.out.mono (fun _ _ h => h.elim)).trans HKB.out (fun _ _ h => h)).trans hk2 (fun _ _ h => h))
      clear hcm hk2
      go_wp2_with fail
      refine ⟨rfl, ?_⟩
      rw [HRX.out]
      exact ⟨rfl, HK3.out⟩
    | ok dr =>
      obtain ⟨ds, r⟩ := dr
      rw [hcm] at hp
      obtain ⟨vs, ⟨rfl, j2, hj2, ht2, hrs2, hk2⟩, hsh, hnd, hrd⟩ := hp
      obtain ⟨k, b, s, a0, n0, c0, a1, n1, c1, a3, n3, c3, a4, n4, c4, rfl⟩ := bare_vals hnd hrd hsh
      have HRL := Lib.hid (show res = some (redEnd ds (redirsF (scrF (commandF K)) (T.length - j2 + 1) [] (T.drop j2))) by rw [HRB.out, hcm, with_ok, ← ht2, List.length_drop])
      obtain ⟨wr, hwr⟩ : ∃ wr, wr = ((((((((w2.setCell ⟨N, 0, none⟩ (.int .i64 k)).setCell ⟨N, 1, none⟩ (.bool b)).setCell ⟨N, 2, none⟩ (.string s)).setCell ⟨N, 3, none⟩ (.slice a0 n0 c0)).setCell ⟨N, 4, none⟩ (.slice a1 n1 c1)).setCell ⟨N, 5, none⟩ (.slice none 0 0)).setCell ⟨N, 6, none⟩ (.slice a3 n3 c3)).setCell ⟨N, 7, none⟩ (.slice a4 n4 c4)) := ⟨_, rfl⟩
      have hkr : Keeps (fun b => b = N) w2 wr := by rw [hwr]; exact set8_keeps _ _ _ _ _ _ _ _ _ _
      have hkk := HKB.out.trans hk2 (fun _ _ h => h)
      have hxn := HXN.out
      have hxe := HXE.out
      have hne := HNE.out
      have hcw := HCS.out
      have hsb := HKB.out.size
      have hB := hrs2.cs
      have hrn2 := HN0.out.keep hkk (fun e => by omega)
      have hrd3 := (hrd.keep hkr (fun b _ hb e => by omega)).mono (D' := fun b => X ≤ b) (fun b _ hb => by omega)
      obtain ⟨⟨z0, z1, z2, z3, z4, z5, z6, z7⟩, y0, y1, y2, y3, y4, y5, y6, y7⟩ := hrn2.eight
      have hzl := hrn2.lt
      have hj2i : i ≤ j2 := by omega
      obtain ⟨p0, p1, p2, p3, p4, q6, q7, hset, hnds, hgi⟩ := core_gi (w := w) (N := N) (X := X) (Z := [.int .i64 0, .bool false, .string ⟨#[]⟩, .slice none 0 0, .slice none 0 0, .slice none 0 0, .slice none 0 0, .slice none 0 0]) (ds := ds) hnd hrd3 (hrs2.keep hkr (fun b hb e => by omega) (fun e => by omega)) (((HKW.out.mono (fun _ _ h => h.elim)).trans hkk (fun _ _ h => h)).fresh hkr (fun b e => by omega)) ((HR.out.keep hkk (fun e => by omega)).keep hkr (fun e => by omega)) (by rw [hwr]; exact set8_rec hrn2 _ _ _ _ _ _ _ _) (by omega)
      have HG0 := Lib.hid hgi
      have HSET := Lib.hid hset
      have HNDS := Lib.hid hnds
      have HWR := Lib.hid hwr
      clear hcm hk2 hrs2 hsh hnd hrd ht2 hkr hkk hxn hxe hne hcw hsb hB hrn2 hrd3 hset hnds hgi hwr
      go_wp2_with fail
      rw [← HWR.out]
      clear HWR z0 z1 z2 z3 z4 z5 z6 z7 y0 y1 y2 y3 y4 y5 y6 y7 hzl
      go_loopg [] (T.length - j2) (fun g wr => ∃ (I M m : Nat) (la : Option Addr) (lc : Nat) (acc : List Dt), g = T.length - I ∧ i ≤ I ∧ m ≤ I ∧ T.length - I + 1 ≤ M ∧ Hid (GI w wr B cs tv n T d X N [.int .i64 0, .bool false, .string ⟨#[]⟩, .slice none 0 0, .slice none 0 0, .slice none 0 0, .slice none 0 0, .slice none 0 0] [p0, p1, p2, p3, p4] [q6, q7] [.int .i64 k, .bool b, .string s, .slice a0 n0 c0, .slice a1 n1 c1] [.slice a3 n3 c3, .slice a4 n4 c4] 2 47 I m la lc acc) ∧ Hid (res = some (redEnd ds (redirsF (scrF (commandF K)) M acc (T.drop I)))))
      case atStart => exact ⟨j2, _, 0, none, 0, [], rfl, by omega, Nat.zero_le _, Nat.le_refl _, HG0, HRL⟩
      case round =>
        obtain ⟨I, M, m, la, lc, acc, hgk, hiI, hmI, hM, HG, HRL0⟩ := hrel
        have HGK := Lib.hid hgk
        have hIT := HG.out.rs.i
        have hT2 := HG.out.rs.sm.1
        obtain ⟨M, rfl⟩ : ∃ M', M = M' + 1 := ⟨M - 1, by omega⟩
        clear hgk HG0 HRL
        cases hq : redirB (T.drop I) with
        | true =>
          have HPOS := Lib.hid (redir_pos hq)
          have HRL1 := Lib.hid (show res = some (redEnd ds (match redirF (scrF (commandF K)) (T.drop I) with
            | .error e => .error e
            | .ok (d, r) => redirsF (scrF (commandF K)) M (acc ++ d) r)) by rw [HRL0.out, redirs_succ, hq, if_pos rfl]; all_goals rfl)
          have HQ := Lib.hid hq
          clear hq HRL0
          go_wp2_with fail
          refine (redirects_any _ B cs n I d tv T true HG.out.rs HQ.out).mono ?_
          rintro e wb2 ⟨rfl, hk⟩
          have HGB := Lib.hid (HG.out.keep0 hk)
          clear hk HG
          go_wp2_with fail
          have hXw := HXN.out.1
          have HXW := Lib.hid (show X ≤ wb2.heap.size by have h1 := HGB.out.rc.lt; have h2 := HXS.out; omega)
          obtain ⟨⟨x0, x1, x2, x3, x4, x5, x6, x7⟩, ⟨xf0, xf1, xf2, xf3, xf4, xf5, xf6, xf7⟩⟩ := (show RecAt wb2 N [.int .i64 k, .bool b, .string s, .slice a0 n0 c0, .slice a1 n1 c1, .slice la m lc, .slice a3 n3 c3, .slice a4 n4 c4] from HGB.out.rc).eight
          have hNl := HGB.out.rc.lt
          cases hcm : redirF (scrF (commandF K)) (T.drop I) with
          | error y =>
            have HRX := Lib.hid (show res = some (.error y) by rw [HRL1.out, hcm]; rfl)
            have HCM := Lib.hid hcm
            clear hcm
            go_wp2_with fail
            refine wp_region_held_drew (S := (fun w' => RecAt w' N [.int .i64 k, .bool b, .string s, .slice a0 n0 c0, .slice a1 n1 c1, .slice la m lc, .slice a3 n3 c3, .slice a4 n4 c4])) (by kernel_rfl) (HGB.out.rc.keep (S := fun _ => False) (Keeps.refl _ _).drew (fun h => h)) (fun hHeld => ?_)
            refine wpAnyH_take (i := 0) (v := .pointer (some ⟨N, 5, none⟩)) rfl (by kernel_rfl) (by kernel_rfl) (by kernel_rfl) (fun _ _ _ h => h) (Or.inl ⟨by rfl, ?_⟩) hHeld ?_
            · (intro ww hSw; have ⟨⟨g0, g1, g2, g3, g4, g5, g6, g7⟩, _⟩ := RecAt.eight hSw; go_simp; all_goals (first | done | with_reducible rfl))
            refine wpAnyH_take (i := 1) (v := .slice la m lc) rfl (by kernel_rfl) (by kernel_rfl) (by kernel_rfl) (fun _ _ _ h => h) (Or.inl ⟨by rfl, ?_⟩) hHeld ?_
            · (intro ww hSw; have ⟨⟨g0, g1, g2, g3, g4, g5, g6, g7⟩, _⟩ := RecAt.eight hSw; go_simp; all_goals (first | done | with_reducible rfl))
            refine wpAnyH_take (i := 2) (v := .pointer (some ⟨cs, 0, none⟩)) rfl (by kernel_rfl) (by kernel_rfl) (by kernel_rfl) (fun _ _ _ h => h) (Or.inl ⟨by rfl, ?_⟩) hHeld ?_
            · (intro ww hSw; have ⟨⟨g0, g1, g2, g3, g4, g5, g6, g7⟩, _⟩ := RecAt.eight hSw; go_simp; all_goals (first | done | with_reducible rfl))
            refine wpAnyH_ready (rs := [3]) (by kernel_rfl) (by simp) ?_
            refine AllReadyH.cons rfl (fun KK hK => ?_) AllReadyH.nil
            go_simp
            go_at_call 90
            refine (redir_any K HSC.out _ B cs n I d tv T (HGB.out.rs.keep0 (Keeps.refl _ _).drew) HD.out HPOS.out).mono ?_
            rw [HCM.out]
            rintro e w4 ⟨rfl, hk4⟩
            have HK4 := Lib.hid ((HGB.out.kp.drew).trans hk4 (fun _ _ h => h))
            clear hk4
            go_wp2_with fail
            refine ⟨rfl, ?_⟩
            rw [HRX.out]
            exact ⟨rfl, HK4.out⟩
          | ok dr =>
            obtain ⟨d2, r2⟩ := dr
            have HRX := Lib.hid (show res = some (redEnd ds (redirsF (scrF (commandF K)) M (acc ++ d2) r2)) by rw [HRL1.out, hcm])
            have HCM := Lib.hid hcm
            clear hcm
            have HCALL := Lib.hid (show ∀ e w4, RecPost wb2.drew B cs tv n T I d RdrS (.ok (d2, r2)) e w4 → ∃ (j4 : Nat) (sv : ByteArray) (a5 : Option Addr) (m5 c5 : Nat) (xs : List Value), e = .returned (.agg #[.string sv, .slice a5 m5 c5]) ∧ (I ≤ j4 ∧ j4 ≤ T.length ∧ T.drop j4 = r2 ∧ True) ∧ w4.ownsRow 0 47 2 (.slice la m lc) m xs ∧ RecAt w4 N [.int .i64 k, .bool b, .string s, .slice a0 n0 c0, .slice a1 n1 c1, .slice la m lc, .slice a3 n3 c3, .slice a4 n4 c4] ∧
                (∀ (gg cap : Nat) (w5 : World) (o : Obj), w5.ownsRow 0 47 2 (.slice (some ⟨gg, 0, none⟩) (m + 1) cap) (m + 1) (xs ++ [.string sv, .slice a5 m5 c5]) → (w4.alloc o).grownBy w5 (Value.slice la m lc).ownBlock → ((Value.slice la m lc).ownBlock = some gg ∨ gg = w4.heap.size + 1) →
                  RecAt w5 N [.int .i64 k, .bool b, .string s, .slice a0 n0 c0, .slice a1 n1 c1, .slice la m lc, .slice a3 n3 c3, .slice a4 n4 c4] ∧ GI w (w5.setCell ⟨N, 5, none⟩ (.slice (some ⟨gg, 0, none⟩) (m + 1) cap)) B cs tv n T d X N [.int .i64 0, .bool false, .string ⟨#[]⟩, .slice none 0 0, .slice none 0 0, .slice none 0 0, .slice none 0 0, .slice none 0 0] [p0, p1, p2, p3, p4] [q6, q7] [.int .i64 k, .bool b, .string s, .slice a0 n0 c0, .slice a1 n1 c1] [.slice a3 n3 c3, .slice a4 n4 c4] 2 47 j4 (m + 1) (some ⟨gg, 0, none⟩) cap (acc ++ d2)) from fun e w4 hp => by
              obtain ⟨vs, ⟨he, j4, hj4, ht4, hrs4, hk4⟩, ⟨sv, a5, m5, c5, rfl⟩, hrd4⟩ := hp
              obtain ⟨xs, ho, hrec, hF⟩ := HGB.out.more HCS.out HXN.out.1 HXN.out.2 HXW.out ((Keeps.refl (fun b => b = cs) wb2).drew.trans hk4 (fun _ _ h => h)) hrs4 hrd4
              exact ⟨j4, sv, a5, m5, c5, xs, he, ⟨hj4, hrs4.i, ht4, trivial⟩, ho, hrec, hF⟩)
            go_wp2_with fail
            go_region_law (first
              | (refine step_append_lies _ (by rfl) _ _ _ (by rfl) 0 47 i0 _ 2 40 Tryd.underlying37 hi0 hz0 hz1 hz2 rfl (by omega) (.slice la m lc) m xs (by rfl) (hown4.alloc _)
                  ⟨w4.heap.size, 0, none⟩ 1 1 [.string sv, .slice a5 m5 c5] (by rfl) (by rfl) (World.news_of_block (cs := #[.string sv, .slice a5 m5 c5]) (t := 47) (fr := (0, 0)) (heap_alloc_new w4 _)) (by simp [Value.oneCell'])
                  (by omega) (by unfold maxLen; omega) (by omega) (by simp) (w4.heap.size + 1) (by simp) ?_; intro gg cap w5 hown2 hgrow hat hlt5
                 obtain ⟨hrec5, hG5⟩ := HF.out gg cap w5 _ hown2 hgrow hat
                 obtain ⟨⟨z0, z1, z2, z3, z4, z5, z6, z7⟩, ⟨zf0, zf1, zf2, zf3, zf4, zf5, zf6, zf7⟩⟩ := RecAt.eight hrec5
                 have hN5 := hrec5.lt
                 have HG5 := Lib.hid hG5
                 clear hrec5 hG5 hown2 hgrow hat)
              | (go_simp; go_at_call 90; refine (redir_any K HSC.out _ B cs n I d tv T (HGB.out.rs.keep0 (Keeps.refl _ _).drew) HD.out HPOS.out).mono ?_; rw [HCM.out]; intro e w4 hp; obtain ⟨j4, sv, a5, m5, c5, xs, he, hJ4, hown4, hrec4, hF⟩ := HCALL.out e w4 hp; subst he; obtain ⟨⟨y0, y1, y2, y3, y4, y5, y6, y7⟩, ⟨yf0, yf1, yf2, yf3, yf4, yf5, yf6, yf7⟩⟩ := RecAt.eight hrec4; have hN4 := hrec4.lt; have HF := Lib.hid hF; have HJ4 := Lib.hid hJ4; clear hp hF hJ4 hrec4))
            all_goals
              obtain ⟨w3, hw3⟩ : ∃ w3, w3 = w5.setCell ⟨N, 5, none⟩ (.slice (some ⟨gg, 0, none⟩) (m + 1) cap) := ⟨_, rfl⟩
              rw [← hw3] at HG5
              rw [← hw3]
              have HRN := Lib.hid (show res = some (redEnd ds (redirsF (scrF (commandF K)) M (acc ++ d2) (T.drop j4))) by rw [HRX.out, HJ4.out.2.2.1])
              have hj4b : I + 1 ≤ j4 := by
                have h1 := redirF_len HCM.out
                have h2 := congrArg List.length HJ4.out.2.2.1
                rw [List.length_drop] at h1 h2
                have h3 := HJ4.out.2.1
                omega
              have hj4T := HJ4.out.2.1
              clear hw3 HJ4 HCM
              go_wp2_with fail
              go_roundg (T.length - j4)
              case measure => have := HGK.out; omega
              case rel => exact ⟨j4, M, m + 1, _, cap, acc ++ d2, rfl, by omega, by omega, by omega, HG5, HRN⟩
        | false =>
          have HRX := Lib.hid (show res = some (.ok (ds.set 5 (.sl 2 acc), T.drop I)) by rw [HRL0.out, redirs_succ, hq]; rfl)
          have HQ := Lib.hid hq
          clear hq HRL0
          go_wp2_with fail
          refine (redirects_any _ B cs n I d tv T false HG.out.rs HQ.out).mono ?_
          rintro e wy ⟨rfl, hk⟩
          have HGY := Lib.hid (HG.out.keep0 hk)
          clear hk HG
          have hrec := (show RecAt wy N [.int .i64 k, .bool b, .string s, .slice a0 n0 c0, .slice a1 n1 c1, .slice la m lc, .slice a3 n3 c3, .slice a4 n4 c4] from HGY.out.rc)
          obtain ⟨⟨v0, v1, v2, v3, v4, v5, v6, v7⟩, _⟩ := hrec.eight
          have hnl := hrec.lt
          have HR3 := Lib.hid HGY.out.zr
          have HK3 := Lib.hid HGY.out.kp
          have HS3 := Lib.hid HGY.out.rs
          have HRD3 := Lib.hid (show RdL wy (fun b => X ≤ b) (ds.set 5 (.sl 2 acc)) [.int .i64 k, .bool b, .string s, .slice a0 n0 c0, .slice a1 n1 c1, .slice la m lc, .slice a3 n3 c3, .slice a4 n4 c4] by rw [HSET.out]; exact HGY.out.all)
          have HND := Lib.hid (HNDS.out acc)
          clear hrec
          obtain ⟨⟨z0, z1, z2, z3, z4, z5, z6, z7⟩, y0, y1, y2, y3, y4, y5, y6, y7⟩ := HR3.out.eight
          have hzl := HR3.out.lt
          go_wp2_with fail
          refine bodyPost_ret (v := .tuple #[.agg #[.int .i64 k, .bool b, .string s, .slice a0 n0 c0, .slice a1 n1 c1, .slice la m lc, .slice a3 n3 c3, .slice a4 n4 c4], .bool true]) (by simp [results, Tryd.results75, go_sem, z0, z1, z2, z3, z4, z5, z6, z7]) rfl ?_
          obtain ⟨f1, f2, f3⟩ := nd_fin HK3.out HS3.out HXN.out.1 HCS.out HRD3.out (set8_keeps wy w.heap.size (.int .i64 k) (.bool b) (.string s) (.slice a0 n0 c0) (.slice a1 n1 c1) (.slice la m lc) (.slice a3 n3 c3) (.slice a4 n4 c4))
          rw [HRX.out]
          exact ⟨[.int .i64 k, .bool b, .string s, .slice a0 n0 c0, .slice a1 n1 c1, .slice la m lc, .slice a3 n3 c3, .slice a4 n4 c4], ⟨rfl, _, hiI, rfl, f1, f2⟩, HND.out, f3⟩
  | false =>
  refine (is_any wa6 B cs n ja6 d tv T [99, 97, 115, 101] false HS6.out (by decide) hq7).mono ?_
  rintro e wa7 ⟨rfl, ja7, hj7, ht7, hrs7, hk7⟩
  have HS7 := Lib.hid hrs7
  have HK7 := Lib.hid (HK6.out.trans hk7 (fun _ _ h => h))
  have HT7 := Lib.hid (show T.drop ja7 = T.drop i by rw [show T.drop ja7 = T.drop ja6 from ht7]; exact HT6.out)
  have hji7 : i ≤ ja7 := by omega
  have HRES7 := Lib.hid (show res = chain7 (commandF K) (T.drop ja7) by rw [show T.drop ja7 = T.drop ja6 from ht7]; rw [HRES6.out]; unfold chain6; rw [hq7]; rfl)
  clear hrs7 hk7 ht7 hq7
  go_wp2_with fail
  have HCH := Lib.hid (show res = if nameOkF nm && opensF (T.drop ja7) then some (functionF (commandF K) nm (T.drop ja7)) else none by rw [HRES7.out]; unfold chain7; rw [HNM.out, HT7.out])
  cases hok : nameOkF nm with
  | false =>
    have HRX := Lib.hid (show res = none by rw [HCH.out, hok]; rfl)
    refine (vname_any nm wa7 false HNL.out hok).mono ?_
    rintro e wc ⟨rfl, hkc⟩
    have HSC7 := Lib.hid (HS7.out.keep0 hkc)
    have HKC7 := Lib.hid (HK7.out.trans hkc (fun _ _ h => h.elim))
    clear hkc hok
    have HR3 := Lib.hid (HR.out.keep HKC7.out (fun e => by have := HCS.out; omega))
    obtain ⟨⟨z0, z1, z2, z3, z4, z5, z6, z7⟩, y0, y1, y2, y3, y4, y5, y6, y7⟩ := HR3.out.eight
    have hzl := HR3.out.lt
    go_wp2_with fail
    refine bodyPost_ret (v := .tuple #[.agg #[.int .i64 0, .bool false, .string ⟨#[]⟩, .slice none 0 0, .slice none 0 0, .slice none 0 0, .slice none 0 0, .slice none 0 0], .bool false]) (by simp [results, Tryd.results75, go_sem, z0, z1, z2, z3, z4, z5, z6, z7]) rfl ?_
    obtain ⟨f1, f2, _⟩ := nd_fin (X := X) (ds := []) (vs := []) ((HKW.out.mono (fun _ _ h => h.elim)).trans HKC7.out (fun _ _ h => h)) HSC7.out HXN.out.1 HCS.out trivial (set8_keeps wc w.heap.size (.int .i64 0) (.bool false) (.string ⟨#[]⟩) (.slice none 0 0) (.slice none 0 0) (.slice none 0 0) (.slice none 0 0) (.slice none 0 0))
    rw [HRX.out]
    exact ⟨rfl, _, hji7, HT7.out, f1, f2⟩
  | true =>
    refine (vname_any nm wa7 true HNL.out hok).mono ?_
    rintro e wc ⟨rfl, hkc⟩
    have HSC7 := Lib.hid (HS7.out.keep0 hkc)
    have HKC7 := Lib.hid (HK7.out.trans hkc (fun _ _ h => h.elim))
    clear hkc
    go_wp2_with fail
    cases hop : opensF (T.drop ja7) with
    | false =>
      have HRX := Lib.hid (show res = none by rw [HCH.out, hok, hop]; rfl)
      refine (opens_any wc B cs n ja7 d tv T false HSC7.out hop).mono ?_
      rintro e wd ⟨rfl, hkd⟩
      have HSD := Lib.hid (HSC7.out.keep0 hkd)
      have HKD := Lib.hid (HKC7.out.trans hkd (fun _ _ h => h.elim))
      clear hkd hok hop
      have HR3 := Lib.hid (HR.out.keep HKD.out (fun e => by have := HCS.out; omega))
      obtain ⟨⟨z0, z1, z2, z3, z4, z5, z6, z7⟩, y0, y1, y2, y3, y4, y5, y6, y7⟩ := HR3.out.eight
      have hzl := HR3.out.lt
      go_wp2_with fail
      refine bodyPost_ret (v := .tuple #[.agg #[.int .i64 0, .bool false, .string ⟨#[]⟩, .slice none 0 0, .slice none 0 0, .slice none 0 0, .slice none 0 0, .slice none 0 0], .bool false]) (by simp [results, Tryd.results75, go_sem, z0, z1, z2, z3, z4, z5, z6, z7]) rfl ?_
      obtain ⟨f1, f2, _⟩ := nd_fin (X := X) (ds := []) (vs := []) ((HKW.out.mono (fun _ _ h => h.elim)).trans HKD.out (fun _ _ h => h)) HSD.out HXN.out.1 HCS.out trivial (set8_keeps wd w.heap.size (.int .i64 0) (.bool false) (.string ⟨#[]⟩) (.slice none 0 0) (.slice none 0 0) (.slice none 0 0) (.slice none 0 0) (.slice none 0 0))
      rw [HRX.out]
      exact ⟨rfl, _, hji7, HT7.out, f1, f2⟩
    | true =>
      have HRF := Lib.hid (show res = some (functionF (commandF K) nm (T.drop ja7)) by rw [HCH.out, hok, hop]; rfl)
      have HPO := Lib.hid (opens_pos hop)
      refine (opens_any wc B cs n ja7 d tv T true HSC7.out hop).mono ?_
      rintro e wd ⟨rfl, hkd⟩
      have HSD := Lib.hid (HSC7.out.keep0 hkd)
      have HKD := Lib.hid (HKC7.out.trans hkd (fun _ _ h => h.elim))
      clear hkd hok hop
      go_wp2_with fail
      refine (function_any K HC.out wd B cs n ja7 d tv T nm HSD.out HD.out HPO.out).mono ?_
      intro e w2 hp
      cases hcm : functionF (commandF K) nm (T.drop ja7) with
      | error y =>
        rw [hcm] at hp
        obtain ⟨rfl, hk2⟩ := hp
        have HRX := Lib.hid (show res = some (.error y) by rw [HRF.out, hcm])
        have HK3 := Lib.hid (((HKW.out.mono (fun _ _ h => h.elim)).trans HKD.out (fun _ _ h => h)).trans hk2 (fun _ _ h => h))
        clear hcm hk2
        go_wp2_with fail
        refine ⟨rfl, ?_⟩
        rw [HRX.out]
        exact ⟨rfl, HK3.out⟩
      | ok dr =>
        obtain ⟨ds, r⟩ := dr
        rw [hcm] at hp
        obtain ⟨vs, ⟨rfl, j2, hj2, ht2, hrs2, hk2⟩, _, hnd, hrd⟩ := hp
        obtain ⟨k, b, s, a0, n0, c0, a1, n1, c1, a2, n2, c2, a3, n3, c3, a4, n4, c4, rfl⟩ := nd_vals hnd hrd
        have HRX := Lib.hid (show res = some (.ok (ds, r)) by rw [HRF.out, hcm])
        have hkk := HKD.out.trans hk2 (fun _ _ h => h)
        have hsd := HKD.out.size
        have hxe := HXE.out
        have HR3 := Lib.hid (HR.out.keep hkk (fun e => by have := HCS.out; omega))
        have HK3 := Lib.hid ((HKW.out.mono (fun _ _ h => h.elim)).trans hkk (fun _ _ h => h))
        have HS3 := Lib.hid hrs2
        have HRD3 := Lib.hid (hrd.mono (D' := fun b => X ≤ b) (fun b _ hb => by omega))
        have HND := Lib.hid hnd
        have HT2 := Lib.hid ht2
        have hj2i : i ≤ j2 := by omega
        clear hcm hk2 hrs2 hnd hrd ht2 hkk hsd hxe
        obtain ⟨⟨z0, z1, z2, z3, z4, z5, z6, z7⟩, y0, y1, y2, y3, y4, y5, y6, y7⟩ := HR3.out.eight
        have hzl := HR3.out.lt
        go_wp2_with fail
        refine bodyPost_ret (v := .tuple #[.agg #[.int .i64 k, .bool b, .string s, .slice a0 n0 c0, .slice a1 n1 c1, .slice a2 n2 c2, .slice a3 n3 c3, .slice a4 n4 c4], .bool true]) (by simp [results, Tryd.results75, go_sem, z0, z1, z2, z3, z4, z5, z6, z7]) rfl ?_
        obtain ⟨f1, f2, f3⟩ := nd_fin HK3.out HS3.out HXN.out.1 HCS.out HRD3.out (set8_keeps w2 w.heap.size (.int .i64 k) (.bool b) (.string s) (.slice a0 n0 c0) (.slice a1 n1 c1) (.slice a2 n2 c2) (.slice a3 n3 c3) (.slice a4 n4 c4))
        rw [HRX.out]
        exact ⟨[.int .i64 k, .bool b, .string s, .slice a0 n0 c0, .slice a1 n1 c1, .slice a2 n2 c2, .slice a3 n3 c3, .slice a4 n4 c4], ⟨rfl, _, hj2i, HT2.out, f1, f2⟩, HND.out, f3⟩
end Go.Proofs.YtcahifkiiabioaaDoor
namespace Go.Proofs.YtcahifkiiabioaaDoor
open Go.RowKit
set_option linter.unusedVariables false

set_option maxRecDepth 100000 in
set_option maxHeartbeats 16000000 in
theorem command_zero : CmdOK 0 := by
  intro w B cs n i d tv T h hd
  obtain ⟨res, hres⟩ : ∃ res, res = commandF 0 (T.drop i) := ⟨_, rfl⟩
  rw [← hres]
  have hc8 := cells_node
  have HRES := Lib.hid hres
  have HH := Lib.hid h
  have HD := Lib.hid hd
  have HCS := Lib.hid h.lt
  clear hres h hd
  go_enter Tryd.func64, Tryd.ntmps64
  go_wp2_with fail
  obtain ⟨W, hW⟩ : ∃ W, W = w.alloc (.cells #[.int .i64 0, .bool false, .string ⟨#[]⟩, .slice none 0 0, .slice none 0 0, .slice none 0 0, .slice none 0 0, .slice none 0 0] 40) := ⟨_, rfl⟩
  have hkW : Keeps (fun _ => False) w W := by rw [hW]; exact (Keeps.refl _ _).alloc _
  have HR := Lib.hid (show RecAt W w.heap.size [.int .i64 0, .bool false, .string ⟨#[]⟩, .slice none 0 0, .slice none 0 0, .slice none 0 0, .slice none 0 0, .slice none 0 0] by rw [hW]; exact new_rec8 _ _ _ _ _ _ _ _ _ _)
  rw [← hW]
  have HKW := Lib.hid hkW
  have HX := Lib.hid (show w.heap.size < W.heap.size by rw [hW]; simp)
  have HS := Lib.hid (HH.out.keep0 hkW)
  clear hkW hW
  cases hb : beginsF (T.drop i) with
  | false =>
    have HRX := Lib.hid (show res = .error 2 by rw [HRES.out]; unfold commandF; rw [hb]; rfl)
    refine (begins_any W B cs n i d tv T false HS.out hb).mono ?_
    rintro e w1 ⟨rfl, hk1⟩
    have HK3 := Lib.hid ((HKW.out.mono (T := fun b => b = cs) (fun _ _ h => h.elim)).trans hk1 (fun _ _ h => h.elim))
    clear hk1 hb
    go_wp2_with fail
    refine (need_no _).mono ?_
    rintro e w2 ⟨rfl, rfl⟩
    go_wp2_with fail
    refine ⟨rfl, ?_⟩
    rw [HRX.out]
    exact ⟨rfl, HK3.out⟩
  | true =>
    refine (begins_any W B cs n i d tv T true HS.out hb).mono ?_
    rintro e w1 ⟨rfl, hk1⟩
    have HS1 := Lib.hid (HS.out.keep0 hk1)
    have HK1 := Lib.hid hk1
    obtain ⟨c0, c1, c2, fz1, fz2⟩ := HS1.out.cells
    have hcl := HS1.out.lt
    clear hk1
    go_wp2_with fail
    refine (need_yes _).mono ?_
    rintro e w2 ⟨rfl, rfl⟩
    have HRX := Lib.hid (show res = .error 3 by rw [HRES.out]; unfold commandF; rw [hb]; rfl)
    have HK3 := Lib.hid ((HKW.out.mono (T := fun b => b = cs) (fun _ _ h => h.elim)).trans HK1.out (fun _ _ h => h.elim))
    have t0 : ((d : Int) == 40) = true := by rw [beq_iff_eq]; have := HD.out; omega
    clear hb
    go_wp2_with fail
    refine (pfail_any 3 _).mono ?_
    rintro e w3 ⟨rfl, rfl⟩
    go_wp2_with fail
    refine ⟨rfl, ?_⟩
    rw [HRX.out]
    exact ⟨rfl, HK3.out⟩

set_option maxRecDepth 100000 in
set_option maxHeartbeats 16000000 in
theorem command_succ (K : Nat) (hcmd : CmdOK K) (hscr : ScrOK K) : CmdOK (K + 1) := by
  intro w B cs n i d tv T h hd
  obtain ⟨res, hres⟩ : ∃ res, res = commandF (K + 1) (T.drop i) := ⟨_, rfl⟩
  rw [← hres]
  have hc8 := cells_node
  have HRES := Lib.hid hres
  have HH := Lib.hid h
  have HD := Lib.hid hd
  have HCS := Lib.hid h.lt
  clear hres h hd
  go_enter Tryd.func64, Tryd.ntmps64
  go_wp2_with fail
  obtain ⟨W, hW⟩ : ∃ W, W = w.alloc (.cells #[.int .i64 0, .bool false, .string ⟨#[]⟩, .slice none 0 0, .slice none 0 0, .slice none 0 0, .slice none 0 0, .slice none 0 0] 40) := ⟨_, rfl⟩
  have hkW : Keeps (fun _ => False) w W := by rw [hW]; exact (Keeps.refl _ _).alloc _
  have HR := Lib.hid (show RecAt W w.heap.size [.int .i64 0, .bool false, .string ⟨#[]⟩, .slice none 0 0, .slice none 0 0, .slice none 0 0, .slice none 0 0, .slice none 0 0] by rw [hW]; exact new_rec8 _ _ _ _ _ _ _ _ _ _)
  rw [← hW]
  have HKW := Lib.hid hkW
  have HX := Lib.hid (show w.heap.size < W.heap.size by rw [hW]; simp)
  have HS := Lib.hid (HH.out.keep0 hkW)
  clear hkW hW
  cases hb : beginsF (T.drop i) with
  | false =>
    have HRX := Lib.hid (show res = .error 2 by rw [HRES.out]; unfold commandF; rw [hb]; rfl)
    refine (begins_any W B cs n i d tv T false HS.out hb).mono ?_
    rintro e w1 ⟨rfl, hk1⟩
    have HK3 := Lib.hid ((HKW.out.mono (T := fun b => b = cs) (fun _ _ h => h.elim)).trans hk1 (fun _ _ h => h.elim))
    clear hk1 hb
    go_wp2_with fail
    refine (need_no _).mono ?_
    rintro e w2 ⟨rfl, rfl⟩
    go_wp2_with fail
    refine ⟨rfl, ?_⟩
    rw [HRX.out]
    exact ⟨rfl, HK3.out⟩
  | true =>
    refine (begins_any W B cs n i d tv T true HS.out hb).mono ?_
    rintro e w1 ⟨rfl, hk1⟩
    have HS1 := Lib.hid (HS.out.keep0 hk1)
    have HK1 := Lib.hid hk1
    obtain ⟨c0, c1, c2, fz1, fz2⟩ := HS1.out.cells
    have hcl := HS1.out.lt
    clear hk1
    go_wp2_with fail
    refine (need_yes _).mono ?_
    rintro e w2 ⟨rfl, rfl⟩
    have HRES1 := Lib.hid (show res = innerF (commandF K) (scrF (commandF K)) (T.drop i) by rw [HRES.out]; unfold commandF; rw [hb]; rfl)
    have hdd := HD.out
    have t0 : ((d : Int) == 40) = false := by rw [beq_eq_false_iff_ne]; omega
    have p0 : (0 : Int) ≤ (d : Int) := by omega
    have p1 : (d : Int) ≤ 39 := by omega
    obtain ⟨hs2, hk2⟩ := HS1.out.set2 (j := d + 1) (by omega)
    rw [show ((d + 1 : Nat) : Int) = (d : Int) + 1 by omega] at hs2 hk2
    obtain ⟨w2, hw2⟩ : ∃ w2, w2 = w1.setCell ⟨cs, 2, none⟩ (.int .i64 ((d : Int) + 1)) := ⟨_, rfl⟩
    rw [← hw2] at hs2 hk2
    have HS2 := Lib.hid hs2
    have HK2 := Lib.hid ((HK1.out.mono (T := fun b => b = cs) (fun _ _ h => h.elim)).trans hk2 (fun _ _ h => h))
    have HW2 := Lib.hid hw2
    clear hb hdd hs2 hk2 hw2 HRES
    go_wp2_with fail
    rw [← HW2.out]
    clear HW2 c0 c1 c2 fz1 fz2 hcl t0 p0 p1
    refine (compound_any K hcmd hscr w2 B cs n i (d + 1) tv T HS2.out (by have := HD.out; omega)).mono ?_
    intro e w3 hp
    cases hcm : compoundF (commandF K) (scrF (commandF K)) (T.drop i) with
    | some q =>
      have hrq : res = q := by rw [HRES1.out]; unfold innerF; rw [hcm]
      rw [hcm] at hp
      clear hcm
      cases q with
      | error y =>
        obtain ⟨rfl, hk3⟩ := hp
        have HRX := Lib.hid hrq
        have HK3 := Lib.hid (((HKW.out.mono (T := fun b => b = cs) (fun _ _ h => h.elim)).trans HK2.out (fun _ _ h => h)).trans hk3 (fun _ _ h => h))
        clear hk3 hrq
        go_wp2_with fail
        refine ⟨rfl, ?_⟩
        rw [HRX.out]
        exact ⟨rfl, HK3.out⟩
      | ok dr =>
        obtain ⟨ds, r⟩ := dr
        obtain ⟨vs, ⟨rfl, j3, hj3, ht3, hrs3, hk3⟩, hnd, hrd⟩ := hp
        obtain ⟨k, b, s, a0, n0, c0, a1, n1, c1, a2, n2, c2, a3, n3, c3, a4, n4, c4, rfl⟩ := nd_vals hnd hrd
        have HRX := Lib.hid hrq
        obtain ⟨N, hN⟩ : ∃ N, N = w3.heap.size := ⟨_, rfl⟩
        obtain ⟨wr, hwr⟩ : ∃ wr, wr = w3.alloc (.cells #[.int .i64 k, .bool b, .string s, .slice a0 n0 c0, .slice a1 n1 c1, .slice a2 n2 c2, .slice a3 n3 c3, .slice a4 n4 c4] 40) := ⟨_, rfl⟩
        have hkr : Keeps (fun _ => False) w3 wr := by rw [hwr]; exact (Keeps.refl _ _).alloc _
        have hkk := (HK2.out.trans hk3 (fun _ _ h => h)).trans hkr (fun _ _ h => h.elim)
        have HREC := Lib.hid (show RecAt wr N [.int .i64 k, .bool b, .string s, .slice a0 n0 c0, .slice a1 n1 c1, .slice a2 n2 c2, .slice a3 n3 c3, .slice a4 n4 c4] by rw [hwr, hN]; exact new_rec8 _ _ _ _ _ _ _ _ _ _)
        have HNC := Lib.hid (show cs < N by rw [hN]; exact hrs3.lt)
        have HSR := Lib.hid (hrs3.keep0 hkr)
        have hs2 := HK2.out.size
        have hx := HX.out
        have hcw := HCS.out
        have HKR := Lib.hid ((HKW.out.mono (T := fun b => b = cs) (fun _ _ h => h.elim)).trans hkk (fun _ _ h => h))
        have HRDR := Lib.hid ((hrd.keep hkr (fun _ _ _ h => h)).mono (D' := fun b => W.heap.size ≤ b) (fun b _ hb => by omega))
        have HNDR := Lib.hid hnd
        have HRR := Lib.hid (HR.out.keep hkk (fun e => by omega))
        have HT3 := Lib.hid ht3
        have HN := Lib.hid hN
        have HWR := Lib.hid hwr
        clear hk3 hrs3 hnd hrd ht3 hkr hkk hs2 hx hcw hN hwr hrq
        go_upto_region 6 with fail
        rw [← HWR.out, ← HN.out]
        obtain ⟨d0, d1, d2, g1, g2⟩ := HSR.out.cells
        have hdl := HSR.out.lt
        have hdd := HD.out
        have q0 : ((d : Int) + 1) - 1 = (d : Int) := by omega
        have q1 : (0 : Int) ≤ (d : Int) := by omega
        have q2 : (d : Int) ≤ 40 := by omega
        rw [show ((d + 1 : Nat) : Int) = (d : Int) + 1 by omega] at d2
        obtain ⟨hs9, hk9⟩ := HSR.out.set2 (j := d) (by omega)
        obtain ⟨w9, hw9⟩ : ∃ w9, w9 = wr.setCell ⟨cs, 2, none⟩ (.int .i64 (d : Nat)) := ⟨_, rfl⟩
        rw [← hw9] at hs9 hk9
        have hcw := HCS.out
        have hx := HX.out
        have HS9 := Lib.hid hs9
        have hne := HNC.out
        have HK9 := Lib.hid (HKR.out.trans hk9 (fun _ _ h => h))
        have HRD9 := Lib.hid (HRDR.out.keep hk9 (fun b _ hb e => by omega))
        obtain ⟨⟨v0, v1, v2, v3, v4, v5, v6, v7⟩, _⟩ := (show RecAt w9 N [.int .i64 k, .bool b, .string s, .slice a0 n0 c0, .slice a1 n1 c1, .slice a2 n2 c2, .slice a3 n3 c3, .slice a4 n4 c4] from HREC.out.keep hk9 (fun e => by omega)).eight
        have hnl := (HREC.out.keep hk9 (fun e => by omega)).lt
        have hz9 := HRR.out.keep hk9 (fun e => by omega)
        obtain ⟨⟨z0, z1, z2, z3, z4, z5, z6, z7⟩, y0, y1, y2, y3, y4, y5, y6, y7⟩ := hz9.eight
        have hzl := hz9.lt
        have HW9 := Lib.hid hw9
        clear hs9 hk9 hcw hz9 hw9 hdd
        go_upto_region 9 with fail
        rw [← HW9.out]
        go_wp2_with fail
        refine bodyPost_ret (v := .agg #[.int .i64 k, .bool b, .string s, .slice a0 n0 c0, .slice a1 n1 c1, .slice a2 n2 c2, .slice a3 n3 c3, .slice a4 n4 c4]) (by simp [results, Tryd.results64, go_sem, z0, z1, z2, z3, z4, z5, z6, z7]) rfl ?_
        obtain ⟨f1, f2, f3⟩ := nd_fin HK9.out HS9.out HX.out HCS.out HRD9.out (set8_keeps w9 w.heap.size (.int .i64 k) (.bool b) (.string s) (.slice a0 n0 c0) (.slice a1 n1 c1) (.slice a2 n2 c2) (.slice a3 n3 c3) (.slice a4 n4 c4))
        rw [HRX.out]
        exact ⟨[.int .i64 k, .bool b, .string s, .slice a0 n0 c0, .slice a1 n1 c1, .slice a2 n2 c2, .slice a3 n3 c3, .slice a4 n4 c4], ⟨rfl, _, by omega, HT3.out, f1, f2⟩, trivial, HNDR.out, f3⟩
    | none =>
      have hrq : res = simpleF (scrF (commandF K)) ((T.drop i).length + 1) [] [] [] (T.drop i) := by rw [HRES1.out]; unfold innerF; rw [hcm]
      rw [hcm] at hp
      obtain ⟨rfl, j3, hj3, ht3, hrs3, hk3⟩ := hp
      rw [← ht3] at hrq
      have HRQ := Lib.hid hrq
      obtain ⟨N, hN⟩ : ∃ N, N = w3.heap.size := ⟨_, rfl⟩
      obtain ⟨wr, hwr⟩ : ∃ wr, wr = w3.alloc (.cells #[.int .i64 0, .bool false, .string ⟨#[]⟩, .slice none 0 0, .slice none 0 0, .slice none 0 0, .slice none 0 0, .slice none 0 0] 40) := ⟨_, rfl⟩
      have hkr : Keeps (fun _ => False) w3 wr := by rw [hwr]; exact (Keeps.refl _ _).alloc _
      have hkk := (HK2.out.trans hk3 (fun _ _ h => h)).trans hkr (fun _ _ h => h.elim)
      have HN0 := Lib.hid (show RecAt wr N [.int .i64 0, .bool false, .string ⟨#[]⟩, .slice none 0 0, .slice none 0 0, .slice none 0 0, .slice none 0 0, .slice none 0 0] by rw [hwr, hN]; exact new_rec8 _ _ _ _ _ _ _ _ _ _)
      have HNC := Lib.hid (show cs < N ∧ w.heap.size < N by
        have h1 := hrs3.lt
        have h2 := HX.out
        have h3 := (HK2.out.trans hk3 (fun _ _ h => h)).size
        omega)
      have HSR := Lib.hid (hrs3.keep0 hkr)
      have HKK := Lib.hid hkk
      have HNS := Lib.hid (show N < wr.heap.size by rw [hwr, hN]; simp)
      have HN := Lib.hid hN
      have HWR := Lib.hid hwr
      clear hcm hk3 hrs3 ht3 hkr hkk hN hwr hrq
      go_upto_region 6 with fail
      rw [← HWR.out, ← HN.out]
      go_wp2_with fail
      refine (simple_any K hcmd hscr wr B cs n j3 (d + 1) tv T HSR.out (by have := HD.out; omega)).mono ?_
      intro e w4 hp
      cases hcm : simpleF (scrF (commandF K)) ((T.drop j3).length + 1) [] [] [] (T.drop j3) with
      | error y =>
        rw [hcm] at hp
        obtain ⟨rfl, hk4⟩ := hp
        have HRX := Lib.hid (show res = .error y by rw [HRQ.out, hcm])
        have HK3 := Lib.hid (((HKW.out.mono (T := fun b => b = cs) (fun _ _ h => h.elim)).trans HKK.out (fun _ _ h => h)).trans hk4 (fun _ _ h => h))
        clear hk4 hcm
        go_wp2_with fail
        refine ⟨rfl, ?_⟩
        rw [HRX.out]
        exact ⟨rfl, HK3.out⟩
      | ok dr =>
        obtain ⟨ds, r⟩ := dr
        rw [hcm] at hp
        obtain ⟨vs, ⟨rfl, j4, hj4, ht4, hrs4, hk4⟩, _, hnd, hrd⟩ := hp
        obtain ⟨k, b, s, a0, n0, c0, a1, n1, c1, a2, n2, c2, a3, n3, c3, a4, n4, c4, rfl⟩ := nd_vals hnd hrd
        have HRX := Lib.hid (show res = .ok (ds, r) by rw [HRQ.out, hcm])
        obtain ⟨w5, hw5⟩ : ∃ w5, w5 = ((((((((w4.setCell ⟨N, 0, none⟩ (.int .i64 k)).setCell ⟨N, 1, none⟩ (.bool b)).setCell ⟨N, 2, none⟩ (.string s)).setCell ⟨N, 3, none⟩ (.slice a0 n0 c0)).setCell ⟨N, 4, none⟩ (.slice a1 n1 c1)).setCell ⟨N, 5, none⟩ (.slice a2 n2 c2)).setCell ⟨N, 6, none⟩ (.slice a3 n3 c3)).setCell ⟨N, 7, none⟩ (.slice a4 n4 c4)) := ⟨_, rfl⟩
        have hk5 : Keeps (fun b => b = N) w4 w5 := by rw [hw5]; exact set8_keeps _ _ _ _ _ _ _ _ _ _
        have hkk := HKK.out.trans hk4 (fun _ _ h => h)
        have hnc := HNC.out
        have hns := HNS.out
        have hx := HX.out
        have hcw := HCS.out
        have hB := hrs4.cs
        have hs3 := HKK.out.size
        have hrn := HN0.out.keep hk4 (fun e => by omega)
        have HREC := Lib.hid (show RecAt w5 N [.int .i64 k, .bool b, .string s, .slice a0 n0 c0, .slice a1 n1 c1, .slice a2 n2 c2, .slice a3 n3 c3, .slice a4 n4 c4] by rw [hw5]; exact set8_rec hrn _ _ _ _ _ _ _ _)
        have HSR5 := Lib.hid (hrs4.keep hk5 (fun b hb e => by omega) (fun e => by omega))
        have HKR := Lib.hid (((HKW.out.mono (T := fun b => b = cs) (fun _ _ h => h.elim)).trans hkk (fun _ _ h => h)).fresh hk5 (fun b e => by omega))
        have HRDR := Lib.hid ((hrd.keep hk5 (fun b _ hb e => by omega)).mono (D' := fun b => W.heap.size ≤ b) (fun b _ hb => by omega))
        have HNDR := Lib.hid hnd
        have HRR := Lib.hid ((HR.out.keep hkk (fun e => by omega)).keep hk5 (fun e => by omega))
        have HT4 := Lib.hid ht4
        have HNC := Lib.hid hnc.1
        obtain ⟨⟨u0, u1, u2, u3, u4, u5, u6, u7⟩, e0, e1, e2, e3, e4, e5, e6, e7⟩ := hrn.eight
        have hul := hrn.lt
        have HW5 := Lib.hid hw5
        clear hk4 hrs4 hnd hrd ht4 hk5 hkk hnc hns hx hcw hB hs3 hrn hw5 hcm
        go_upto_region 8 with fail
        rw [← HW5.out]
        clear u0 u1 u2 u3 u4 u5 u6 u7 e0 e1 e2 e3 e4 e5 e6 e7 hul
        obtain ⟨d0, d1, d2, g1, g2⟩ := HSR5.out.cells
        have hdl := HSR5.out.lt
        have hdd := HD.out
        have q0 : ((d : Int) + 1) - 1 = (d : Int) := by omega
        have q1 : (0 : Int) ≤ (d : Int) := by omega
        have q2 : (d : Int) ≤ 40 := by omega
        rw [show ((d + 1 : Nat) : Int) = (d : Int) + 1 by omega] at d2
        obtain ⟨hs9, hk9⟩ := HSR5.out.set2 (j := d) (by omega)
        obtain ⟨w9, hw9⟩ : ∃ w9, w9 = w5.setCell ⟨cs, 2, none⟩ (.int .i64 (d : Nat)) := ⟨_, rfl⟩
        rw [← hw9] at hs9 hk9
        have hcw := HCS.out
        have hx := HX.out
        have HS9 := Lib.hid hs9
        have hne := HNC.out
        have HK9 := Lib.hid (HKR.out.trans hk9 (fun _ _ h => h))
        have HRD9 := Lib.hid (HRDR.out.keep hk9 (fun b _ hb e => by omega))
        obtain ⟨⟨v0, v1, v2, v3, v4, v5, v6, v7⟩, _⟩ := (show RecAt w9 N [.int .i64 k, .bool b, .string s, .slice a0 n0 c0, .slice a1 n1 c1, .slice a2 n2 c2, .slice a3 n3 c3, .slice a4 n4 c4] from HREC.out.keep hk9 (fun e => by omega)).eight
        have hnl := (HREC.out.keep hk9 (fun e => by omega)).lt
        have hz9 := HRR.out.keep hk9 (fun e => by omega)
        obtain ⟨⟨z0, z1, z2, z3, z4, z5, z6, z7⟩, y0, y1, y2, y3, y4, y5, y6, y7⟩ := hz9.eight
        have hzl := hz9.lt
        have HW9 := Lib.hid hw9
        clear hs9 hk9 hcw hz9 hw9 hdd
        go_upto_region 9 with fail
        rw [← HW9.out]
        go_wp2_with fail
        refine bodyPost_ret (v := .agg #[.int .i64 k, .bool b, .string s, .slice a0 n0 c0, .slice a1 n1 c1, .slice a2 n2 c2, .slice a3 n3 c3, .slice a4 n4 c4]) (by simp [results, Tryd.results64, go_sem, z0, z1, z2, z3, z4, z5, z6, z7]) rfl ?_
        obtain ⟨f1, f2, f3⟩ := nd_fin HK9.out HS9.out HX.out HCS.out HRD9.out (set8_keeps w9 w.heap.size (.int .i64 k) (.bool b) (.string s) (.slice a0 n0 c0) (.slice a1 n1 c1) (.slice a2 n2 c2) (.slice a3 n3 c3) (.slice a4 n4 c4))
        rw [HRX.out]
        exact ⟨[.int .i64 k, .bool b, .string s, .slice a0 n0 c0, .slice a1 n1 c1, .slice a2 n2 c2, .slice a3 n3 c3, .slice a4 n4 c4], ⟨rfl, _, by omega, HT4.out, f1, f2⟩, trivial, HNDR.out, f3⟩
end Go.Proofs.YtcahifkiiabioaaDoor
namespace Go.Proofs.YtcahifkiiabioaaDoor
open Go.RowKit
set_option linter.unusedVariables false

theorem whole_catch_idle (p q : Addr) (w : World) :
    CallsD Tryd.prog 26 #[.pointer (some p), .pointer (some q)] .returning w fun e u' w' => e = .returned (.tuple #[]) ∧ u' = .returning ∧ w' = w := by
  refine callsD_of_wpS Tryd.func26 rfl fun c₀ cs hu => ?_
  apply wpS_seq
  apply wpS_region
  simp [wpOpsS, go_sem, recoverD, hu, Tryd.ntmps26, Exit.thenS]
  apply wpS_seq
  apply wpS_region
  simp [wpOpsS, go_sem, Exit.thenS]
  refine wpS_cond (t := false) (by simp [Act.eval, Array.replicate]) ?_
  simp only [Bool.false_eq_true, if_false]
  refine wpS_of_wp (wp_skip ?_)
  cases c₀
  simp_all [bodyPostS, results, Tryd.results26]
set_option maxHeartbeats 4000000 in
theorem whole_catch (a b : Nat) (x : Nat) (u0 u1 : Value) (older : List PanicEntry) (w : World) (hp : w.cell? ⟨a, 0, none⟩ = some u0) (hq : w.cell? ⟨b, 0, none⟩ = some u1) (hpf : w.frozen? ⟨a, 0, none⟩ = false) (hqf : w.frozen? ⟨b, 0, none⟩ = false) (hpq : a ≠ b) (la : a < w.heap.size) (lb : b < w.heap.size) :
    CallsD Tryd.prog 26 #[.pointer (some ⟨a, 0, none⟩), .pointer (some ⟨b, 0, none⟩)] (.panicking ({ v := .iface 68 (.agg #[.int .i64 x]), recovered := false } :: older)) w fun e u' w' =>
      e = .returned (.tuple #[]) ∧ u' = .panicking ({ v := .iface 68 (.agg #[.int .i64 x]), recovered := true } :: older) ∧ w' = (((w.setCell ⟨a, 0, none⟩ (.slice none 0 0)).setCell ⟨b, 0, none⟩ (.int .i64 x)).alloc (.cells #[.int .i64 x] 68)).drew := by
  have ha : ∀ (v : Value) (W : World), (Instr.typeAssert (.iface 68 v) 20 68 true).run Tryd.prog W = .ok (.tuple #[v, .bool true]) W := fun v W => by kernel_rfl
  refine callsD_of_wpS Tryd.func26 rfl fun c₀ cs hu => ?_
  apply wpS_seq
  apply wpS_region
  simp [wpOpsS, go_sem, recoverD, hu, Tryd.ntmps26, Exit.thenS]
  apply wpS_seq
  apply wpS_region
  simp [wpOpsS, go_sem, Exit.thenS]
  refine wpS_cond (t := true) (by simp [Act.eval, Array.replicate]) ?_
  simp only [if_true]
  refine wpS_of_wp ?_
  rw [show (#[Value.pointer (some ⟨a, 0, none⟩), Value.pointer (some ⟨b, 0, none⟩)] ++ ((((Array.replicate 16 undef).setIfInBounds 3 (Value.iface 68 (Value.agg #[Value.int IntKind.i64 (x : Int)]))).setIfInBounds 0 (Value.iface 68 (Value.agg #[Value.int IntKind.i64 (x : Int)]))).setIfInBounds 4 (Value.iface 68 (Value.agg #[Value.int IntKind.i64 (x : Int)]))).setIfInBounds 5 (Value.bool true)) =
    #[Value.pointer (some ⟨a, 0, none⟩), Value.pointer (some ⟨b, 0, none⟩), (Value.iface 68 (Value.agg #[Value.int IntKind.i64 (x : Int)])), undef, undef, (Value.iface 68 (Value.agg #[Value.int IntKind.i64 (x : Int)])), (Value.iface 68 (Value.agg #[Value.int IntKind.i64 (x : Int)])), Value.bool true, undef, undef, undef, undef, undef, undef, undef, undef, undef, undef] from rfl]
  go_wp2_with fail
  go_region
  go_wp2_with fail
  cases c₀
  simp_all [bodyPostS, results, Tryd.results26]
end Go.Proofs.YtcahifkiiabioaaDoor
namespace Go.Proofs.YtcahifkiiabioaaDoor
open Go.RowKit
set_option linter.unusedVariables false

set_option maxRecDepth 100000 in
set_option maxHeartbeats 8000000 in
theorem whole_any (K : Nat) (hcmd : CmdOK K) (w : World) (B n d : Nat) (tv : Value) (T : List Tk) (hev : Ev w B) (ht : TksAt w (fun b => b < B) n T tv) (hsm : SmT T) (hd : d + K = 40) :
    Calls Tryd.prog 17 #[tv, .int .i64 (d : Nat)] w fun e w' => ScrPost w (treeF (commandF K) T) e w' ∧ (T = [] → e = .returned (.tuple #[.slice none 0 0, .int .i64 0])) := by
  obtain ⟨res, hres⟩ : ∃ res, res = treeF (commandF K) T := ⟨_, rfl⟩
  rw [← hres]
  unfold treeF at hres
  have hmf : ∀ (fn : Fn) (first cap : Array Value) (w : World), (Instr.makeFunc fn first cap).run Tryd.prog w = .ok (.func fn first cap) w := fun _ _ _ _ => rfl
  have hc8 := cells_node
  have HRES := Lib.hid hres
  have HC := Lib.hid hcmd
  have HD := Lib.hid hd
  have HEV := Lib.hid hev
  have HTK := Lib.hid ht
  have HSM := Lib.hid hsm
  obtain ⟨ta, tc, rfl, ht1, ht2⟩ := ht.shape
  clear hres hcmd hd hev ht hsm
  obtain ⟨L, hL⟩ : ∃ L, L = T.length := ⟨_, rfl⟩
  have HL := Lib.hid hL
  have hLm : L ≤ 9223372036854775807 := by unfold maxLen at ht2; omega
  rw [← hL]
  rw [← hL] at HTK
  clear hL ht1 ht2
  go_enter_defers Tryd.func17, Tryd.ntmps17
  go_wp2_with fail
  obtain ⟨W, hW⟩ : ∃ W, W = ((w.alloc (.cells #[.slice none 0 0] 24)).alloc (.cells #[.int .i64 0] 25)).alloc (.cells #[.slice ta L tc, .int .i64 0, .int .i64 (d : Nat)] 72) := ⟨_, rfl⟩
  rw [← hW]
  have hsz : W.heap.size = w.heap.size + 1 + 1 + 1 := by rw [hW]; simp
  obtain ⟨cs, hcs⟩ : ∃ cs, cs = w.heap.size + 1 + 1 := ⟨_, rfl⟩
  have hkW : Keeps (fun _ => False) w W := by rw [hW]; exact (((Keeps.refl _ _).alloc _).alloc _).alloc _
  have hR : RecAt W w.heap.size [.slice none 0 0] ∧ RecAt W (w.heap.size + 1) [.int .i64 0] ∧ RecAt W cs [.slice ta L tc, .int .i64 ((0 : Nat) : Int), .int .i64 (d : Nat)] := by
    have k1 : Keeps (fun _ => False) (w.alloc (.cells #[.slice none 0 0] 24)) W := by rw [hW]; exact ((Keeps.refl _ _).alloc _).alloc _
    have k2 : Keeps (fun _ => False) ((w.alloc (.cells #[.slice none 0 0] 24)).alloc (.cells #[.int .i64 0] 25)) W := by rw [hW]; exact (Keeps.refl _ _).alloc _
    have a1 := heap_alloc_new w (.cells #[.slice none 0 0] 24)
    have a2 := heap_alloc_new (w.alloc (.cells #[.slice none 0 0] 24)) (.cells #[.int .i64 0] 25)
    have a3 := heap_alloc_new ((w.alloc (.cells #[.slice none 0 0] 24)).alloc (.cells #[.int .i64 0] 25)) (.cells #[.slice ta L tc, .int .i64 0, .int .i64 (d : Nat)] 72)
    rw [show (w.alloc (.cells #[.slice none 0 0] 24)).heap.size = w.heap.size + 1 by simp] at a2
    rw [show ((w.alloc (.cells #[.slice none 0 0] 24)).alloc (.cells #[.int .i64 0] 25)).heap.size = w.heap.size + 1 + 1 by simp, ← hW, ← hcs] at a3
    exact ⟨⟨_, (k1.block _ (by simp) (fun h => h)).trans a1⟩, ⟨_, (k2.block _ (by simp) (fun h => h)).trans a2⟩, ⟨_, a3⟩⟩
  have hB := HEV.out.low
  have hrs : RS W B cs (.slice ta L tc) n T 0 d := ⟨hR.2.2, HEV.out.keep hkW (fun _ _ h => h), HTK.out.keep hkW (fun _ _ _ h => h), by omega, Nat.zero_le _, HSM.out, by have := HD.out; omega⟩
  rw [← hcs]
  have HRS := Lib.hid hrs
  have HR0 := Lib.hid hR.1
  have HR1 := Lib.hid hR.2.1
  have HCS := Lib.hid hcs
  have HSZ := Lib.hid hsz
  have HKW := Lib.hid hkW
  clear hrs hR hkW hW hB hcs hsz
  refine (lines_any W B cs n 0 d _ T HRS.out).mono ?_
  rintro e w1 ⟨rfl, j1, hj1, ht1, hrs1, hk1⟩
  obtain ⟨r0, r1, r2, f1, f2⟩ := hrs1.cells
  have rlt := hrs1.lt
  rw [List.drop_zero] at ht1
  have hj1T := hrs1.i
  have HS1 := Lib.hid hrs1
  have HK1 := Lib.hid hk1
  have HR01 := Lib.hid (HR0.out.keep hk1 (fun e => by have := HCS.out; omega))
  have HR11 := Lib.hid (HR1.out.keep hk1 (fun e => by have := HCS.out; omega))
  have hjl : (linesF T).length = T.length - j1 := by rw [← ht1, List.length_drop]
  have HT1 := Lib.hid ht1
  clear hrs1 hk1 ht1 HR0 HR1 HRS
  obtain ⟨d0, e0⟩ := HR01.out.one
  obtain ⟨d1, e1⟩ := HR11.out.one
  have glt := HR11.out.lt
  by_cases hem : (linesF T).isEmpty = true
  · have hln : (linesF T).length = 0 := by rw [List.isEmpty_iff] at hem; rw [hem]; rfl
    have t0 : ((j1 : Int) == (L : Int)) = true := by rw [beq_iff_eq]; have := HL.out; omega
    have HRX := Lib.hid (show res = .ok [] by rw [HRES.out, if_pos hem])
    clear hem hln hjl
    go_wp2_with fail
    refine leaves_cons (f := 26) (args := #[.pointer (some ⟨w.heap.size, 0, none⟩), .pointer (some ⟨w.heap.size + 1, 0, none⟩)]) (by simp) (by simp [go_sem]) ?_
    refine (whole_catch_idle _ _ _).mono ?_
    rintro e u' w'' ⟨rfl, rfl, rfl⟩
    obtain ⟨W5, hW5, k0, k1, hk5⟩ := done_cells2 (u := .slice none 0 0) HR01.out HR11.out
    rw [← hW5]
    refine ⟨.tuple #[.slice none 0 0, .int .i64 0], by simp [results, Tryd.results17, go_sem, k0, k1], ?_⟩
    rw [HRX.out]
    have hsz := HSZ.out
    have hcs := HCS.out
    exact ⟨⟨none, 0, 0, rfl, .nil _ _ _ (Nat.zero_le _), (HKW.out.trans HK1.out (fun b hb e => by omega)).trans hk5 (fun b hb e => by omega)⟩, fun _ => rfl⟩
  · have hT : T ≠ [] := fun h => hem (by rw [h]; rfl)
    have hln : (linesF T).length ≠ 0 := fun h => hem (by rw [List.isEmpty_iff]; exact List.eq_nil_of_length_eq_zero h)
    have t0 : ((j1 : Int) == (L : Int)) = false := by rw [beq_eq_false_iff_ne]; have := HL.out; omega
    have HNE := Lib.hid hT
    have HRX := Lib.hid (show res = match allF (commandF K) (linesF T) with
      | .error e => .error e
      | .ok (l, r) => if r.isEmpty then .ok (seqF l) else .error 2 by rw [HRES.out, if_neg hem]; rfl)
    clear hem hln hjl hT HRES
    go_wp2_with fail
    refine (all_any K HC.out w1 B cs n j1 d _ T HS1.out HD.out).mono ?_
    intro e w2 hp
    rw [HT1.out] at hp
    cases hcm : allF (commandF K) (linesF T) with
    | error y =>
      rw [hcm] at hp
      obtain ⟨rfl, hk2⟩ := hp
      have HR := Lib.hid (show res = .error y by rw [HRX.out, hcm])
      have hA := HR01.out.keep hk2 (fun e => by have := HCS.out; omega)
      have hB := HR11.out.keep hk2 (fun e => by have := HCS.out; omega)
      have HA := Lib.hid hA
      have HB := Lib.hid hB
      have HK2 := Lib.hid hk2
      clear hA hB hk2 hcm
      go_wp2_with fail
      refine leaves_cons (f := 26) (args := #[.pointer (some ⟨w.heap.size, 0, none⟩), .pointer (some ⟨w.heap.size + 1, 0, none⟩)]) (by simp) (by simp [go_sem]) ?_
      refine (whole_catch _ _ y _ _ [] _ HA.out.one.1 HB.out.one.1 HA.out.one.2 HB.out.one.2 (by omega) HA.out.lt HB.out.lt).mono ?_
      rintro e u' w'' ⟨rfl, rfl, rfl⟩
      obtain ⟨W4, hW4, k0, k1, hk4⟩ := caught_cells2 (x := y) (o := .cells #[.int .i64 y] 68) HA.out HB.out
      rw [← hW4]
      have k0' : W4.drew.cell? ⟨w.heap.size, 0, none⟩ = some (.slice none 0 0) := k0
      have k1' : W4.drew.cell? ⟨w.heap.size + 1, 0, none⟩ = some (.int .i64 y) := k1
      simp [Leaves, settle, results, Tryd.results17, go_sem, k0', k1']
      refine ⟨?_, fun h => absurd h HNE.out⟩
      rw [HR.out]
      have hsz := HSZ.out
      have hcs := HCS.out
      exact ⟨rfl, ((((HKW.out.trans HK1.out (fun b hb e => by omega)).trans HK2.out (fun b hb e => by omega)).trans hk4 (fun b hb e => by omega)).trans ((Keeps.refl (fun _ => False) W4).drew) (fun _ _ h => h))⟩
    | ok dr =>
      obtain ⟨ds, r⟩ := dr
      rw [hcm] at hp
      obtain ⟨a, m, c, ⟨rfl, j2, hj2, ht2, hrs2, hk2⟩, hal, hrd⟩ := hp
      have HR := Lib.hid (show res = if r.isEmpty then .ok (seqF ds) else .error 2 by rw [HRX.out, hcm])
      have HS2 := Lib.hid hrs2
      have HK2 := Lib.hid hk2
      have HRD := Lib.hid hrd
      have HAL := Lib.hid hal
      have hrl : r.length = T.length - j2 := by rw [← ht2, List.length_drop]
      have hj2T := hrs2.i
      have HR02 := Lib.hid (HR01.out.keep hk2 (fun e => by have := HCS.out; omega))
      have HR12 := Lib.hid (HR11.out.keep hk2 (fun e => by have := HCS.out; omega))
      clear hcm hrs2 hk2 hrd hal ht2 r0 r1 r2 f1 f2 rlt d0 e0 d1 e1 glt
      go_wp2_with fail
      refine (seq_any w2 _ ds a m c HRD.out HAL.out).mono ?_
      rintro e w3 ⟨vs, rfl, hnd, hrd3, hk3⟩
      obtain ⟨kd, bb, ss, a0, n0, c0, a1, n1, c1, a2, n2, c2, a3, n3, c3, a4, n4, c4, rfl⟩ := nd_vals hnd hrd3
      have HND := Lib.hid hnd
      have HRD3 := Lib.hid hrd3
      have HK3 := Lib.hid hk3
      obtain ⟨W4, hW4⟩ : ∃ W4, W4 = w3.alloc (.cells #[.int .i64 kd, .bool bb, .string ss, .slice a0 n0 c0, .slice a1 n1 c1, .slice a2 n2 c2, .slice a3 n3 c3, .slice a4 n4 c4] 40) := ⟨_, rfl⟩
      have hk4 : Keeps (fun _ => False) w2 W4 := by rw [hW4]; exact (HK3.out.trans ((Keeps.refl _ _).alloc _) (fun _ _ h => h))
      obtain ⟨r0, r1, r2, f1, f2⟩ := (HS2.out.keep0 hk4).cells
      have rlt := (HS2.out.keep0 hk4).lt
      have HA := Lib.hid (HR02.out.keep hk4 (fun h => h))
      have HB := Lib.hid (HR12.out.keep hk4 (fun h => h))
      have HN := Lib.hid (show RecAt W4 w3.heap.size [.int .i64 kd, .bool bb, .string ss, .slice a0 n0 c0, .slice a1 n1 c1, .slice a2 n2 c2, .slice a3 n3 c3, .slice a4 n4 c4] by rw [hW4]; exact new_rec8 _ _ _ _ _ _ _ _ _ _)
      have HK4 := Lib.hid hk4
      have HW4 := Lib.hid hW4
      clear hnd hrd3 hk3 hk4 hW4
      by_cases hem : r.isEmpty = true
      · have hln : r.length = 0 := by rw [List.isEmpty_iff] at hem; rw [hem]; rfl
        have t1 : ((j2 : Int) == (L : Int)) = true := by rw [beq_iff_eq]; have := HL.out; omega
        have HF := Lib.hid (show res = .ok (seqF ds) by rw [HR.out, if_pos hem])
        clear hem hln hrl
        go_wp2_with (rw [← HW4.out])
        refine (need_yes W4).mono ?_
        rintro e w5 ⟨rfl, rfl⟩
        obtain ⟨⟨q0, q1, q2, q3, q4, q5, q6, q7⟩, _⟩ := HN.out.eight
        have qlt := HN.out.lt
        obtain ⟨d0, e0⟩ := HA.out.one
        obtain ⟨d1, e1⟩ := HB.out.one
        have glt := HB.out.lt
        have glt0 := HA.out.lt
        go_wp2_with fail
        refine leaves_cons (f := 26) (args := #[.pointer (some ⟨w.heap.size, 0, none⟩), .pointer (some ⟨w.heap.size + 1, 0, none⟩)]) (by simp) (by simp [go_sem]) ?_
        refine (whole_catch_idle _ _ _).mono ?_
        rintro e u' w'' ⟨rfl, rfl, rfl⟩
        obtain ⟨W5, hW5, k0, k1, hk5⟩ := done_cells2 (u := .slice (some ⟨W4.heap.size, 0, none⟩) 1 1) HA.out HB.out
        rw [← hW5]
        obtain ⟨W6, hW6⟩ : ∃ W6, W6 = W5.alloc (.cells #[.int .i64 kd, .bool bb, .string ss, .slice a0 n0 c0, .slice a1 n1 c1, .slice a2 n2 c2, .slice a3 n3 c3, .slice a4 n4 c4] 40) := ⟨_, rfl⟩
        rw [← hW6]
        have hk6 : Keeps (fun _ => False) W5 W6 := by rw [hW6]; exact (Keeps.refl _ _).alloc _
        have hs5 : W5.heap.size = W4.heap.size := by rw [hW5]; simp
        have k0' := (World.cell?_of_block (a := ⟨w.heap.size, 0, none⟩) (hk6.block w.heap.size (by rw [hs5]; exact HA.out.lt) (fun h => h))).trans k0
        have k1' := (World.cell?_of_block (a := ⟨w.heap.size + 1, 0, none⟩) (hk6.block (w.heap.size + 1) (by rw [hs5]; exact HB.out.lt) (fun h => h))).trans k1
        refine ⟨.tuple #[.slice (some ⟨W4.heap.size, 0, none⟩) 1 1, .int .i64 0], by simp [results, Tryd.results17, go_sem, k0', k1'], ?_⟩
        refine ⟨?_, fun h => absurd h HNE.out⟩
        rw [HF.out]
        have hsz := HSZ.out
        have hcs := HCS.out
        have hs1 := HK1.out.size
        have hk35 : Keeps (fun b => b = w.heap.size ∨ b = w.heap.size + 1) w3 W5 := by
          have h34 : Keeps (fun _ => False) w3 W4 := by rw [HW4.out]; exact (Keeps.refl _ _).alloc _
          exact (h34.mono (fun _ _ h => h.elim)).trans hk5 (fun _ _ h => h)
        have hr5 := HRD3.out.keep hk35 (fun b hb h1 e => by omega)
        have hrd6 := rd_lit (w1 := W6) (k := 8) (m := 1) (hr5.mono (D' := fun b => w.heap.size ≤ b) (fun b _ h => by omega)) HND.out.len (by decide) hW6 (by have := HA.out.lt; omega)
        rw [hs5] at hrd6
        exact ⟨_, 1, 1, rfl, hrd6, ((((HKW.out.trans HK1.out (fun b hb e => by omega)).trans HK2.out (fun b hb e => by omega)).trans HK4.out (fun _ _ h => h)).trans hk5 (fun b hb e => by omega)).trans hk6 (fun _ _ h => h)⟩
      · have hln : r.length ≠ 0 := fun h => hem (by rw [List.isEmpty_iff]; exact List.eq_nil_of_length_eq_zero h)
        have t1 : ((j2 : Int) == (L : Int)) = false := by rw [beq_eq_false_iff_ne]; have := HL.out; omega
        have HF := Lib.hid (show res = .error 2 by rw [HR.out, if_neg hem])
        clear hem hln hrl
        go_wp2_with (rw [← HW4.out])
        refine (need_no W4).mono ?_
        rintro e w5 ⟨rfl, rfl⟩
        go_wp2_with fail
        refine leaves_cons (f := 26) (args := #[.pointer (some ⟨w.heap.size, 0, none⟩), .pointer (some ⟨w.heap.size + 1, 0, none⟩)]) (by simp) (by simp [go_sem]) ?_
        refine (whole_catch _ _ 2 _ _ [] _ HA.out.one.1 HB.out.one.1 HA.out.one.2 HB.out.one.2 (by omega) HA.out.lt HB.out.lt).mono ?_
        rintro e u' w'' ⟨rfl, rfl, rfl⟩
        obtain ⟨W5, hW5, k0, k1, hk5⟩ := caught_cells2 (x := 2) (o := .cells #[.int .i64 ((2 : Nat) : Int)] 68) HA.out HB.out
        rw [← hW5]
        have k0' : W5.drew.cell? ⟨w.heap.size, 0, none⟩ = some (.slice none 0 0) := k0
        have k1' : W5.drew.cell? ⟨w.heap.size + 1, 0, none⟩ = some (.int .i64 ((2 : Nat) : Int)) := k1
        simp [Leaves, settle, results, Tryd.results17, go_sem, k0', k1']
        refine ⟨?_, fun h => absurd h HNE.out⟩
        rw [HF.out]
        have hsz := HSZ.out
        have hcs := HCS.out
        exact ⟨rfl, (((((HKW.out.trans HK1.out (fun b hb e => by omega)).trans HK2.out (fun b hb e => by omega)).trans HK4.out (fun _ _ h => h)).trans hk5 (fun b hb e => by omega)).trans ((Keeps.refl (fun _ => False) W5).drew) (fun _ _ h => h))⟩
end Go.Proofs.YtcahifkiiabioaaDoor
namespace Go.Proofs.YtcahifkiiabioaaDoor
open Go.RowKit
set_option linter.unusedVariables false

theorem ScrPost.below {w w1 w' : World} {res : Except Nat (List Dt)} {e : Ending} (hk : Keeps (fun _ => False) w w1) (h : ScrPost w1 res e w') : ScrPost w res e w' := by
  have hs := hk.size
  cases res with
  | ok ds =>
    obtain ⟨a, m, c, he, hr, hk2⟩ := h
    exact ⟨a, m, c, he, hr.mono (fun b _ hb => by omega), hk.trans hk2 (fun _ _ h => h)⟩
  | error x => exact ⟨h.1, hk.trans h.2 (fun _ _ h => h)⟩
theorem scr_shape {w w' : World} {res : Except Nat (List Dt)} {e : Ending} (h : ScrPost w res e w') : ∃ (a : Option Addr) (m c : Nat) (x : Nat), e = .returned (.tuple #[.slice a m c, .int .i64 (x : Nat)]) := by
  cases res with
  | ok ds => obtain ⟨a, m, c, he, _⟩ := h; exact ⟨a, m, c, 0, he⟩
  | error x => exact ⟨none, 0, 0, x, h.1⟩

set_option maxRecDepth 100000 in
set_option maxHeartbeats 4000000 in
theorem script_ok (K : Nat) (hcmd : CmdOK K) : ScrOK K := by
  intro w B s d hev hs hd
  have HC := Lib.hid hcmd
  have HEV := Lib.hid hev
  have HD := Lib.hid hd
  obtain ⟨res, hres⟩ : ∃ res, res = scriptF (commandF K) s.data.toList := ⟨_, rfl⟩
  rw [← hres]
  unfold scriptF at hres
  have HRES := Lib.hid hres
  clear hcmd hev hd hres
  go_enter Tryd.func14, Tryd.ntmps14
  go_wp2_with fail
  refine (tokens_any s w hs).mono ?_
  intro e w1 hp
  cases htk : tokensF s.data.toList with
  | error x =>
    rw [htk] at hp
    obtain ⟨rfl, hk1⟩ := hp
    have HRX := Lib.hid (show res = .error x by rw [HRES.out, htk])
    have HK := Lib.hid hk1
    by_cases h0 : x = 0
    · subst h0
      have HEV1 := Lib.hid (HEV.out.keep hk1 (fun _ _ h => h))
      clear hk1 htk
      go_wp2_with fail
      refine (whole_any K HC.out w1 B 0 d (.slice none 0 0) [] HEV1.out (TksAt.nil _ _ _) ⟨by decide, fun t ht => by cases ht⟩ HD.out).mono ?_
      rintro e w2 ⟨hp, he⟩
      have he := he rfl
      subst he
      have HK2 := Lib.hid (HK.out.trans (show Keeps (fun _ => False) w1 w2 by
        obtain ⟨_, _, _, _, _, h⟩ := hp
        exact h) (fun _ _ h => h))
      clear hp
      go_wp2_with fail
      go_ret2
      rw [HRX.out]
      exact ⟨rfl, HK2.out⟩
    · have hx : ((x : Int) != 0) = true := by
        rw [bne_iff_ne]
        omega
      clear hk1 htk
      go_wp2_with fail
      go_ret2
      rw [HRX.out]
      exact ⟨rfl, HK.out⟩
  | ok T =>
    rw [htk] at hp
    obtain ⟨v, n, rfl, hT, hk1⟩ := hp
    obtain ⟨ta, tc, rfl, _, _⟩ := hT.shape
    have HRX := Lib.hid (show res = treeF (commandF K) T by rw [HRES.out, htk])
    have HSM := Lib.hid (toks_small htk)
    have HK := Lib.hid hk1
    have HT := Lib.hid (show TksAt w1 (fun b => w.heap.size ≤ b ∧ b < w1.heap.size) n T _ from hT.mono fun b hb h => ⟨h, hb⟩)
    have HEV1 := Lib.hid ((HEV.out.keep hk1 (fun _ _ h => h)).mono (B' := w1.heap.size) (by have := HEV.out.low; have := hk1.size; omega) (Nat.le_refl _))
    clear hk1 htk hT
    go_wp2_with fail
    refine (whole_any K HC.out w1 w1.heap.size n d _ T HEV1.out (HT.out.mono fun b hb h => h.2) HSM.out HD.out).mono ?_
    rintro e w2 ⟨hp, _⟩
    rw [← HRX.out] at hp
    have hp2 := hp.below HK.out
    have HP := Lib.hid hp2
    obtain ⟨a, m, c, x, rfl⟩ := scr_shape hp2
    clear hp hp2
    go_wp2_with fail
    go_ret2
    exact HP.out
theorem cmd_all : ∀ K, CmdOK K
  | 0 => command_zero
  | K + 1 => command_succ K (cmd_all K) (script_ok K (cmd_all K))

/-- A script is read. -/
theorem parse_any (w : World) (B : Nat) (s : ByteArray) (hev : Ev w B) (hs : s.size ≤ 140737488351232) :
    Calls Tryd.prog 10 #[.string s] w (ScrPost w (parseF s.data.toList)) := by
  obtain ⟨res, hres⟩ : ∃ res, res = parseF s.data.toList := ⟨_, rfl⟩
  rw [← hres]
  have HRES := Lib.hid hres
  have HEV := Lib.hid hev
  clear hres hev
  go_enter Tryd.func10, Tryd.ntmps10
  go_wp2_with fail
  refine (script_ok 40 (cmd_all 40) w B s 0 HEV.out hs rfl).mono ?_
  intro e w2 hp
  rw [show scriptF (commandF 40) s.data.toList = res from HRES.out.symm] at hp
  have HP := Lib.hid hp
  obtain ⟨a, m, c, x, rfl⟩ := scr_shape hp
  clear hp
  go_wp2_with fail
  go_ret2
  exact HP.out
end Go.Proofs.YtcahifkiiabioaaDoor
