/-
  What stands between do and done; loops.
  What stands behind an if.
  What stands behind a for.
  One arm of a case.
  What stands behind a case.
-/
import Derived.Test.YtcahifkiiabioaaDoorPkF
import Derived.WalkMore
namespace Go.Proofs.YtcahifkiiabioaaDoor
open Go.RowKit
set_option linter.unusedVariables false

set_option maxRecDepth 100000 in
set_option maxHeartbeats 8000000 in
theorem body_any (K : Nat) (hcmd : CmdOK K) (w : World) (B cs n i d : Nat) (tv : Value) (T : List Tk) (h : RS w B cs tv n T i d) (hd : d + K = 40) :
    Calls Tryd.prog 94 #[.pointer (some ⟨cs, 0, none⟩)] w (NodePost w B cs tv n T i d AnyS (bodyF (commandF K) (T.drop i))) := by
  obtain ⟨res, hres⟩ : ∃ res, res = bodyF (commandF K) (T.drop i) := ⟨_, rfl⟩
  rw [← hres]
  unfold bodyF needW at hres
  have hc8 := cells_node
  have HRES := Lib.hid hres
  have HH := Lib.hid h
  have HC := Lib.hid hcmd
  have HD := Lib.hid hd
  have HCS := Lib.hid h.lt
  clear hres h hcmd hd
  go_enter Tryd.func94, Tryd.ntmps94
  go_wp2_with fail
  obtain ⟨W, hW⟩ : ∃ W, W = w.alloc (.cells #[.int .i64 0, .bool false, .string ⟨#[]⟩, .slice none 0 0, .slice none 0 0, .slice none 0 0, .slice none 0 0, .slice none 0 0] 40) := ⟨_, rfl⟩
  have hkW : Keeps (fun _ => False) w W := by rw [hW]; exact (Keeps.refl _ _).alloc _
  have HR := Lib.hid (show RecAt W w.heap.size [.int .i64 0, .bool false, .string ⟨#[]⟩, .slice none 0 0, .slice none 0 0, .slice none 0 0, .slice none 0 0, .slice none 0 0] by rw [hW]; exact new_rec8 _ _ _ _ _ _ _ _ _ _)
  rw [← hW]
  have HKW := Lib.hid hkW
  have HX := Lib.hid (show w.heap.size < W.heap.size by rw [hW]; simp)
  have HXE := Lib.hid (show W.heap.size = w.heap.size + 1 by rw [hW]; simp)
  have HS := Lib.hid (HH.out.keep0 hkW)
  clear hkW hW

  cases hq : isWF [100, 111] (T.drop i) with
  | false =>
    have HRX := Lib.hid (show res = .error 2 by rw [HRES.out, hq]; rfl)
    have HIS := Lib.hid (is_any W B cs n i d tv T [100, 111] false HS.out (by decide) hq)
    clear hq
    refine HIS.out.mono ?_
    rintro e w1 ⟨rfl, j1, hj1, ht1, hrs1, hk1⟩
    have HK3 := Lib.hid ((HKW.out.mono (fun _ _ h => h.elim)).trans hk1 (fun _ _ h => h))
    clear hrs1 hk1 ht1 HIS
    go_wp2_with fail
    refine (need_no _).mono ?_
    rintro e w2 ⟨rfl, rfl⟩
    go_wp2_with fail
    refine ⟨rfl, ?_⟩
    rw [HRX.out]
    exact ⟨rfl, HK3.out⟩
  | true =>
    have HRES1 := Lib.hid (show res = match listF (commandF K) (T.drop i).tail with
      | .error e => .error e
      | .ok (d, r2) => match (if isWF [100, 111, 110, 101] r2 then (.ok ((), r2.tail) : PR Unit) else .error 2) with
        | .error e => .error e
        | .ok (_, r3) => .ok (d, r3) by rw [HRES.out, hq, if_pos rfl]; rfl)
    have HIS := Lib.hid (is_any W B cs n i d tv T [100, 111] true HS.out (by decide) hq)
    clear hq HRES
    refine HIS.out.mono ?_
    rintro e w1 ⟨rfl, j1, hj1, ht1, hrs1, hk1⟩
    have HS1 := Lib.hid hrs1
    have HK1 := Lib.hid hk1
    have HT1 := Lib.hid (show T.drop j1 = (T.drop i).tail from ht1)
    clear hrs1 hk1 ht1 HIS
    go_wp2_with fail
    refine (need_yes _).mono ?_
    rintro e w2 ⟨rfl, rfl⟩
    go_wp2_with fail
    refine (list_any K HC.out w1 B cs n j1 d tv T HS1.out HD.out).mono ?_
    intro e w2 hp
    rw [HT1.out] at hp
    cases hcm : listF (commandF K) (T.drop i).tail with
    | error y =>
      rw [hcm] at hp
      obtain ⟨rfl, hk2⟩ := hp
      have HRX := Lib.hid (show res = .error y by rw [HRES1.out, hcm])
      have HK3 := Lib.hid (((HKW.out.mono (fun _ _ h => h.elim)).trans HK1.out (fun _ _ h => h)).trans hk2 (fun _ _ h => h))
      clear hcm hk2
      go_wp2_with fail
      refine ⟨rfl, ?_⟩
      rw [HRX.out]
      exact ⟨rfl, HK3.out⟩
    | ok dr =>
      obtain ⟨dd, r⟩ := dr
      rw [hcm] at hp
      obtain ⟨vs, ⟨rfl, j2, hj2, ht2, hrs2, hk2⟩, _, hnd, hrd⟩ := hp
      obtain ⟨k, b, s, a0, n0, c0, a1, n1, c1, a2, n2, c2, a3, n3, c3, a4, n4, c4, rfl⟩ := nd_vals hnd hrd
      have HRES2 := Lib.hid (show res = match (if isWF [100, 111, 110, 101] r then (.ok ((), r.tail) : PR Unit) else .error 2) with
        | .error e => .error e
        | .ok (_, r3) => .ok (dd, r3) by rw [HRES1.out, hcm])
      obtain ⟨W2, hW2⟩ : ∃ W2, W2 = w2.alloc (.cells #[.int .i64 k, .bool b, .string s, .slice a0 n0 c0, .slice a1 n1 c1, .slice a2 n2 c2, .slice a3 n3 c3, .slice a4 n4 c4] 40) := ⟨_, rfl⟩
      have hk3 : Keeps (fun _ => False) w2 W2 := by rw [hW2]; exact (Keeps.refl _ _).alloc _
      obtain ⟨N, hN⟩ : ∃ N, N = w2.heap.size := ⟨_, rfl⟩
      have HNR := Lib.hid (show RecAt W2 N [.int .i64 k, .bool b, .string s, .slice a0 n0 c0, .slice a1 n1 c1, .slice a2 n2 c2, .slice a3 n3 c3, .slice a4 n4 c4] by rw [hW2, hN]; exact new_rec8 _ _ _ _ _ _ _ _ _ _)
      have hkk := (HK1.out.trans hk2 (fun _ _ h => h)).trans hk3 (fun _ _ h => h.elim)
      have HKK := Lib.hid hkk
      have HS2 := Lib.hid (hrs2.keep0 hk3)
      have hsz := HK1.out.size
      have HRD := Lib.hid ((hrd.keep hk3 (fun _ _ _ h => h)).mono (D' := fun b => W.heap.size ≤ b) (fun b _ hb => Nat.le_trans hsz hb))
      have HND := Lib.hid hnd
      have HT2 := Lib.hid ht2
      have HNC := Lib.hid (show cs < N by rw [hN]; exact hrs2.lt)
      have HN := Lib.hid hN
      have HW2 := Lib.hid hW2
      clear hcm hk2 hrs2 hrd hnd ht2 hk3 hkk hN hW2
      go_wp2_with fail
      rw [← HW2.out, ← HN.out]
      cases hq2 : isWF [100, 111, 110, 101] (T.drop j2) with
      | false =>
        have HRX := Lib.hid (show res = .error 2 by rw [HRES2.out, ← HT2.out, hq2]; rfl)
        have HIS := Lib.hid (is_any W2 B cs n j2 d tv T [100, 111, 110, 101] false HS2.out (by decide) hq2)
        clear hq2
        refine HIS.out.mono ?_
        rintro e w3 ⟨rfl, j3, hj3, ht3, hrs3, hk3⟩
        have HK3 := Lib.hid (((HKW.out.mono (fun _ _ h => h.elim)).trans HKK.out (fun _ _ h => h)).trans hk3 (fun _ _ h => h))
        clear hrs3 hk3 ht3 HIS
        go_wp2_with fail
        refine (need_no _).mono ?_
        rintro e w4 ⟨rfl, rfl⟩
        go_wp2_with fail
        refine ⟨rfl, ?_⟩
        rw [HRX.out]
        exact ⟨rfl, HK3.out⟩
      | true =>
        have HRX := Lib.hid (show res = .ok (dd, (T.drop j2).tail) by rw [HRES2.out, ← HT2.out, hq2]; rfl)
        have HIS := Lib.hid (is_any W2 B cs n j2 d tv T [100, 111, 110, 101] true HS2.out (by decide) hq2)
        clear hq2
        refine HIS.out.mono ?_
        rintro e w3 ⟨rfl, j3, hj3, ht3, hrs3, hk3⟩
        have hcw := HCS.out
        have hxw := HX.out
        have hnc := HNC.out
        have hkk := HKK.out.trans hk3 (fun _ _ h => h)
        have HK3 := Lib.hid ((HKW.out.mono (fun _ _ h => h.elim)).trans hkk (fun _ _ h => h))
        have HS3 := Lib.hid hrs3
        have HT3 := Lib.hid (show T.drop j3 = (T.drop j2).tail from ht3)
        have HR3 := Lib.hid (HR.out.keep hkk (fun e => by omega))
        have HRD3 := Lib.hid (HRD.out.keep hk3 (fun b _ hb e => by omega))
        obtain ⟨⟨x0, x1, x2, x3, x4, x5, x6, x7⟩, _⟩ := (HNR.out.keep hk3 (fun e => by omega)).eight
        have hnl := (HNR.out.keep hk3 (fun e => by omega)).lt
        clear hrs3 hk3 ht3 hkk HIS
        go_wp2_with fail
        refine (need_yes _).mono ?_
        rintro e w4 ⟨rfl, rfl⟩
        obtain ⟨⟨z0, z1, z2, z3, z4, z5, z6, z7⟩, y0, y1, y2, y3, y4, y5, y6, y7⟩ := HR3.out.eight
        have hzl := HR3.out.lt
        go_wp2_with fail
        refine bodyPost_ret (v := .agg #[.int .i64 k, .bool b, .string s, .slice a0 n0 c0, .slice a1 n1 c1, .slice a2 n2 c2, .slice a3 n3 c3, .slice a4 n4 c4]) (by simp [results, Tryd.results94, go_sem, z0, z1, z2, z3, z4, z5, z6, z7]) rfl ?_
        obtain ⟨f1, f2, f3⟩ := nd_fin HK3.out HS3.out HX.out HCS.out HRD3.out (set8_keeps w3 w.heap.size (.int .i64 k) (.bool b) (.string s) (.slice a0 n0 c0) (.slice a1 n1 c1) (.slice a2 n2 c2) (.slice a3 n3 c3) (.slice a4 n4 c4))
        rw [HRX.out]
        exact ⟨[.int .i64 k, .bool b, .string s, .slice a0 n0 c0, .slice a1 n1 c1, .slice a2 n2 c2, .slice a3 n3 c3, .slice a4 n4 c4], ⟨rfl, _, by omega, HT3.out, f1, f2⟩, trivial, HND.out, f3⟩

set_option maxRecDepth 100000 in
set_option maxHeartbeats 8000000 in
theorem loop_any (K : Nat) (hcmd : CmdOK K) (w : World) (B cs n i d kind : Nat) (tv : Value) (T : List Tk) (h : RS w B cs tv n T i d) (hd : d + K = 40) :
    Calls Tryd.prog 84 #[.pointer (some ⟨cs, 0, none⟩), .int .i64 (kind : Nat)] w (NodePost w B cs tv n T i d BareS (whileF (commandF K) kind (T.drop i))) := by
  obtain ⟨res, hres⟩ : ∃ res, res = whileF (commandF K) kind (T.drop i) := ⟨_, rfl⟩
  rw [← hres]
  unfold whileF at hres
  have hc8 := cells_node
  obtain ⟨i0, hi0, hz0, hz1, hz2⟩ := info_parts info_node
  have HRES := Lib.hid hres
  have HH := Lib.hid h
  have HC := Lib.hid hcmd
  have HD := Lib.hid hd
  have HCS := Lib.hid h.lt
  clear hres h hcmd hd
  go_enter Tryd.func84, Tryd.ntmps84
  go_wp2_with fail
  obtain ⟨W, hW⟩ : ∃ W, W = w.alloc (.cells #[.int .i64 0, .bool false, .string ⟨#[]⟩, .slice none 0 0, .slice none 0 0, .slice none 0 0, .slice none 0 0, .slice none 0 0] 40) := ⟨_, rfl⟩
  have hkW : Keeps (fun _ => False) w W := by rw [hW]; exact (Keeps.refl _ _).alloc _
  have HR := Lib.hid (show RecAt W w.heap.size [.int .i64 0, .bool false, .string ⟨#[]⟩, .slice none 0 0, .slice none 0 0, .slice none 0 0, .slice none 0 0, .slice none 0 0] by rw [hW]; exact new_rec8 _ _ _ _ _ _ _ _ _ _)
  rw [← hW]
  have HKW := Lib.hid hkW
  have HX := Lib.hid (show w.heap.size < W.heap.size by rw [hW]; simp)
  have HXE := Lib.hid (show W.heap.size = w.heap.size + 1 by rw [hW]; simp)
  have HS := Lib.hid (HH.out.keep0 hkW)
  clear hkW hW

  refine (list_any K HC.out W B cs n i d tv T HS.out HD.out).mono ?_
  intro e w2 hp
  cases hcm : listF (commandF K) (T.drop i) with
  | error y =>
    rw [hcm] at hp
    obtain ⟨rfl, hk2⟩ := hp
    have HRX := Lib.hid (show res = .error y by rw [HRES.out, hcm])
    have HK3 := Lib.hid ((HKW.out.mono (fun _ _ h => h.elim)).trans hk2 (fun _ _ h => h))
    clear hcm hk2
    go_wp2_with fail
    refine ⟨rfl, ?_⟩
    rw [HRX.out]
    exact ⟨rfl, HK3.out⟩
  | ok dr =>
    obtain ⟨acc, r⟩ := dr
    rw [hcm] at hp
    obtain ⟨vs, ⟨rfl, j2, hj2, ht2, hrs2, hk2⟩, _, hnd, hrd⟩ := hp
    obtain ⟨k, b, s, a0, n0, c0, a1, n1, c1, a2, n2, c2, a3, n3, c3, a4, n4, c4, rfl⟩ := nd_vals hnd hrd
    have HRES1 := Lib.hid (show res = match bodyF (commandF K) (T.drop j2) with
      | .error e => .error e
      | .ok (b, r2) => .ok (ndR kind false [] [] [] [] (acc ++ b) [], r2) by rw [HRES.out, hcm]; dsimp only; rw [ht2]; rfl)
    obtain ⟨wa, hwa⟩ : ∃ wa, wa = w2.alloc (.cells #[.int .i64 k, .bool b, .string s, .slice a0 n0 c0, .slice a1 n1 c1, .slice a2 n2 c2, .slice a3 n3 c3, .slice a4 n4 c4] 40) := ⟨_, rfl⟩
    have hli := LI.one (w0 := W) (k := 8) (Ty := 40) (w1 := wa) hrs2 hrd hk2 rfl hwa
    obtain ⟨wr, hwr⟩ : ∃ wr, wr = wa.alloc (.cells #[.int .i64 (kind : Nat), .bool false, .string ⟨#[]⟩, .slice none 0 0, .slice none 0 0, .slice none 0 0, .slice (some ⟨w2.heap.size, 0, none⟩) 1 1, .slice none 0 0] 40) := ⟨_, rfl⟩
    have hk3 : Keeps (fun _ => False) wa wr := by rw [hwr]; exact (Keeps.refl _ _).alloc _
    have hza : wa.heap.size = w2.heap.size + 1 := by rw [hwa]; simp
    obtain ⟨N, hN⟩ : ∃ N, N = w2.heap.size + 1 := ⟨_, rfl⟩
    obtain ⟨X, hX⟩ : ∃ X, X = W.heap.size := ⟨_, rfl⟩
    have hl3 := hli.keep0 hk3
    have hcw := HCS.out
    have hxw := HX.out
    have hsz := hk2.size
    have HG := Lib.hid (show GI w wr B cs tv n T d X N [.int .i64 0, .bool false, .string ⟨#[]⟩, .slice none 0 0, .slice none 0 0, .slice none 0 0, .slice none 0 0, .slice none 0 0] [.int (kind : Nat), .bool false, .str [], .sl 1 [], .sl 2 [], .sl 2 []] [.sl 2 []] [.int .i64 (kind : Nat), .bool false, .string ⟨#[]⟩, .slice none 0 0, .slice none 0 0, .slice none 0 0] [.slice none 0 0] 8 40 j2 1 (some ⟨w2.heap.size, 0, none⟩) 1 acc from
      ⟨hl3.rs, (HKW.out.mono (fun _ _ h => h.elim)).trans hl3.kp (fun _ _ h => h), HR.out.keep hl3.kp (fun e => by omega), by rw [hwr, hN, ← hza]; exact new_rec8 _ _ _ _ _ _ _ _ _ _,
        ((by
          obtain ⟨us, hu, ho⟩ := hli.own
          exact ⟨us, (hu.lt.keep hk3 (fun _ _ _ e => e)).mono fun b _ hb => ⟨⟨by have := hb.1.1; omega, by have := hb.2; omega⟩, hb.1.2⟩, by rw [hwr]; exact ho.alloc _⟩) : OwnD wr (fun b => X ≤ b ∧ b ≠ N) (.slice (some ⟨w2.heap.size, 0, none⟩) 1 1) 8 40 1 acc),
        fun g hg => by have h3 : w2.heap.size = g := Option.some.inj hg; omega, ⟨.int _, .bool _, .str _, .nil _ _ _ (Nat.zero_le _), .nil _ _ _ (Nat.zero_le _), .nil _ _ _ (Nat.zero_le _), trivial⟩, ⟨.nil _ _ _ (Nat.zero_le _), trivial⟩⟩)
    have HXN := Lib.hid (show w.heap.size < X ∧ w.heap.size < N by omega)
    have HXS := Lib.hid (show X ≤ w.heap.size + 1 by have := HXE.out; omega)
    have HWR := Lib.hid hwr
    have HWA := Lib.hid hwa
    have HN := Lib.hid hN
    have HJ := Lib.hid hj2
    clear hcm hk2 hrs2 hrd hnd ht2 hk3 hN hX hwr hwa hza hl3 hli hsz hxw hcw HRES
    go_wp2_with fail
    rw [← HWA.out, ← HWR.out, ← HN.out]
    obtain ⟨la, hla⟩ : ∃ la, la = some (⟨w2.heap.size, 0, none⟩ : Addr) := ⟨_, rfl⟩
    rw [← hla] at HG
    clear hla HWR HWA
    have hXw := HXN.out.1
    have HXW := Lib.hid (show X ≤ wr.heap.size by have h1 := HG.out.zr.lt; have h2 := HXS.out; omega)
    obtain ⟨⟨x0, x1, x2, x3, x4, x5, x6, x7⟩, ⟨xf0, xf1, xf2, xf3, xf4, xf5, xf6, xf7⟩⟩ := (show RecAt wr N [.int .i64 (kind : Nat), .bool false, .string ⟨#[]⟩, .slice none 0 0, .slice none 0 0, .slice none 0 0, .slice la 1 1, .slice none 0 0] from HG.out.rc).eight
    have hNl := HG.out.rc.lt
    cases hcm : bodyF (commandF K) (T.drop j2) with
    | error y =>
      have HRX := Lib.hid (show res = .error y by rw [HRES1.out, hcm])
      have HCM := Lib.hid hcm
      clear hcm
      go_wp2_with fail
      refine wp_region_held_drew (S := (fun w' => RecAt w' N [.int .i64 (kind : Nat), .bool false, .string ⟨#[]⟩, .slice none 0 0, .slice none 0 0, .slice none 0 0, .slice la 1 1, .slice none 0 0])) (by kernel_rfl) (HG.out.rc.keep (S := fun _ => False) (Keeps.refl _ _).drew (fun h => h)) (fun hHeld => ?_)
      refine wpAnyH_take (i := 0) (v := .pointer (some ⟨N, 6, none⟩)) rfl (by kernel_rfl) (by kernel_rfl) (by kernel_rfl) (fun _ _ _ h => h) (Or.inl ⟨by rfl, ?_⟩) hHeld ?_
      · (intro ww hSw; have ⟨⟨g0, g1, g2, g3, g4, g5, g6, g7⟩, _⟩ := RecAt.eight hSw; go_simp; all_goals (first | done | with_reducible rfl))
      refine wpAnyH_take (i := 1) (v := .slice la 1 1) rfl (by kernel_rfl) (by kernel_rfl) (by kernel_rfl) (fun _ _ _ h => h) (Or.inl ⟨by rfl, ?_⟩) hHeld ?_
      · (intro ww hSw; have ⟨⟨g0, g1, g2, g3, g4, g5, g6, g7⟩, _⟩ := RecAt.eight hSw; go_simp; all_goals (first | done | with_reducible rfl))
      refine wpAnyH_take (i := 2) (v := .pointer (some ⟨cs, 0, none⟩)) rfl (by kernel_rfl) (by kernel_rfl) (by kernel_rfl) (fun _ _ _ h => h) (Or.inl ⟨by rfl, ?_⟩) hHeld ?_
      · (intro ww hSw; have ⟨⟨g0, g1, g2, g3, g4, g5, g6, g7⟩, _⟩ := RecAt.eight hSw; go_simp; all_goals (first | done | with_reducible rfl))
      refine wpAnyH_ready (rs := [3]) (by kernel_rfl) (by simp) ?_
      refine AllReadyH.cons rfl (fun KK hK => ?_) AllReadyH.nil
      go_simp
      go_at_call 94
      refine (body_any K HC.out _ B cs n j2 d tv T (HG.out.rs.keep0 (Keeps.refl _ _).drew) HD.out).mono ?_
      rw [HCM.out]
      rintro e w4 ⟨rfl, hk4⟩
      have HK4 := Lib.hid ((HG.out.kp.drew).trans hk4 (fun _ _ h => h))
      clear hk4
      go_wp2_with fail
      refine ⟨rfl, ?_⟩
      rw [HRX.out]
      exact ⟨rfl, HK4.out⟩
    | ok dr =>
      obtain ⟨d2, r2⟩ := dr
      have HRX := Lib.hid (show res = .ok (ndR kind false [] [] [] [] (acc ++ d2) [], r2) by rw [HRES1.out, hcm])
      have HCM := Lib.hid hcm
      clear hcm
      have HCALL := Lib.hid (show ∀ e w4, NodePost wr.drew B cs tv n T j2 d AnyS (.ok (d2, r2)) e w4 → ∃ (j4 : Nat) (k : Int) (b : Bool) (s : ByteArray) (a0 : Option Addr) (n0 c0 : Nat) (a1 : Option Addr) (n1 c1 : Nat) (a2 : Option Addr) (n2 c2 : Nat) (a3 : Option Addr) (n3 c3 : Nat) (a4 : Option Addr) (n4 c4 : Nat) (xs : List Value), e = .returned (.agg #[.int .i64 k, .bool b, .string s, .slice a0 n0 c0, .slice a1 n1 c1, .slice a2 n2 c2, .slice a3 n3 c3, .slice a4 n4 c4]) ∧ (j2 ≤ j4 ∧ j4 ≤ T.length ∧ T.drop j4 = r2 ∧ NdD d2) ∧ w4.ownsRow 0 40 8 (.slice la 1 1) 1 xs ∧ RecAt w4 N [.int .i64 (kind : Nat), .bool false, .string ⟨#[]⟩, .slice none 0 0, .slice none 0 0, .slice none 0 0, .slice la 1 1, .slice none 0 0] ∧
          (∀ (gg cap : Nat) (w5 : World) (o : Obj), w5.ownsRow 0 40 8 (.slice (some ⟨gg, 0, none⟩) (1 + 1) cap) (1 + 1) (xs ++ [.int .i64 k, .bool b, .string s, .slice a0 n0 c0, .slice a1 n1 c1, .slice a2 n2 c2, .slice a3 n3 c3, .slice a4 n4 c4]) → (w4.alloc o).grownBy w5 (Value.slice la 1 1).ownBlock → ((Value.slice la 1 1).ownBlock = some gg ∨ gg = w4.heap.size + 1) →
            RecAt w5 N [.int .i64 (kind : Nat), .bool false, .string ⟨#[]⟩, .slice none 0 0, .slice none 0 0, .slice none 0 0, .slice la 1 1, .slice none 0 0] ∧ GI w (w5.setCell ⟨N, 6, none⟩ (.slice (some ⟨gg, 0, none⟩) (1 + 1) cap)) B cs tv n T d X N [.int .i64 0, .bool false, .string ⟨#[]⟩, .slice none 0 0, .slice none 0 0, .slice none 0 0, .slice none 0 0, .slice none 0 0] [.int (kind : Nat), .bool false, .str [], .sl 1 [], .sl 2 [], .sl 2 []] [.sl 2 []] [.int .i64 (kind : Nat), .bool false, .string ⟨#[]⟩, .slice none 0 0, .slice none 0 0, .slice none 0 0] [.slice none 0 0] 8 40 j4 (1 + 1) (some ⟨gg, 0, none⟩) cap (acc ++ d2)) from fun e w4 hp => by
        obtain ⟨vs, ⟨he, j4, hj4, ht4, hrs4, hk4⟩, _, hnd4, hrd4⟩ := hp
        obtain ⟨k, b, s, a0, n0, c0, a1, n1, c1, a2, n2, c2, a3, n3, c3, a4, n4, c4, rfl⟩ := nd_vals hnd4 hrd4
        obtain ⟨xs, ho, hrec, hF⟩ := HG.out.more HCS.out HXN.out.1 HXN.out.2 HXW.out ((Keeps.refl (fun b => b = cs) wr).drew.trans hk4 (fun _ _ h => h)) hrs4 hrd4
        exact ⟨j4, k, b, s, a0, n0, c0, a1, n1, c1, a2, n2, c2, a3, n3, c3, a4, n4, c4, xs, he, ⟨hj4, hrs4.i, ht4, hnd4⟩, ho, hrec, hF⟩)
      go_wp2_with fail
      go_region_law (first
        | (refine step_append_lies _ (by rfl) _ _ _ (by rfl) 0 40 i0 _ 8 152 Tryd.underlying24 hi0 hz0 hz1 hz2 rfl (by omega) (.slice la 1 1) 1 xs (by rfl) (hown4.alloc _)
            ⟨w4.heap.size, 0, none⟩ 1 1 [.int .i64 k, .bool b, .string s, .slice a0 n0 c0, .slice a1 n1 c1, .slice a2 n2 c2, .slice a3 n3 c3, .slice a4 n4 c4] (by rfl) (by rfl) (World.news_of_block (cs := #[.int .i64 k, .bool b, .string s, .slice a0 n0 c0, .slice a1 n1 c1, .slice a2 n2 c2, .slice a3 n3 c3, .slice a4 n4 c4]) (t := 40) (fr := (0, 0)) (heap_alloc_new w4 _)) (by simp [Value.oneCell'])
            (by omega) (by unfold maxLen; omega) (by omega) (by simp) (w4.heap.size + 1) (by simp) ?_; intro gg cap w5 hown2 hgrow hat hlt5
           obtain ⟨hrec5, hG5⟩ := HF.out gg cap w5 _ hown2 hgrow hat
           obtain ⟨⟨z0, z1, z2, z3, z4, z5, z6, z7⟩, ⟨zf0, zf1, zf2, zf3, zf4, zf5, zf6, zf7⟩⟩ := RecAt.eight hrec5
           have hN5 := hrec5.lt
           have HG5 := Lib.hid hG5
           clear hrec5 hG5 hown2 hgrow hat)
        | (go_simp; go_at_call 94; refine (body_any K HC.out _ B cs n j2 d tv T (HG.out.rs.keep0 (Keeps.refl _ _).drew) HD.out).mono ?_; rw [HCM.out]; intro e w4 hp; obtain ⟨j4, k, b, s, a0, n0, c0, a1, n1, c1, a2, n2, c2, a3, n3, c3, a4, n4, c4, xs, he, hJ4, hown4, hrec4, hF⟩ := HCALL.out e w4 hp; subst he; obtain ⟨⟨y0, y1, y2, y3, y4, y5, y6, y7⟩, ⟨yf0, yf1, yf2, yf3, yf4, yf5, yf6, yf7⟩⟩ := RecAt.eight hrec4; have hN4 := hrec4.lt; have HF := Lib.hid hF; have HJ4 := Lib.hid hJ4; clear hp hF hJ4 hrec4))
      all_goals
        obtain ⟨w3, hw3⟩ : ∃ w3, w3 = w5.setCell ⟨N, 6, none⟩ (.slice (some ⟨gg, 0, none⟩) (1 + 1) cap) := ⟨_, rfl⟩
        rw [← hw3] at HG5
        have hrec := (show RecAt w3 N [.int .i64 (kind : Nat), .bool false, .string ⟨#[]⟩, .slice none 0 0, .slice none 0 0, .slice none 0 0, .slice (some ⟨gg, 0, none⟩) (1 + 1) cap, .slice none 0 0] from HG5.out.rc)
        obtain ⟨⟨v0, v1, v2, v3, v4, v5, v6, v7⟩, _⟩ := hrec.eight
        have hnl := hrec.lt
        have HR3 := Lib.hid HG5.out.zr
        have HK3 := Lib.hid HG5.out.kp
        have HS3 := Lib.hid HG5.out.rs
        have HRD3 := Lib.hid HG5.out.all
        have HX3 := Lib.hid HXN.out.1
        have HND := Lib.hid (show NdD (ndR kind false [] [] [] [] (acc ++ d2) []) from ⟨_, _, _, _, _, _, _, _, rfl⟩)
        have HT4 := Lib.hid HJ4.out.2.2.1
        rw [← hw3]
        clear hw3 hrec
        obtain ⟨⟨z0, z1, z2, z3, z4, z5, z6, z7⟩, y0, y1, y2, y3, y4, y5, y6, y7⟩ := HR3.out.eight
        have hzl := HR3.out.lt
        go_wp2_with fail
        refine bodyPost_ret (v := .agg #[.int .i64 (kind : Nat), .bool false, .string ⟨#[]⟩, .slice none 0 0, .slice none 0 0, .slice none 0 0, .slice (some ⟨gg, 0, none⟩) (1 + 1) cap, .slice none 0 0]) (by simp [results, Tryd.results84, go_sem, z0, z1, z2, z3, z4, z5, z6, z7]) rfl ?_
        obtain ⟨f1, f2, f3⟩ := nd_fin HK3.out HS3.out HX3.out HCS.out HRD3.out (set8_keeps w3 w.heap.size (.int .i64 (kind : Nat)) (.bool false) (.string ⟨#[]⟩) (.slice none 0 0) (.slice none 0 0) (.slice none 0 0) (.slice (some ⟨gg, 0, none⟩) (1 + 1) cap) (.slice none 0 0))
        rw [HRX.out]
        exact ⟨[.int .i64 (kind : Nat), .bool false, .string ⟨#[]⟩, .slice none 0 0, .slice none 0 0, .slice none 0 0, .slice (some ⟨gg, 0, none⟩) (1 + 1) cap, .slice none 0 0], ⟨rfl, _, by have h1 := HJ.out; have h2 := HJ4.out.1; omega, HT4.out, f1, f2⟩, rfl, HND.out, f3⟩
end Go.Proofs.YtcahifkiiabioaaDoor
namespace Go.Proofs.YtcahifkiiabioaaDoor
open Go.RowKit
set_option linter.unusedVariables false

def choiceEnd (p : PR (List Dt)) : PR (List Dt) := match p with
  | .error e => .error e
  | .ok (l, r) => match needW [102, 105] r with
    | .error e => .error e
    | .ok (_, r2) => .ok (ndR 6 false [] [] [] [] l [], r2)
def chC (cmd : List Tk → PR (List Dt)) (M : Nat) (acc : List Dt) (r : List Tk) : PR (List Dt) :=
  if isWF [101, 108, 105, 102] r then choiceLoop cmd M acc r.tail
  else if isWF [101, 108, 115, 101] r then (match listF cmd r.tail with
    | .error e => .error e
    | .ok (x, r3) => .ok (acc ++ x, r3))
  else .ok (acc, r)
def chB (cmd : List Tk → PR (List Dt)) (M : Nat) (acc : List Dt) (r : List Tk) : PR (List Dt) := match needW [116, 104, 101, 110] r with
  | .error e => .error e
  | .ok (_, r1) => match listF cmd r1 with
    | .error e => .error e
    | .ok (b, r2) => chC cmd M (acc ++ b) r2
theorem choice_succ (cmd : List Tk → PR (List Dt)) (M : Nat) (acc : List Dt) (ts : List Tk) : choiceLoop cmd (M + 1) acc ts = match listF cmd ts with
    | .error e => .error e
    | .ok (c, r) => chB cmd M (acc ++ c) r := by
  conv => lhs; unfold choiceLoop
  unfold chB chC
  cases listF cmd ts with
  | error y => rfl
  | ok x =>
    obtain ⟨c, r⟩ := x
    dsimp only
    cases needW [116, 104, 101, 110] r with
    | error y => rfl
    | ok z =>
      obtain ⟨u, r1⟩ := z
      dsimp only
      cases listF cmd r1 with
      | error y => rfl
      | ok b => rfl
theorem choice_eq (cmd : List Tk → PR (List Dt)) (ts : List Tk) : choiceF cmd ts = choiceEnd (choiceLoop cmd (ts.length + 1) [] ts) := by
  unfold choiceF choiceEnd
  cases choiceLoop cmd (ts.length + 1) [] ts with
  | error y => rfl
  | ok x =>
    obtain ⟨c, r⟩ := x
    dsimp only
    cases needW [102, 105] r with
    | error y => rfl
    | ok z => rfl

set_option maxRecDepth 100000 in
set_option maxHeartbeats 16000000 in
theorem choice_any (K : Nat) (hcmd : CmdOK K) (w : World) (B cs n i d : Nat) (tv : Value) (T : List Tk) (h : RS w B cs tv n T i d) (hd : d + K = 40) :
    Calls Tryd.prog 83 #[.pointer (some ⟨cs, 0, none⟩)] w (NodePost w B cs tv n T i d BareS (choiceF (commandF K) (T.drop i))) := by
  obtain ⟨res, hres⟩ : ∃ res, res = choiceF (commandF K) (T.drop i) := ⟨_, rfl⟩
  rw [← hres]
  rw [choice_eq, List.length_drop] at hres
  have hc8 := cells_node
  obtain ⟨i0, hi0, hz0, hz1, hz2⟩ := info_parts info_node
  have HRES := Lib.hid hres
  have HH := Lib.hid h
  have HC := Lib.hid hcmd
  have HD := Lib.hid hd
  have HCS := Lib.hid h.lt
  clear hres h hcmd hd
  go_enter Tryd.func83, Tryd.ntmps83
  go_wp2_with fail
  obtain ⟨W, hW⟩ : ∃ W, W = w.alloc (.cells #[.int .i64 0, .bool false, .string ⟨#[]⟩, .slice none 0 0, .slice none 0 0, .slice none 0 0, .slice none 0 0, .slice none 0 0] 40) := ⟨_, rfl⟩
  have hkW : Keeps (fun _ => False) w W := by rw [hW]; exact (Keeps.refl _ _).alloc _
  have HR := Lib.hid (show RecAt W w.heap.size [.int .i64 0, .bool false, .string ⟨#[]⟩, .slice none 0 0, .slice none 0 0, .slice none 0 0, .slice none 0 0, .slice none 0 0] by rw [hW]; exact new_rec8 _ _ _ _ _ _ _ _ _ _)
  rw [← hW]
  have HKW := Lib.hid hkW
  have HX := Lib.hid (show w.heap.size < W.heap.size by rw [hW]; simp)
  have HXE := Lib.hid (show W.heap.size = w.heap.size + 1 by rw [hW]; simp)
  have HS := Lib.hid (HH.out.keep0 hkW)

  obtain ⟨wr, hwr⟩ : ∃ wr, wr = W.alloc (.cells #[.int .i64 6, .bool false, .string ⟨#[]⟩, .slice none 0 0, .slice none 0 0, .slice none 0 0, .slice none 0 0, .slice none 0 0] 40) := ⟨_, rfl⟩
  have hk3 : Keeps (fun _ => False) W wr := by rw [hwr]; exact (Keeps.refl _ _).alloc _
  obtain ⟨N, hN⟩ : ∃ N, N = W.heap.size := ⟨_, rfl⟩
  obtain ⟨X, hX⟩ : ∃ X, X = W.heap.size := ⟨_, rfl⟩
  have hxw := HX.out
  have HG0 := Lib.hid (show GI w wr B cs tv n T d X N [.int .i64 0, .bool false, .string ⟨#[]⟩, .slice none 0 0, .slice none 0 0, .slice none 0 0, .slice none 0 0, .slice none 0 0] [.int ((6 : Nat) : Int), .bool false, .str [], .sl 1 [], .sl 2 [], .sl 2 []] [.sl 2 []] [.int .i64 6, .bool false, .string ⟨#[]⟩, .slice none 0 0, .slice none 0 0, .slice none 0 0] [.slice none 0 0] 8 40 i 0 none 0 [] from
      ⟨HS.out.keep0 hk3, (HKW.out.mono (fun _ _ h => h.elim)).trans hk3 (fun _ _ h => h.elim), HR.out.keep hk3 (fun h => h), by rw [hwr, hN]; exact new_rec8 _ _ _ _ _ _ _ _ _ _, OwnD.nil _ _ _ _, fun g hg => (by cases hg), ⟨.int _, .bool _, .str _, .nil _ _ _ (Nat.zero_le _), .nil _ _ _ (Nat.zero_le _), .nil _ _ _ (Nat.zero_le _), trivial⟩, ⟨.nil _ _ _ (Nat.zero_le _), trivial⟩⟩)
  have HXN := Lib.hid (show w.heap.size < X ∧ w.heap.size < N by omega)
  have HXS := Lib.hid (show X ≤ w.heap.size + 1 by rw [hX, hW]; simp)
  have HN := Lib.hid hN
  have HWR := Lib.hid hwr
  clear hkW hW hk3 hN hX hwr hxw
  go_step3
  go_wp2_with fail
  rw [← HWR.out, ← HN.out]
  clear HWR
  go_step3
  go_wp2_with fail
  go_loopg [] (T.length - i) (fun g wr => ∃ (I M m : Nat) (la : Option Addr) (lc : Nat) (acc : List Dt), g = T.length - I ∧ i ≤ I ∧ m ≤ I ∧ T.length - I + 1 ≤ M ∧ Hid (GI w wr B cs tv n T d X N [.int .i64 0, .bool false, .string ⟨#[]⟩, .slice none 0 0, .slice none 0 0, .slice none 0 0, .slice none 0 0, .slice none 0 0] [.int ((6 : Nat) : Int), .bool false, .str [], .sl 1 [], .sl 2 [], .sl 2 []] [.sl 2 []] [.int .i64 6, .bool false, .string ⟨#[]⟩, .slice none 0 0, .slice none 0 0, .slice none 0 0] [.slice none 0 0] 8 40 I m la lc acc) ∧ Hid (res = choiceEnd (choiceLoop (commandF K) M acc (T.drop I))))
  case atStart => exact ⟨i, _, 0, none, 0, [], rfl, Nat.le_refl _, Nat.zero_le _, Nat.le_refl _, HG0, HRES⟩
  case round =>
    obtain ⟨I, M, m, la, lc, acc, hgk, hiI, hmI, hM, HG, HRL⟩ := hrel
    have HGK := Lib.hid hgk
    have hIT := HG.out.rs.i
    have hT2 := HG.out.rs.sm.1
    obtain ⟨M, rfl⟩ : ∃ M', M = M' + 1 := ⟨M - 1, by omega⟩
    clear hgk HG0 HRES
    have hXw := HXN.out.1
    have HXW := Lib.hid (show X ≤ wr.heap.size by have h1 := HG.out.zr.lt; have h2 := HXS.out; omega)
    obtain ⟨⟨x0, x1, x2, x3, x4, x5, x6, x7⟩, ⟨xf0, xf1, xf2, xf3, xf4, xf5, xf6, xf7⟩⟩ := (show RecAt wr N [.int .i64 6, .bool false, .string ⟨#[]⟩, .slice none 0 0, .slice none 0 0, .slice none 0 0, .slice la m lc, .slice none 0 0] from HG.out.rc).eight
    have hNl := HG.out.rc.lt
    cases hcm : listF (commandF K) (T.drop I) with
    | error y =>
      have HRX := Lib.hid (show res = .error y by rw [HRL.out, choice_succ, hcm]; rfl)
      have HCM := Lib.hid hcm
      clear hcm
      go_wp2_with fail
      refine wp_region_held_drew (S := (fun w' => RecAt w' N [.int .i64 6, .bool false, .string ⟨#[]⟩, .slice none 0 0, .slice none 0 0, .slice none 0 0, .slice la m lc, .slice none 0 0])) (by kernel_rfl) (HG.out.rc.keep (S := fun _ => False) (Keeps.refl _ _).drew (fun h => h)) (fun hHeld => ?_)
      refine wpAnyH_take (i := 0) (v := .pointer (some ⟨N, 6, none⟩)) rfl (by kernel_rfl) (by kernel_rfl) (by kernel_rfl) (fun _ _ _ h => h) (Or.inl ⟨by rfl, ?_⟩) hHeld ?_
      · (intro ww hSw; have ⟨⟨g0, g1, g2, g3, g4, g5, g6, g7⟩, _⟩ := RecAt.eight hSw; go_simp; all_goals (first | done | with_reducible rfl))
      refine wpAnyH_take (i := 1) (v := .slice la m lc) rfl (by kernel_rfl) (by kernel_rfl) (by kernel_rfl) (fun _ _ _ h => h) (Or.inl ⟨by rfl, ?_⟩) hHeld ?_
      · (intro ww hSw; have ⟨⟨g0, g1, g2, g3, g4, g5, g6, g7⟩, _⟩ := RecAt.eight hSw; go_simp; all_goals (first | done | with_reducible rfl))
      refine wpAnyH_take (i := 2) (v := .pointer (some ⟨cs, 0, none⟩)) rfl (by kernel_rfl) (by kernel_rfl) (by kernel_rfl) (fun _ _ _ h => h) (Or.inl ⟨by rfl, ?_⟩) hHeld ?_
      · (intro ww hSw; have ⟨⟨g0, g1, g2, g3, g4, g5, g6, g7⟩, _⟩ := RecAt.eight hSw; go_simp; all_goals (first | done | with_reducible rfl))
      refine wpAnyH_ready (rs := [3]) (by kernel_rfl) (by simp) ?_
      refine AllReadyH.cons rfl (fun KK hK => ?_) AllReadyH.nil
      go_simp
      go_at_call 82
      refine (list_any K HC.out _ B cs n I d tv T (HG.out.rs.keep0 (Keeps.refl _ _).drew) HD.out).mono ?_
      rw [HCM.out]
      rintro e w4 ⟨rfl, hk4⟩
      have HK4 := Lib.hid ((HG.out.kp.drew).trans hk4 (fun _ _ h => h))
      clear hk4
      go_wp2_with fail
      refine ⟨rfl, ?_⟩
      rw [HRX.out]
      exact ⟨rfl, HK4.out⟩
    | ok dr =>
      obtain ⟨d2, r2⟩ := dr
      have HRX := Lib.hid (show res = choiceEnd (chB (commandF K) M (acc ++ d2) r2) by rw [HRL.out, choice_succ, hcm])
      have HCM := Lib.hid hcm
      clear hcm
      have HCALL := Lib.hid (show ∀ e w4, NodePost wr.drew B cs tv n T I d AnyS (.ok (d2, r2)) e w4 → ∃ (j4 : Nat) (k : Int) (b : Bool) (s : ByteArray) (a0 : Option Addr) (n0 c0 : Nat) (a1 : Option Addr) (n1 c1 : Nat) (a2 : Option Addr) (n2 c2 : Nat) (a3 : Option Addr) (n3 c3 : Nat) (a4 : Option Addr) (n4 c4 : Nat) (xs : List Value), e = .returned (.agg #[.int .i64 k, .bool b, .string s, .slice a0 n0 c0, .slice a1 n1 c1, .slice a2 n2 c2, .slice a3 n3 c3, .slice a4 n4 c4]) ∧ (I ≤ j4 ∧ j4 ≤ T.length ∧ T.drop j4 = r2 ∧ NdD d2) ∧ w4.ownsRow 0 40 8 (.slice la m lc) m xs ∧ RecAt w4 N [.int .i64 6, .bool false, .string ⟨#[]⟩, .slice none 0 0, .slice none 0 0, .slice none 0 0, .slice la m lc, .slice none 0 0] ∧
          (∀ (gg cap : Nat) (w5 : World) (o : Obj), w5.ownsRow 0 40 8 (.slice (some ⟨gg, 0, none⟩) (m + 1) cap) (m + 1) (xs ++ [.int .i64 k, .bool b, .string s, .slice a0 n0 c0, .slice a1 n1 c1, .slice a2 n2 c2, .slice a3 n3 c3, .slice a4 n4 c4]) → (w4.alloc o).grownBy w5 (Value.slice la m lc).ownBlock → ((Value.slice la m lc).ownBlock = some gg ∨ gg = w4.heap.size + 1) →
            RecAt w5 N [.int .i64 6, .bool false, .string ⟨#[]⟩, .slice none 0 0, .slice none 0 0, .slice none 0 0, .slice la m lc, .slice none 0 0] ∧ GI w (w5.setCell ⟨N, 6, none⟩ (.slice (some ⟨gg, 0, none⟩) (m + 1) cap)) B cs tv n T d X N [.int .i64 0, .bool false, .string ⟨#[]⟩, .slice none 0 0, .slice none 0 0, .slice none 0 0, .slice none 0 0, .slice none 0 0] [.int ((6 : Nat) : Int), .bool false, .str [], .sl 1 [], .sl 2 [], .sl 2 []] [.sl 2 []] [.int .i64 6, .bool false, .string ⟨#[]⟩, .slice none 0 0, .slice none 0 0, .slice none 0 0] [.slice none 0 0] 8 40 j4 (m + 1) (some ⟨gg, 0, none⟩) cap (acc ++ d2)) from fun e w4 hp => by
        obtain ⟨vs, ⟨he, j4, hj4, ht4, hrs4, hk4⟩, _, hnd4, hrd4⟩ := hp
        obtain ⟨k, b, s, a0, n0, c0, a1, n1, c1, a2, n2, c2, a3, n3, c3, a4, n4, c4, rfl⟩ := nd_vals hnd4 hrd4
        obtain ⟨xs, ho, hrec, hF⟩ := HG.out.more HCS.out HXN.out.1 HXN.out.2 HXW.out ((Keeps.refl (fun b => b = cs) wr).drew.trans hk4 (fun _ _ h => h)) hrs4 hrd4
        exact ⟨j4, k, b, s, a0, n0, c0, a1, n1, c1, a2, n2, c2, a3, n3, c3, a4, n4, c4, xs, he, ⟨hj4, hrs4.i, ht4, hnd4⟩, ho, hrec, hF⟩)
      go_upto_region 2 with fail
      go_cut [] from 5 to 11 (fun wx => ∃ (j4 : Nat) (la2 : Option Addr) (lc2 : Nat) (wy : World), wy = wx ∧ (I ≤ j4 ∧ j4 ≤ T.length ∧ T.drop j4 = r2) ∧ Hid (GI w wy B cs tv n T d X N [.int .i64 0, .bool false, .string ⟨#[]⟩, .slice none 0 0, .slice none 0 0, .slice none 0 0, .slice none 0 0, .slice none 0 0] [.int ((6 : Nat) : Int), .bool false, .str [], .sl 1 [], .sl 2 [], .sl 2 []] [.sl 2 []] [.int .i64 6, .bool false, .string ⟨#[]⟩, .slice none 0 0, .slice none 0 0, .slice none 0 0] [.slice none 0 0] 8 40 j4 (m + 1) la2 lc2 (acc ++ d2)))
      case first =>
        go_wp2_with fail
        go_region_law (first
          | (refine step_append_lies _ (by rfl) _ _ _ (by rfl) 0 40 i0 _ 8 152 Tryd.underlying24 hi0 hz0 hz1 hz2 rfl (by omega) (.slice la m lc) m xs (by rfl) (hown4.alloc _)
              ⟨w4.heap.size, 0, none⟩ 1 1 [.int .i64 k, .bool b, .string s, .slice a0 n0 c0, .slice a1 n1 c1, .slice a2 n2 c2, .slice a3 n3 c3, .slice a4 n4 c4] (by rfl) (by rfl) (World.news_of_block (cs := #[.int .i64 k, .bool b, .string s, .slice a0 n0 c0, .slice a1 n1 c1, .slice a2 n2 c2, .slice a3 n3 c3, .slice a4 n4 c4]) (t := 40) (fr := (0, 0)) (heap_alloc_new w4 _)) (by simp [Value.oneCell'])
              (by omega) (by unfold maxLen; omega) (by omega) (by simp) (w4.heap.size + 1) (by simp) ?_; intro gg cap w5 hown2 hgrow hat hlt5
             obtain ⟨hrec5, hG5⟩ := HF.out gg cap w5 _ hown2 hgrow hat
             obtain ⟨⟨z0, z1, z2, z3, z4, z5, z6, z7⟩, ⟨zf0, zf1, zf2, zf3, zf4, zf5, zf6, zf7⟩⟩ := RecAt.eight hrec5
             have hN5 := hrec5.lt
             have HG5 := Lib.hid hG5
             clear hrec5 hG5 hown2 hgrow hat)
          | (go_simp; go_at_call 82; refine (list_any K HC.out _ B cs n I d tv T (HG.out.rs.keep0 (Keeps.refl _ _).drew) HD.out).mono ?_; rw [HCM.out]; intro e w4 hp; obtain ⟨j4, k, b, s, a0, n0, c0, a1, n1, c1, a2, n2, c2, a3, n3, c3, a4, n4, c4, xs, he, hJ4, hown4, hrec4, hF⟩ := HCALL.out e w4 hp; subst he; obtain ⟨⟨y0, y1, y2, y3, y4, y5, y6, y7⟩, ⟨yf0, yf1, yf2, yf3, yf4, yf5, yf6, yf7⟩⟩ := RecAt.eight hrec4; have hN4 := hrec4.lt; have HF := Lib.hid hF; have HJ4 := Lib.hid hJ4; clear hp hF hJ4 hrec4))
        all_goals
          go_wp2_with fail
          go_meet
          case rel => exact ⟨j4, _, _, _, rfl, ⟨HJ4.out.1, HJ4.out.2.1, HJ4.out.2.2.1⟩, HG5⟩
      case rest =>
        obtain ⟨j5, la2, lc2, wx, hwx, hJ4, HG2⟩ := hcut
        subst hwx
        obtain ⟨acc2, hacc2⟩ : ∃ x, x = acc ++ d2 := ⟨_, rfl⟩
        rw [← hacc2] at HG2
        have HACC := Lib.hid hacc2
        have HJ4 := Lib.hid hJ4
        clear hacc2 hJ4
        have hj5a := HJ4.out.1
        have hj5T := HJ4.out.2.1
        have HRL2 := Lib.hid (show res = choiceEnd (chB (commandF K) M acc2 (T.drop j5)) by rw [HRX.out, HJ4.out.2.2, HACC.out])
        clear HJ4 HRX HACC
        cases hq : isWF [116, 104, 101, 110] (T.drop j5) with
        | false =>
          have HRX := Lib.hid (show res = .error 2 by rw [HRL2.out]; unfold chB needW; rw [hq]; rfl)
          have HIS := Lib.hid (is_any wx B cs n j5 d tv T [116, 104, 101, 110] false HG2.out.rs (by decide) hq)
          clear hq
          go_wp2_with fail
          refine HIS.out.mono ?_
          rintro e wz ⟨rfl, jz, hjz, htz, hrsz, hkz⟩
          have HK3 := Lib.hid (HG2.out.kp.trans hkz (fun _ _ h => h))
          clear hrsz hkz htz HIS
          go_wp2_with fail
          refine (need_no _).mono ?_
          rintro e wy ⟨rfl, rfl⟩
          go_wp2_with fail
          refine ⟨rfl, ?_⟩
          rw [HRX.out]
          exact ⟨rfl, HK3.out⟩
        | true =>
          have HRE := Lib.hid (show res = choiceEnd (match listF (commandF K) (T.drop j5).tail with
            | .error e => .error e
            | .ok (b, r2) => chC (commandF K) M (acc2 ++ b) r2) by rw [HRL2.out]; unfold chB needW; rw [hq, if_pos rfl])
          have HIS := Lib.hid (is_any wx B cs n j5 d tv T [116, 104, 101, 110] true HG2.out.rs (by decide) hq)
          have hpz := toks_pos (isW_pos (by decide) hq)
          clear hq
          go_wp2_with fail
          refine HIS.out.mono ?_
          rintro e w6 ⟨rfl, j6, hj6, htj6, hrsz, hkz⟩
          have HG6 := Lib.hid (HG2.out.move HCS.out HXN.out.1 HXN.out.2 hkz hrsz)
          have HTj6 := Lib.hid (show T.drop j6 = (T.drop j5).tail from htj6)
          have hj6' : j5 + 1 ≤ j6 := by
            have := congrArg List.length HTj6.out
            rw [List.length_drop, List.length_tail, List.length_drop] at this
            omega
          have j6T := hrsz.i
          clear hrsz hkz htj6 HIS
          go_wp2_with fail
          refine (need_yes _).mono ?_
          rintro e wy ⟨rfl, rfl⟩
          have HRL6 := Lib.hid (show res = choiceEnd (match listF (commandF K) (T.drop j6) with
            | .error e => .error e
            | .ok (b, r2) => chC (commandF K) M (acc2 ++ b) r2) by rw [HRE.out, HTj6.out])
          clear HG2 HRE HRL2
          have hXw := HXN.out.1
          have HXW := Lib.hid (show X ≤ w6.heap.size by have h1 := HG6.out.zr.lt; have h2 := HXS.out; omega)
          obtain ⟨⟨x0, x1, x2, x3, x4, x5, x6, x7⟩, ⟨xf0, xf1, xf2, xf3, xf4, xf5, xf6, xf7⟩⟩ := (show RecAt w6 N [.int .i64 6, .bool false, .string ⟨#[]⟩, .slice none 0 0, .slice none 0 0, .slice none 0 0, .slice la2 (m + 1) lc2, .slice none 0 0] from HG6.out.rc).eight
          have hNl := HG6.out.rc.lt
          cases hcm : listF (commandF K) (T.drop j6) with
          | error y =>
            have HRX := Lib.hid (show res = .error y by rw [HRL6.out, hcm]; rfl)
            have HCM := Lib.hid hcm
            clear hcm
            go_wp2_with fail
            refine wp_region_held_drew (S := (fun w' => RecAt w' N [.int .i64 6, .bool false, .string ⟨#[]⟩, .slice none 0 0, .slice none 0 0, .slice none 0 0, .slice la2 (m + 1) lc2, .slice none 0 0])) (by kernel_rfl) (HG6.out.rc.keep (S := fun _ => False) (Keeps.refl _ _).drew (fun h => h)) (fun hHeld => ?_)
            refine wpAnyH_take (i := 0) (v := .pointer (some ⟨N, 6, none⟩)) rfl (by kernel_rfl) (by kernel_rfl) (by kernel_rfl) (fun _ _ _ h => h) (Or.inl ⟨by rfl, ?_⟩) hHeld ?_
            · (intro ww hSw; have ⟨⟨g0, g1, g2, g3, g4, g5, g6, g7⟩, _⟩ := RecAt.eight hSw; go_simp; all_goals (first | done | with_reducible rfl))
            refine wpAnyH_take (i := 1) (v := .slice la2 (m + 1) lc2) rfl (by kernel_rfl) (by kernel_rfl) (by kernel_rfl) (fun _ _ _ h => h) (Or.inl ⟨by rfl, ?_⟩) hHeld ?_
            · (intro ww hSw; have ⟨⟨g0, g1, g2, g3, g4, g5, g6, g7⟩, _⟩ := RecAt.eight hSw; go_simp; all_goals (first | done | with_reducible rfl))
            refine wpAnyH_take (i := 2) (v := .pointer (some ⟨cs, 0, none⟩)) rfl (by kernel_rfl) (by kernel_rfl) (by kernel_rfl) (fun _ _ _ h => h) (Or.inl ⟨by rfl, ?_⟩) hHeld ?_
            · (intro ww hSw; have ⟨⟨g0, g1, g2, g3, g4, g5, g6, g7⟩, _⟩ := RecAt.eight hSw; go_simp; all_goals (first | done | with_reducible rfl))
            refine wpAnyH_ready (rs := [3]) (by kernel_rfl) (by simp) ?_
            refine AllReadyH.cons rfl (fun KK hK => ?_) AllReadyH.nil
            go_simp
            go_at_call 82
            refine (list_any K HC.out _ B cs n j6 d tv T (HG6.out.rs.keep0 (Keeps.refl _ _).drew) HD.out).mono ?_
            rw [HCM.out]
            rintro e w4 ⟨rfl, hk4⟩
            have HK4 := Lib.hid ((HG6.out.kp.drew).trans hk4 (fun _ _ h => h))
            clear hk4
            go_wp2_with fail
            refine ⟨rfl, ?_⟩
            rw [HRX.out]
            exact ⟨rfl, HK4.out⟩
          | ok dr =>
            obtain ⟨d2, r2⟩ := dr
            have HRX := Lib.hid (show res = choiceEnd (chC (commandF K) M (acc2 ++ d2) r2) by rw [HRL6.out, hcm])
            have HCM := Lib.hid hcm
            clear hcm
            have HCALL := Lib.hid (show ∀ e w4, NodePost w6.drew B cs tv n T j6 d AnyS (.ok (d2, r2)) e w4 → ∃ (j4 : Nat) (k : Int) (b : Bool) (s : ByteArray) (a0 : Option Addr) (n0 c0 : Nat) (a1 : Option Addr) (n1 c1 : Nat) (a2 : Option Addr) (n2 c2 : Nat) (a3 : Option Addr) (n3 c3 : Nat) (a4 : Option Addr) (n4 c4 : Nat) (xs : List Value), e = .returned (.agg #[.int .i64 k, .bool b, .string s, .slice a0 n0 c0, .slice a1 n1 c1, .slice a2 n2 c2, .slice a3 n3 c3, .slice a4 n4 c4]) ∧ (j6 ≤ j4 ∧ j4 ≤ T.length ∧ T.drop j4 = r2 ∧ NdD d2) ∧ w4.ownsRow 0 40 8 (.slice la2 (m + 1) lc2) (m + 1) xs ∧ RecAt w4 N [.int .i64 6, .bool false, .string ⟨#[]⟩, .slice none 0 0, .slice none 0 0, .slice none 0 0, .slice la2 (m + 1) lc2, .slice none 0 0] ∧
                (∀ (gg cap : Nat) (w5 : World) (o : Obj), w5.ownsRow 0 40 8 (.slice (some ⟨gg, 0, none⟩) ((m + 1) + 1) cap) ((m + 1) + 1) (xs ++ [.int .i64 k, .bool b, .string s, .slice a0 n0 c0, .slice a1 n1 c1, .slice a2 n2 c2, .slice a3 n3 c3, .slice a4 n4 c4]) → (w4.alloc o).grownBy w5 (Value.slice la2 (m + 1) lc2).ownBlock → ((Value.slice la2 (m + 1) lc2).ownBlock = some gg ∨ gg = w4.heap.size + 1) →
                  RecAt w5 N [.int .i64 6, .bool false, .string ⟨#[]⟩, .slice none 0 0, .slice none 0 0, .slice none 0 0, .slice la2 (m + 1) lc2, .slice none 0 0] ∧ GI w (w5.setCell ⟨N, 6, none⟩ (.slice (some ⟨gg, 0, none⟩) ((m + 1) + 1) cap)) B cs tv n T d X N [.int .i64 0, .bool false, .string ⟨#[]⟩, .slice none 0 0, .slice none 0 0, .slice none 0 0, .slice none 0 0, .slice none 0 0] [.int ((6 : Nat) : Int), .bool false, .str [], .sl 1 [], .sl 2 [], .sl 2 []] [.sl 2 []] [.int .i64 6, .bool false, .string ⟨#[]⟩, .slice none 0 0, .slice none 0 0, .slice none 0 0] [.slice none 0 0] 8 40 j4 ((m + 1) + 1) (some ⟨gg, 0, none⟩) cap (acc2 ++ d2)) from fun e w4 hp => by
              obtain ⟨vs, ⟨he, j4, hj4, ht4, hrs4, hk4⟩, _, hnd4, hrd4⟩ := hp
              obtain ⟨k, b, s, a0, n0, c0, a1, n1, c1, a2, n2, c2, a3, n3, c3, a4, n4, c4, rfl⟩ := nd_vals hnd4 hrd4
              obtain ⟨xs, ho, hrec, hF⟩ := HG6.out.more HCS.out HXN.out.1 HXN.out.2 HXW.out ((Keeps.refl (fun b => b = cs) w6).drew.trans hk4 (fun _ _ h => h)) hrs4 hrd4
              exact ⟨j4, k, b, s, a0, n0, c0, a1, n1, c1, a2, n2, c2, a3, n3, c3, a4, n4, c4, xs, he, ⟨hj4, hrs4.i, ht4, hnd4⟩, ho, hrec, hF⟩)
            go_upto_region 4 with fail
            go_cut [] from 15 to 21 (fun wx => ∃ (j4 : Nat) (la2 : Option Addr) (lc2 : Nat) (wy : World), wy = wx ∧ (j6 ≤ j4 ∧ j4 ≤ T.length ∧ T.drop j4 = r2) ∧ Hid (GI w wy B cs tv n T d X N [.int .i64 0, .bool false, .string ⟨#[]⟩, .slice none 0 0, .slice none 0 0, .slice none 0 0, .slice none 0 0, .slice none 0 0] [.int ((6 : Nat) : Int), .bool false, .str [], .sl 1 [], .sl 2 [], .sl 2 []] [.sl 2 []] [.int .i64 6, .bool false, .string ⟨#[]⟩, .slice none 0 0, .slice none 0 0, .slice none 0 0] [.slice none 0 0] 8 40 j4 ((m + 1) + 1) la2 lc2 (acc2 ++ d2)))
            case first =>
              go_wp2_with fail
              go_region_law (first
                | (refine step_append_lies _ (by rfl) _ _ _ (by rfl) 0 40 i0 _ 8 152 Tryd.underlying24 hi0 hz0 hz1 hz2 rfl (by omega) (.slice la2 (m + 1) lc2) (m + 1) xs (by rfl) (hown4.alloc _)
                    ⟨w4.heap.size, 0, none⟩ 1 1 [.int .i64 k, .bool b, .string s, .slice a0 n0 c0, .slice a1 n1 c1, .slice a2 n2 c2, .slice a3 n3 c3, .slice a4 n4 c4] (by rfl) (by rfl) (World.news_of_block (cs := #[.int .i64 k, .bool b, .string s, .slice a0 n0 c0, .slice a1 n1 c1, .slice a2 n2 c2, .slice a3 n3 c3, .slice a4 n4 c4]) (t := 40) (fr := (0, 0)) (heap_alloc_new w4 _)) (by simp [Value.oneCell'])
                    (by omega) (by unfold maxLen; omega) (by omega) (by simp) (w4.heap.size + 1) (by simp) ?_; intro gg cap w5 hown2 hgrow hat hlt5
                   obtain ⟨hrec5, hG5⟩ := HF.out gg cap w5 _ hown2 hgrow hat
                   obtain ⟨⟨z0, z1, z2, z3, z4, z5, z6, z7⟩, ⟨zf0, zf1, zf2, zf3, zf4, zf5, zf6, zf7⟩⟩ := RecAt.eight hrec5
                   have hN5 := hrec5.lt
                   have HG5 := Lib.hid hG5
                   clear hrec5 hG5 hown2 hgrow hat)
                | (go_simp; go_at_call 82; refine (list_any K HC.out _ B cs n j6 d tv T (HG6.out.rs.keep0 (Keeps.refl _ _).drew) HD.out).mono ?_; rw [HCM.out]; intro e w4 hp; obtain ⟨j4, k, b, s, a0, n0, c0, a1, n1, c1, a2, n2, c2, a3, n3, c3, a4, n4, c4, xs, he, hJ4, hown4, hrec4, hF⟩ := HCALL.out e w4 hp; subst he; obtain ⟨⟨y0, y1, y2, y3, y4, y5, y6, y7⟩, ⟨yf0, yf1, yf2, yf3, yf4, yf5, yf6, yf7⟩⟩ := RecAt.eight hrec4; have hN4 := hrec4.lt; have HF := Lib.hid hF; have HJ4 := Lib.hid hJ4; clear hp hF hJ4 hrec4))
              all_goals
                go_wp2_with fail
                go_meet
                case rel => exact ⟨j4, _, _, _, rfl, ⟨HJ4.out.1, HJ4.out.2.1, HJ4.out.2.2.1⟩, HG5⟩
            case rest =>
              obtain ⟨j7, la3, lc3, wx, hwx, hJ4, HG7⟩ := hcut
              subst hwx
              obtain ⟨acc3, hacc2⟩ : ∃ x, x = acc2 ++ d2 := ⟨_, rfl⟩
              rw [← hacc2] at HG7
              have HACC := Lib.hid hacc2
              have HJ4 := Lib.hid hJ4
              clear hacc2 hJ4
              have hj7a := HJ4.out.1
              have hj7T := HJ4.out.2.1
              have HRL7 := Lib.hid (show res = choiceEnd (chC (commandF K) M acc3 (T.drop j7)) by rw [HRX.out, HJ4.out.2.2, HACC.out])
              clear HJ4
              cases hq : isWF [101, 108, 105, 102] (T.drop j7) with
              | true =>
                have HRE := Lib.hid (show res = choiceEnd (choiceLoop (commandF K) M acc3 (T.drop j7).tail) by rw [HRL7.out]; unfold chC; rw [hq, if_pos rfl])
                have HIS := Lib.hid (is_any wx B cs n j7 d tv T [101, 108, 105, 102] true HG7.out.rs (by decide) hq)
                have hpz := toks_pos (isW_pos (by decide) hq)
                clear hq
                go_wp2_with fail
                refine HIS.out.mono ?_
                rintro e wa ⟨rfl, ja, hja, htja, hrsz, hkz⟩
                have HGA := Lib.hid (HG7.out.move HCS.out HXN.out.1 HXN.out.2 hkz hrsz)
                have HTja := Lib.hid (show T.drop ja = (T.drop j7).tail from htja)
                have hja' : j7 + 1 ≤ ja := by
                  have := congrArg List.length HTja.out
                  rw [List.length_drop, List.length_tail, List.length_drop] at this
                  omega
                have jaT := hrsz.i
                clear hrsz hkz htja HIS
                have HRN := Lib.hid (show res = choiceEnd (choiceLoop (commandF K) M acc3 (T.drop ja)) by rw [HRE.out, HTja.out])
                go_wp2_with fail
                go_roundg (T.length - ja)
                case measure => have := HGK.out; omega
                case rel => exact ⟨ja, M, m + 1 + 1, la3, lc3, acc3, rfl, by omega, by omega, by omega, HGA, HRN⟩
              | false =>
                have HRE0 := Lib.hid (show res = choiceEnd (if isWF [101, 108, 115, 101] (T.drop j7) then (match listF (commandF K) (T.drop j7).tail with
                  | .error e => .error e
                  | .ok (x, r3) => .ok (acc3 ++ x, r3)) else .ok (acc3, T.drop j7)) by rw [HRL7.out]; unfold chC; rw [hq, if_neg (by simp)])
                have HIS := Lib.hid (is_any wx B cs n j7 d tv T [101, 108, 105, 102] false HG7.out.rs (by decide) hq)
                clear hq
                go_wp2_with fail
                refine HIS.out.mono ?_
                rintro e wa ⟨rfl, ja, hja, htja, hrsz, hkz⟩
                have HGA := Lib.hid (HG7.out.move HCS.out HXN.out.1 HXN.out.2 hkz hrsz)
                have HTja := Lib.hid (show T.drop ja = T.drop j7 from htja)
                have jaT := hrsz.i
                clear hrsz hkz htja HIS
                clear HG7
                cases hq : isWF [101, 108, 115, 101] (T.drop ja) with
                | true =>
                  have HRE := Lib.hid (show res = choiceEnd (match listF (commandF K) (T.drop ja).tail with
                    | .error e => .error e
                    | .ok (x, r3) => .ok (acc3 ++ x, r3)) by rw [HRE0.out, ← HTja.out, hq, if_pos rfl])
                  have HIS := Lib.hid (is_any wa B cs n ja d tv T [101, 108, 115, 101] true HGA.out.rs (by decide) hq)
                  have hpz := toks_pos (isW_pos (by decide) hq)
                  clear hq
                  go_wp2_with fail
                  refine HIS.out.mono ?_
                  rintro e w8 ⟨rfl, j8, hj8, htj8, hrsz, hkz⟩
                  have HG8 := Lib.hid (HGA.out.move HCS.out HXN.out.1 HXN.out.2 hkz hrsz)
                  have HTj8 := Lib.hid (show T.drop j8 = (T.drop ja).tail from htj8)
                  have hj8' : ja + 1 ≤ j8 := by
                    have := congrArg List.length HTj8.out
                    rw [List.length_drop, List.length_tail, List.length_drop] at this
                    omega
                  have j8T := hrsz.i
                  clear hrsz hkz htj8 HIS
                  have HRL8 := Lib.hid (show res = choiceEnd (match listF (commandF K) (T.drop j8) with
                    | .error e => .error e
                    | .ok (x, r3) => .ok (acc3 ++ x, r3)) by rw [HRE.out, HTj8.out])
                  clear HGA HRE HRE0 HRX HACC
                  have hXw := HXN.out.1
                  have HXW := Lib.hid (show X ≤ w8.heap.size by have h1 := HG8.out.zr.lt; have h2 := HXS.out; omega)
                  obtain ⟨⟨x0, x1, x2, x3, x4, x5, x6, x7⟩, ⟨xf0, xf1, xf2, xf3, xf4, xf5, xf6, xf7⟩⟩ := (show RecAt w8 N [.int .i64 6, .bool false, .string ⟨#[]⟩, .slice none 0 0, .slice none 0 0, .slice none 0 0, .slice la3 (m + 1 + 1) lc3, .slice none 0 0] from HG8.out.rc).eight
                  have hNl := HG8.out.rc.lt
                  cases hcm : listF (commandF K) (T.drop j8) with
                  | error y =>
                    have HRX := Lib.hid (show res = .error y by rw [HRL8.out, hcm]; rfl)
                    have HCM := Lib.hid hcm
                    clear hcm
                    go_wp2_with fail
                    refine wp_region_held_drew (S := (fun w' => RecAt w' N [.int .i64 6, .bool false, .string ⟨#[]⟩, .slice none 0 0, .slice none 0 0, .slice none 0 0, .slice la3 (m + 1 + 1) lc3, .slice none 0 0])) (by kernel_rfl) (HG8.out.rc.keep (S := fun _ => False) (Keeps.refl _ _).drew (fun h => h)) (fun hHeld => ?_)
                    refine wpAnyH_take (i := 0) (v := .pointer (some ⟨N, 6, none⟩)) rfl (by kernel_rfl) (by kernel_rfl) (by kernel_rfl) (fun _ _ _ h => h) (Or.inl ⟨by rfl, ?_⟩) hHeld ?_
                    · (intro ww hSw; have ⟨⟨g0, g1, g2, g3, g4, g5, g6, g7⟩, _⟩ := RecAt.eight hSw; go_simp; all_goals (first | done | with_reducible rfl))
                    refine wpAnyH_take (i := 1) (v := .slice la3 (m + 1 + 1) lc3) rfl (by kernel_rfl) (by kernel_rfl) (by kernel_rfl) (fun _ _ _ h => h) (Or.inl ⟨by rfl, ?_⟩) hHeld ?_
                    · (intro ww hSw; have ⟨⟨g0, g1, g2, g3, g4, g5, g6, g7⟩, _⟩ := RecAt.eight hSw; go_simp; all_goals (first | done | with_reducible rfl))
                    refine wpAnyH_take (i := 2) (v := .pointer (some ⟨cs, 0, none⟩)) rfl (by kernel_rfl) (by kernel_rfl) (by kernel_rfl) (fun _ _ _ h => h) (Or.inl ⟨by rfl, ?_⟩) hHeld ?_
                    · (intro ww hSw; have ⟨⟨g0, g1, g2, g3, g4, g5, g6, g7⟩, _⟩ := RecAt.eight hSw; go_simp; all_goals (first | done | with_reducible rfl))
                    refine wpAnyH_ready (rs := [3]) (by kernel_rfl) (by simp) ?_
                    refine AllReadyH.cons rfl (fun KK hK => ?_) AllReadyH.nil
                    go_simp
                    go_at_call 82
                    refine (list_any K HC.out _ B cs n j8 d tv T (HG8.out.rs.keep0 (Keeps.refl _ _).drew) HD.out).mono ?_
                    rw [HCM.out]
                    rintro e w4 ⟨rfl, hk4⟩
                    have HK4 := Lib.hid ((HG8.out.kp.drew).trans hk4 (fun _ _ h => h))
                    clear hk4
                    go_wp2_with fail
                    refine ⟨rfl, ?_⟩
                    rw [HRX.out]
                    exact ⟨rfl, HK4.out⟩
                  | ok dr =>
                    obtain ⟨d2, r2⟩ := dr
                    have HRX := Lib.hid (show res = choiceEnd (.ok (acc3 ++ d2, r2)) by rw [HRL8.out, hcm])
                    have HCM := Lib.hid hcm
                    clear hcm
                    have HCALL := Lib.hid (show ∀ e w4, NodePost w8.drew B cs tv n T j8 d AnyS (.ok (d2, r2)) e w4 → ∃ (j4 : Nat) (k : Int) (b : Bool) (s : ByteArray) (a0 : Option Addr) (n0 c0 : Nat) (a1 : Option Addr) (n1 c1 : Nat) (a2 : Option Addr) (n2 c2 : Nat) (a3 : Option Addr) (n3 c3 : Nat) (a4 : Option Addr) (n4 c4 : Nat) (xs : List Value), e = .returned (.agg #[.int .i64 k, .bool b, .string s, .slice a0 n0 c0, .slice a1 n1 c1, .slice a2 n2 c2, .slice a3 n3 c3, .slice a4 n4 c4]) ∧ (j8 ≤ j4 ∧ j4 ≤ T.length ∧ T.drop j4 = r2 ∧ NdD d2) ∧ w4.ownsRow 0 40 8 (.slice la3 (m + 1 + 1) lc3) (m + 1 + 1) xs ∧ RecAt w4 N [.int .i64 6, .bool false, .string ⟨#[]⟩, .slice none 0 0, .slice none 0 0, .slice none 0 0, .slice la3 (m + 1 + 1) lc3, .slice none 0 0] ∧
                        (∀ (gg cap : Nat) (w5 : World) (o : Obj), w5.ownsRow 0 40 8 (.slice (some ⟨gg, 0, none⟩) ((m + 1 + 1) + 1) cap) ((m + 1 + 1) + 1) (xs ++ [.int .i64 k, .bool b, .string s, .slice a0 n0 c0, .slice a1 n1 c1, .slice a2 n2 c2, .slice a3 n3 c3, .slice a4 n4 c4]) → (w4.alloc o).grownBy w5 (Value.slice la3 (m + 1 + 1) lc3).ownBlock → ((Value.slice la3 (m + 1 + 1) lc3).ownBlock = some gg ∨ gg = w4.heap.size + 1) →
                          RecAt w5 N [.int .i64 6, .bool false, .string ⟨#[]⟩, .slice none 0 0, .slice none 0 0, .slice none 0 0, .slice la3 (m + 1 + 1) lc3, .slice none 0 0] ∧ GI w (w5.setCell ⟨N, 6, none⟩ (.slice (some ⟨gg, 0, none⟩) ((m + 1 + 1) + 1) cap)) B cs tv n T d X N [.int .i64 0, .bool false, .string ⟨#[]⟩, .slice none 0 0, .slice none 0 0, .slice none 0 0, .slice none 0 0, .slice none 0 0] [.int ((6 : Nat) : Int), .bool false, .str [], .sl 1 [], .sl 2 [], .sl 2 []] [.sl 2 []] [.int .i64 6, .bool false, .string ⟨#[]⟩, .slice none 0 0, .slice none 0 0, .slice none 0 0] [.slice none 0 0] 8 40 j4 ((m + 1 + 1) + 1) (some ⟨gg, 0, none⟩) cap (acc3 ++ d2)) from fun e w4 hp => by
                      obtain ⟨vs, ⟨he, j4, hj4, ht4, hrs4, hk4⟩, _, hnd4, hrd4⟩ := hp
                      obtain ⟨k, b, s, a0, n0, c0, a1, n1, c1, a2, n2, c2, a3, n3, c3, a4, n4, c4, rfl⟩ := nd_vals hnd4 hrd4
                      obtain ⟨xs, ho, hrec, hF⟩ := HG8.out.more HCS.out HXN.out.1 HXN.out.2 HXW.out ((Keeps.refl (fun b => b = cs) w8).drew.trans hk4 (fun _ _ h => h)) hrs4 hrd4
                      exact ⟨j4, k, b, s, a0, n0, c0, a1, n1, c1, a2, n2, c2, a3, n3, c3, a4, n4, c4, xs, he, ⟨hj4, hrs4.i, ht4, hnd4⟩, ho, hrec, hF⟩)
                    go_wp2_with fail
                    go_region_law (first
                      | (refine step_append_lies _ (by rfl) _ _ _ (by rfl) 0 40 i0 _ 8 152 Tryd.underlying24 hi0 hz0 hz1 hz2 rfl (by omega) (.slice la3 (m + 1 + 1) lc3) (m + 1 + 1) xs (by rfl) (hown4.alloc _)
                          ⟨w4.heap.size, 0, none⟩ 1 1 [.int .i64 k, .bool b, .string s, .slice a0 n0 c0, .slice a1 n1 c1, .slice a2 n2 c2, .slice a3 n3 c3, .slice a4 n4 c4] (by rfl) (by rfl) (World.news_of_block (cs := #[.int .i64 k, .bool b, .string s, .slice a0 n0 c0, .slice a1 n1 c1, .slice a2 n2 c2, .slice a3 n3 c3, .slice a4 n4 c4]) (t := 40) (fr := (0, 0)) (heap_alloc_new w4 _)) (by simp [Value.oneCell'])
                          (by omega) (by unfold maxLen; omega) (by omega) (by simp) (w4.heap.size + 1) (by simp) ?_; intro gg cap w5 hown2 hgrow hat hlt5
                         obtain ⟨hrec5, hG5⟩ := HF.out gg cap w5 _ hown2 hgrow hat
                         obtain ⟨⟨z0, z1, z2, z3, z4, z5, z6, z7⟩, ⟨zf0, zf1, zf2, zf3, zf4, zf5, zf6, zf7⟩⟩ := RecAt.eight hrec5
                         have hN5 := hrec5.lt
                         have HG5 := Lib.hid hG5
                         clear hrec5 hG5 hown2 hgrow hat)
                      | (go_simp; go_at_call 82; refine (list_any K HC.out _ B cs n j8 d tv T (HG8.out.rs.keep0 (Keeps.refl _ _).drew) HD.out).mono ?_; rw [HCM.out]; intro e w4 hp; obtain ⟨j4, k, b, s, a0, n0, c0, a1, n1, c1, a2, n2, c2, a3, n3, c3, a4, n4, c4, xs, he, hJ4, hown4, hrec4, hF⟩ := HCALL.out e w4 hp; subst he; obtain ⟨⟨y0, y1, y2, y3, y4, y5, y6, y7⟩, ⟨yf0, yf1, yf2, yf3, yf4, yf5, yf6, yf7⟩⟩ := RecAt.eight hrec4; have hN4 := hrec4.lt; have HF := Lib.hid hF; have HJ4 := Lib.hid hJ4; clear hp hF hJ4 hrec4))
                    all_goals
                      obtain ⟨wb, hw3⟩ : ∃ w3, w3 = w5.setCell ⟨N, 6, none⟩ (.slice (some ⟨gg, 0, none⟩) ((m + 1 + 1) + 1) cap) := ⟨_, rfl⟩
                      rw [← hw3] at HG5
                      rw [← hw3]
                      obtain ⟨la4, hla2⟩ : ∃ x, x = some (⟨gg, 0, none⟩ : Addr) := ⟨_, rfl⟩
                      obtain ⟨lc4, hlc2⟩ : ∃ x, x = cap := ⟨_, rfl⟩
                      obtain ⟨acc4, hacc2⟩ : ∃ x, x = acc3 ++ d2 := ⟨_, rfl⟩
                      rw [← hla2, ← hlc2, ← hacc2] at HG5
                      rw [← hacc2] at HRX
                      have HGB := HG5
                      have HACC := Lib.hid hacc2
                      clear hla2 hlc2 hacc2 hw3 HG5
                      have HRE := Lib.hid (show res = choiceEnd (.ok (acc4, T.drop j4)) by rw [HRX.out, HJ4.out.2.2.1])
                      have hj4a := HJ4.out.1
                      have hj4T := HJ4.out.2.1
                      cases hq : isWF [102, 105] (T.drop j4) with
                      | false =>
                        have HRX := Lib.hid (show res = .error 2 by rw [HRE.out]; unfold choiceEnd needW; dsimp only; rw [hq]; rfl)
                        have HIS := Lib.hid (is_any wb B cs n j4 d tv T [102, 105] false HGB.out.rs (by decide) hq)
                        clear hq
                        go_wp2_with fail
                        refine HIS.out.mono ?_
                        rintro e wz ⟨rfl, jz, hjz, htz, hrsz, hkz⟩
                        have HK3 := Lib.hid (HGB.out.kp.trans hkz (fun _ _ h => h))
                        clear hrsz hkz htz HIS
                        go_wp2_with fail
                        refine (need_no _).mono ?_
                        rintro e wy ⟨rfl, rfl⟩
                        go_wp2_with fail
                        refine ⟨rfl, ?_⟩
                        rw [HRX.out]
                        exact ⟨rfl, HK3.out⟩
                      | true =>
                        have HRX := Lib.hid (show res = .ok (ndR 6 false [] [] [] [] acc4 [], (T.drop j4).tail) by rw [HRE.out]; unfold choiceEnd needW; dsimp only; rw [hq]; rfl)
                        have HIS := Lib.hid (is_any wb B cs n j4 d tv T [102, 105] true HGB.out.rs (by decide) hq)
                        have hpz := toks_pos (isW_pos (by decide) hq)
                        clear hq
                        go_wp2_with fail
                        refine HIS.out.mono ?_
                        rintro e w9 ⟨rfl, j9, hj9, htj9, hrsz, hkz⟩
                        have HG9 := Lib.hid (HGB.out.move HCS.out HXN.out.1 HXN.out.2 hkz hrsz)
                        have HTj9 := Lib.hid (show T.drop j9 = (T.drop j4).tail from htj9)
                        have hj9' : j4 + 1 ≤ j9 := by
                          have := congrArg List.length HTj9.out
                          rw [List.length_drop, List.length_tail, List.length_drop] at this
                          omega
                        have j9T := hrsz.i
                        clear hrsz hkz htj9 HIS
                        go_wp2_with fail
                        refine (need_yes _).mono ?_
                        rintro e wy ⟨rfl, rfl⟩
                        have hrec := (show RecAt w9 N [.int .i64 6, .bool false, .string ⟨#[]⟩, .slice none 0 0, .slice none 0 0, .slice none 0 0, .slice la4 (m + 1 + 1 + 1) lc4, .slice none 0 0] from HG9.out.rc)
                        obtain ⟨⟨v0, v1, v2, v3, v4, v5, v6, v7⟩, _⟩ := hrec.eight
                        have hnl := hrec.lt
                        have HR3 := Lib.hid HG9.out.zr
                        have HK3 := Lib.hid HG9.out.kp
                        have HS3 := Lib.hid HG9.out.rs
                        have HRD3 := Lib.hid HG9.out.all
                        have HX3 := Lib.hid HXN.out.1
                        have HND := Lib.hid (show NdD (ndR 6 false [] [] [] [] acc4 []) from ⟨_, _, _, _, _, _, _, _, rfl⟩)
                        clear hrec
                        obtain ⟨⟨z0, z1, z2, z3, z4, z5, z6, z7⟩, y0, y1, y2, y3, y4, y5, y6, y7⟩ := HR3.out.eight
                        have hzl := HR3.out.lt
                        go_wp2_with fail
                        refine bodyPost_ret (v := .agg #[.int .i64 6, .bool false, .string ⟨#[]⟩, .slice none 0 0, .slice none 0 0, .slice none 0 0, .slice la4 (m + 1 + 1 + 1) lc4, .slice none 0 0]) (by simp [results, Tryd.results83, go_sem, z0, z1, z2, z3, z4, z5, z6, z7]) rfl ?_
                        obtain ⟨f1, f2, f3⟩ := nd_fin HK3.out HS3.out HX3.out HCS.out HRD3.out (set8_keeps w9 w.heap.size (.int .i64 6) (.bool false) (.string ⟨#[]⟩) (.slice none 0 0) (.slice none 0 0) (.slice none 0 0) (.slice la4 (m + 1 + 1 + 1) lc4) (.slice none 0 0))
                        rw [HRX.out]
                        exact ⟨[.int .i64 6, .bool false, .string ⟨#[]⟩, .slice none 0 0, .slice none 0 0, .slice none 0 0, .slice la4 (m + 1 + 1 + 1) lc4, .slice none 0 0], ⟨rfl, _, by omega, HTj9.out, f1, f2⟩, rfl, HND.out, f3⟩
                | false =>
                  have HRF := Lib.hid (show res = choiceEnd (.ok (acc3, T.drop ja)) by rw [HRE0.out, ← HTja.out, hq, if_neg (by simp)])
                  have HIS := Lib.hid (is_any wa B cs n ja d tv T [101, 108, 115, 101] false HGA.out.rs (by decide) hq)
                  clear hq
                  go_wp2_with fail
                  refine HIS.out.mono ?_
                  rintro e wb ⟨rfl, jb, hjb, htjb, hrsz, hkz⟩
                  have HGB := Lib.hid (HGA.out.move HCS.out HXN.out.1 HXN.out.2 hkz hrsz)
                  have HTjb := Lib.hid (show T.drop jb = T.drop ja from htjb)
                  have jbT := hrsz.i
                  clear hrsz hkz htjb HIS
                  have HRE := Lib.hid (show res = choiceEnd (.ok (acc3, T.drop jb)) by rw [HRF.out, HTjb.out])
                  clear HGA HRF HRE0 HRX HACC
                  cases hq : isWF [102, 105] (T.drop jb) with
                  | false =>
                    have HRX := Lib.hid (show res = .error 2 by rw [HRE.out]; unfold choiceEnd needW; dsimp only; rw [hq]; rfl)
                    have HIS := Lib.hid (is_any wb B cs n jb d tv T [102, 105] false HGB.out.rs (by decide) hq)
                    clear hq
                    go_wp2_with fail
                    refine HIS.out.mono ?_
                    rintro e wz ⟨rfl, jz, hjz, htz, hrsz, hkz⟩
                    have HK3 := Lib.hid (HGB.out.kp.trans hkz (fun _ _ h => h))
                    clear hrsz hkz htz HIS
                    go_wp2_with fail
                    refine (need_no _).mono ?_
                    rintro e wy ⟨rfl, rfl⟩
                    go_wp2_with fail
                    refine ⟨rfl, ?_⟩
                    rw [HRX.out]
                    exact ⟨rfl, HK3.out⟩
                  | true =>
                    have HRX := Lib.hid (show res = .ok (ndR 6 false [] [] [] [] acc3 [], (T.drop jb).tail) by rw [HRE.out]; unfold choiceEnd needW; dsimp only; rw [hq]; rfl)
                    have HIS := Lib.hid (is_any wb B cs n jb d tv T [102, 105] true HGB.out.rs (by decide) hq)
                    have hpz := toks_pos (isW_pos (by decide) hq)
                    clear hq
                    go_wp2_with fail
                    refine HIS.out.mono ?_
                    rintro e w9 ⟨rfl, j9, hj9, htj9, hrsz, hkz⟩
                    have HG9 := Lib.hid (HGB.out.move HCS.out HXN.out.1 HXN.out.2 hkz hrsz)
                    have HTj9 := Lib.hid (show T.drop j9 = (T.drop jb).tail from htj9)
                    have hj9' : jb + 1 ≤ j9 := by
                      have := congrArg List.length HTj9.out
                      rw [List.length_drop, List.length_tail, List.length_drop] at this
                      omega
                    have j9T := hrsz.i
                    clear hrsz hkz htj9 HIS
                    go_wp2_with fail
                    refine (need_yes _).mono ?_
                    rintro e wy ⟨rfl, rfl⟩
                    have hrec := (show RecAt w9 N [.int .i64 6, .bool false, .string ⟨#[]⟩, .slice none 0 0, .slice none 0 0, .slice none 0 0, .slice la3 (m + 1 + 1) lc3, .slice none 0 0] from HG9.out.rc)
                    obtain ⟨⟨v0, v1, v2, v3, v4, v5, v6, v7⟩, _⟩ := hrec.eight
                    have hnl := hrec.lt
                    have HR3 := Lib.hid HG9.out.zr
                    have HK3 := Lib.hid HG9.out.kp
                    have HS3 := Lib.hid HG9.out.rs
                    have HRD3 := Lib.hid HG9.out.all
                    have HX3 := Lib.hid HXN.out.1
                    have HND := Lib.hid (show NdD (ndR 6 false [] [] [] [] acc3 []) from ⟨_, _, _, _, _, _, _, _, rfl⟩)
                    clear hrec
                    obtain ⟨⟨z0, z1, z2, z3, z4, z5, z6, z7⟩, y0, y1, y2, y3, y4, y5, y6, y7⟩ := HR3.out.eight
                    have hzl := HR3.out.lt
                    go_wp2_with fail
                    refine bodyPost_ret (v := .agg #[.int .i64 6, .bool false, .string ⟨#[]⟩, .slice none 0 0, .slice none 0 0, .slice none 0 0, .slice la3 (m + 1 + 1) lc3, .slice none 0 0]) (by simp [results, Tryd.results83, go_sem, z0, z1, z2, z3, z4, z5, z6, z7]) rfl ?_
                    obtain ⟨f1, f2, f3⟩ := nd_fin HK3.out HS3.out HX3.out HCS.out HRD3.out (set8_keeps w9 w.heap.size (.int .i64 6) (.bool false) (.string ⟨#[]⟩) (.slice none 0 0) (.slice none 0 0) (.slice none 0 0) (.slice la3 (m + 1 + 1) lc3) (.slice none 0 0))
                    rw [HRX.out]
                    exact ⟨[.int .i64 6, .bool false, .string ⟨#[]⟩, .slice none 0 0, .slice none 0 0, .slice none 0 0, .slice la3 (m + 1 + 1) lc3, .slice none 0 0], ⟨rfl, _, by omega, HTj9.out, f1, f2⟩, rfl, HND.out, f3⟩
end Go.Proofs.YtcahifkiiabioaaDoor
namespace Go.Proofs.YtcahifkiiabioaaDoor
open Go.RowKit
set_option linter.unusedVariables false

theorem GI.all2 {w wr : World} {B cs : Nat} {tv : Value} {n : Nat} {T : List Tk} {d X N : Nat} {Z : List Value} {pre post : List Dt} {vpre vpost : List Value} {k : Nat} {Ty : TypeId} {I m : Nat} {la : Option Addr} {lc : Nat} {ds : List Dt}
    (h : GI w wr B cs tv n T d X N Z pre post vpre vpost k Ty I m la lc ds) : RdL wr (fun b => X ≤ b ∧ b ≠ N) (pre ++ .sl k ds :: post) (vpre ++ .slice la m lc :: vpost) := by
  have h1 := h.own.reads (fun g hg => h.low g hg)
  exact (h.pr.mono fun b _ hb => hb.1).app ⟨h1, h.po.mono fun b _ hb => hb.1⟩
theorem info_word : (Tryd.prog.info? 32).map (fun i => (i.zero, i.size, i.bytes)) = some (some (.slice none 0 0), 1, 24) := by kernel_rfl
theorem cells_word : Tryd.prog.cellsOf 32 = 1 := by kernel_rfl
def eachT (cmd : List Tk → PR (List Dt)) (nm : Bs) (ws : List Dt) (r : List Tk) : PR (List Dt) := match bodyF cmd (linesF r) with
  | .error e => .error e
  | .ok (b, r2) => .ok (ndR 9 false nm ws [] [] b [], r2)
def eachW (cmd : List Tk → PR (List Dt)) (nm : Bs) (p : PR (List Dt)) : PR (List Dt) := match p with
  | .error e => .error e
  | .ok (ws, r) => if isOpF [59] r || isOpF [10] r then eachT cmd nm ws r.tail else .error 2
theorem each_eq (cmd : List Tk → PR (List Dt)) (scr : Bs → Except Nat Unit) (ts : List Tk) : eachF cmd scr ts = if nameOkF (plainT (atF ts)) then
    (if isWF [105, 110] (linesF ts.tail) then eachW cmd (plainT (atF ts)) (wordsLoop scr ((linesF ts.tail).tail.length + 1) [] (linesF ts.tail).tail)
      else eachT cmd (plainT (atF ts)) [wordR [.mk 3 [] [64] [] [] true]] (goF (isOpF [59] (linesF ts.tail)) (linesF ts.tail)))
  else .error 2 := by
  unfold eachF eachW eachT
  have e : goF (isOpF [59] (linesF ts.tail)) (linesF ts.tail) = if isOpF [59] (linesF ts.tail) then (linesF ts.tail).tail else linesF ts.tail := by cases isOpF [59] (linesF ts.tail) <;> rfl
  rw [e]
  cases wordsLoop scr ((linesF ts.tail).tail.length + 1) [] (linesF ts.tail).tail with
  | error y => rfl
  | ok x => rfl
theorem wordsLoop_succ (scr : Bs → Except Nat Unit) (n : Nat) (acc : List Dt) (ts : List Tk) : wordsLoop scr (n + 1) acc ts = if (atF ts).kind == 1 then (match wordF scr ts with
    | .error e => .error e
    | .ok (w, r) => wordsLoop scr n (acc ++ [wordR w]) r) else .ok (acc, ts) := rfl

def atP : Pt := .mk 3 [] [64] [] [] true
theorem gi_words {w wr Wa Wb Wc : World} {B cs : Nat} {tv : Value} {n : Nat} {T : List Tk} {d X N : Nat} {Z : List Value} {pre post : List Dt} {vpre vpost : List Value} {I lc : Nat}
    (h : GI w wr B cs tv n T d X N Z pre post vpre vpost 1 32 I 0 none lc []) (hc : cs < w.heap.size) (hX : w.heap.size < X) (hN : w.heap.size < N) (hXw : X ≤ wr.heap.size)
    (ha : Wa = wr.setCell ⟨N, vpre.length, none⟩ (.slice (some ⟨wr.heap.size + 1, 0, none⟩) 1 1)) (hb : Wb = Wa.alloc (.cells #[.int .i64 3, .string ⟨#[]⟩, .string ⟨#[64]⟩, .string ⟨#[]⟩, .slice none 0 0, .bool true] 34)) (hcc : Wc = Wb.alloc (.cells #[.slice (some ⟨wr.heap.size, 0, none⟩) 1 1] 32)) :
    GI w Wc B cs tv n T d X N Z pre post vpre vpost 1 32 I 1 (some ⟨wr.heap.size + 1, 0, none⟩) 1 [wordR [atP]] := by
  have hNl := h.rc.lt
  have hB := h.rs.cs
  have ka : Keeps (fun b => b = N) wr Wa := by rw [ha]; exact (Keeps.refl _ _).setCell _ _ fun _ => rfl
  have za : Wa.heap.size = wr.heap.size := by rw [ha]; simp
  have kb : Keeps (fun _ => False) Wa Wb := by rw [hb]; exact (Keeps.refl _ _).alloc _
  have zb : Wb.heap.size = wr.heap.size + 1 := by rw [hb]; simp [za]
  have kc : Keeps (fun _ => False) Wb Wc := by rw [hcc]; exact (Keeps.refl _ _).alloc _
  have kbc := kb.trans kc (fun _ _ h => h)
  have hp : RdL Wa (fun b => X ≤ b ∧ b ≠ N) (partsR [atP]) [.int .i64 3, .string ⟨#[]⟩, .string ⟨#[64]⟩, .string ⟨#[]⟩, .slice none 0 0, .bool true] := by
    rw [partsR_cons, partsR_nil, List.append_nil, partR_eq]
    exact ⟨.int _, .str _, .str _, .str _, by rw [show (atP.word) = [] from rfl, wordR, partsR_nil]; exact .nil _ _ _ (Nat.zero_le _), .bool _, trivial⟩
  have hrow := rd_lit (k := 6) (m := 1) (Ty := 34) hp (by rw [partsR_len]; rfl) (by decide) hb ⟨by omega, by omega⟩
  rw [za] at hrow
  have hrow2 : RdL Wb (fun b => (X ≤ b ∧ b ≠ N)) [wordR [atP]] [.slice (some ⟨wr.heap.size, 0, none⟩) 1 1] := ⟨hrow, trivial⟩
  have hoth : ∀ {dd : List Dt} {vv : List Value}, RdL wr (fun b => (X ≤ b ∧ b ≠ N) ∧ (Value.slice none 0 lc).ownBlock ≠ some b) dd vv →
      RdL Wc (fun b => (X ≤ b ∧ b ≠ N) ∧ (Value.slice (some ⟨wr.heap.size + 1, 0, none⟩) 1 1).ownBlock ≠ some b) dd vv := fun hh =>
    ((hh.lt.keep ka (fun b _ hb e => hb.1.1.2 e)).keep kbc (fun _ _ _ h => h)).mono fun b _ hb => ⟨hb.1.1, fun e => by have h3 : wr.heap.size + 1 = b := Option.some.inj e; have := hb.2; omega⟩
  refine ⟨(h.rs.keep ka (fun b hb e => by omega) (fun e => by omega)).keep0 kbc, (h.kp.fresh ka (fun b e => by omega)).trans kbc (fun _ _ h => h.elim), (h.zr.keep ka (fun e => by omega)).keep kbc (fun h => h), ?_, ?_, ?_, hoth h.pr, hoth h.po⟩
  · have := h.rc.set vpre.length (.slice (some ⟨wr.heap.size + 1, 0, none⟩) 1 1)
    rw [set_mid, ← ha] at this
    exact this.keep kbc (fun h => h)
  · refine ⟨[.slice (some ⟨wr.heap.size, 0, none⟩) 1 1], (hrow2.lt.keep kc (fun _ _ _ h => h)).mono fun b _ hb => ⟨hb.1, fun e => by have h3 : wr.heap.size + 1 = b := Option.some.inj e; have := hb.2; omega⟩, ?_⟩
    rw [hcc]
    have := World.ownsRow_lit (base := 0) (e := 32) (size := 1) Wb #[.slice (some ⟨wr.heap.size, 0, none⟩) 1 1] 1 (Nat.zero_le _) (by decide) rfl
    rw [zb] at this
    exact this
  · intro g hg
    have h3 : wr.heap.size + 1 = g := Option.some.inj hg
    exact ⟨by omega, by omega⟩
set_option maxRecDepth 100000 in
set_option maxHeartbeats 16000000 in
theorem each_any (K : Nat) (hcmd : CmdOK K) (hscr : ScrOK K) (w : World) (B cs n i d : Nat) (tv : Value) (T : List Tk) (h : RS w B cs tv n T i d) (hd : d + K = 40) (hpos : nameOkF (plainT (atF (T.drop i))) = true → 1 ≤ (T.drop i).length) :
    Calls Tryd.prog 85 #[.pointer (some ⟨cs, 0, none⟩)] w (NodePost w B cs tv n T i d BareS (eachF (commandF K) (scrF (commandF K)) (T.drop i))) := by
  obtain ⟨res, hres⟩ : ∃ res, res = eachF (commandF K) (scrF (commandF K)) (T.drop i) := ⟨_, rfl⟩
  rw [← hres]
  rw [each_eq] at hres
  obtain ⟨nm, hnm⟩ : ∃ nm, nm = plainT (atF (T.drop i)) := ⟨_, rfl⟩
  rw [← hnm] at hres hpos
  have hnl : nm.length ≤ 140737488351232 := by
    rw [hnm]
    have hsm := atF_mem (i := i) h.sm
    unfold plainT
    split
    · split
      · next p hp =>
        split
        · have := smL_mem hsm.1.2 (p := p) (by rw [hp]; simp)
          omega
        · simp
      · simp
    · simp
  have HPOS := Lib.hid hpos
  have HNM := Lib.hid hnm
  have HNL := Lib.hid hnl
  have HSC := Lib.hid hscr
  clear hpos hnm hnl hscr
  have hc1 := cells_word
  have hc8 := cells_node
  obtain ⟨i0, hi0, hz0, hz1, hz2⟩ := info_parts info_word
  have HRES := Lib.hid hres
  have HH := Lib.hid h
  have HC := Lib.hid hcmd
  have HD := Lib.hid hd
  have HCS := Lib.hid h.lt
  clear hres h hcmd hd
  go_enter Tryd.func85, Tryd.ntmps85
  go_wp2_with fail
  obtain ⟨W, hW⟩ : ∃ W, W = w.alloc (.cells #[.int .i64 0, .bool false, .string ⟨#[]⟩, .slice none 0 0, .slice none 0 0, .slice none 0 0, .slice none 0 0, .slice none 0 0] 40) := ⟨_, rfl⟩
  have hkW : Keeps (fun _ => False) w W := by rw [hW]; exact (Keeps.refl _ _).alloc _
  have HR := Lib.hid (show RecAt W w.heap.size [.int .i64 0, .bool false, .string ⟨#[]⟩, .slice none 0 0, .slice none 0 0, .slice none 0 0, .slice none 0 0, .slice none 0 0] by rw [hW]; exact new_rec8 _ _ _ _ _ _ _ _ _ _)
  rw [← hW]
  have HKW := Lib.hid hkW
  have HX := Lib.hid (show w.heap.size < W.heap.size by rw [hW]; simp)
  have HXE := Lib.hid (show W.heap.size = w.heap.size + 1 by rw [hW]; simp)
  have HS := Lib.hid (HH.out.keep0 hkW)

  clear hkW hW
  refine (at_tok W B cs n i d tv T HS.out).mono ?_
  rintro e w1 ⟨a, c, rfl, hp, hk⟩
  have HK1 := Lib.hid hk
  have HP1 := Lib.hid hp
  clear hp hk
  go_wp2_with fail
  refine (plain_any _ _ _ _ _ _ HP1.out).mono ?_
  rintro e w2 ⟨rfl, hk2⟩
  rw [← HNM.out]
  have HK2 := Lib.hid (HK1.out.trans hk2 (fun _ _ h => h))
  obtain ⟨wr, hwr⟩ : ∃ wr, wr = w2.alloc (.cells #[.int .i64 9, .bool false, .string ⟨nm.toArray⟩, .slice none 0 0, .slice none 0 0, .slice none 0 0, .slice none 0 0, .slice none 0 0] 40) := ⟨_, rfl⟩
  have hk3 : Keeps (fun _ => False) w2 wr := by rw [hwr]; exact (Keeps.refl _ _).alloc _
  obtain ⟨N, hN⟩ : ∃ N, N = w2.heap.size := ⟨_, rfl⟩
  obtain ⟨X, hX⟩ : ∃ X, X = W.heap.size := ⟨_, rfl⟩
  have hxw := HX.out
  have hsz2 := HK2.out.size
  have hkk := HK2.out.trans hk3 (fun _ _ h => h)
  have HG0 := Lib.hid (show GI w wr B cs tv n T d X N [.int .i64 0, .bool false, .string ⟨#[]⟩, .slice none 0 0, .slice none 0 0, .slice none 0 0, .slice none 0 0, .slice none 0 0] [.int ((9 : Nat) : Int), .bool false, .str nm] [.sl 2 [], .sl 2 [], .sl 8 [], .sl 2 []] [.int .i64 9, .bool false, .string ⟨nm.toArray⟩] [.slice none 0 0, .slice none 0 0, .slice none 0 0, .slice none 0 0] 1 32 i 0 none 0 [] from
      ⟨HS.out.keep0 hkk, ((HKW.out.trans hkk (fun _ _ h => h)).mono (fun _ _ h => h.elim)), HR.out.keep hkk (fun h => h), by rw [hwr, hN]; exact new_rec8 _ _ _ _ _ _ _ _ _ _, OwnD.nil _ _ _ _, fun g hg => (by cases hg), ⟨.int _, .bool _, .str _, trivial⟩, ⟨.nil _ _ _ (Nat.zero_le _), .nil _ _ _ (Nat.zero_le _), .nil _ _ _ (Nat.zero_le _), .nil _ _ _ (Nat.zero_le _), trivial⟩⟩)
  have HXN := Lib.hid (show w.heap.size < X ∧ w.heap.size < N by omega)
  have HXS := Lib.hid (show X ≤ w.heap.size + 1 by have := HXE.out; omega)
  obtain ⟨⟨v0, v1, v2, v3, v4, v5, v6, v7⟩, _⟩ := (show RecAt wr N [.int .i64 9, .bool false, .string ⟨nm.toArray⟩, .slice none 0 0, .slice none 0 0, .slice none 0 0, .slice none 0 0, .slice none 0 0] from HG0.out.rc).eight
  have hnl0 := HG0.out.rc.lt
  have HN := Lib.hid hN
  have HWR := Lib.hid hwr
  clear hk2 hwr hk3 hN hX hxw hsz2 hkk
  go_wp2_with fail
  rw [← HWR.out]
  clear HWR
  cases hok : nameOkF nm with
  | false =>
    have HRX := Lib.hid (show res = .error 2 by rw [HRES.out, hok, if_neg (by simp)])
    refine (vname_any nm wr false HNL.out hok).mono ?_
    rintro e w3 ⟨rfl, hk3⟩
    have HK3 := Lib.hid (HG0.out.kp.trans hk3 (fun _ _ h => h.elim))
    clear hok hk3
    go_wp2_with fail
    refine (need_no _).mono ?_
    rintro e w4 ⟨rfl, rfl⟩
    go_wp2_with fail
    refine ⟨rfl, ?_⟩
    rw [HRX.out]
    exact ⟨rfl, HK3.out⟩
  | true =>
    have HRES1 := Lib.hid (show res = if isWF [105, 110] (linesF (T.drop (i + 1))) then eachW (commandF K) nm (wordsLoop (scrF (commandF K)) ((linesF (T.drop (i + 1))).tail.length + 1) [] (linesF (T.drop (i + 1))).tail)
      else eachT (commandF K) nm [wordR [.mk 3 [] [64] [] [] true]] (goF (isOpF [59] (linesF (T.drop (i + 1)))) (linesF (T.drop (i + 1)))) by rw [HRES.out, hok, if_pos rfl, drop_tail])
    have HPO := Lib.hid (HPOS.out hok)
    refine (vname_any nm wr true HNL.out hok).mono ?_
    rintro e w3 ⟨rfl, hk3⟩
    have HG3 := Lib.hid (HG0.out.keep0 hk3)
    clear hok hk3 HRES v0 v1 v2 v3 v4 v5 v6 v7
    go_wp2_with fail
    refine (need_yes _).mono ?_
    rintro e w4 ⟨rfl, rfl⟩
    rw [← HN.out]
    obtain ⟨c0, c1, c2, fz1, fz2⟩ := HG3.out.rs.cells
    have hI1 := HG3.out.rs.i
    have hT1 := HG3.out.rs.sm.1
    have hpz : 1 ≤ (T.drop i).length := HPO.out
    have p0 : (i : Int) ≤ 20000 := by omega
    have p00 : (0 : Int) ≤ (i : Int) := by omega
    obtain ⟨hn1, hn2⟩ := HG3.out.rs.next hpz
    have HG4 := Lib.hid (HG3.out.move HCS.out HXN.out.1 HXN.out.2 hn2 hn1)
    have hpz2 := toks_pos hpz
    clear hn1 hn2
    go_wp2_with fail
    obtain ⟨w4, hw4⟩ : ∃ w4, w4 = w3.setCell ⟨cs, 1, none⟩ (.int .i64 ((i : Int) + 1)) := ⟨_, rfl⟩
    rw [← hw4] at HG4
    rw [← hw4]
    clear hw4 c0 c1 c2 fz1 fz2
    refine (lines_any w4 B cs n (i + 1) d tv T HG4.out.rs).mono ?_
    rintro e w5 ⟨rfl, j5, hj5, ht5, hrs5, hk5⟩
    have HG5 := Lib.hid (HG4.out.move HCS.out HXN.out.1 HXN.out.2 hk5 hrs5)
    have HT5 := Lib.hid ht5
    have hj5T := hrs5.i
    clear hrs5 hk5 ht5
    go_wp2_with fail
    cases hin : isWF [105, 110] (T.drop j5) with
    | true =>
      have HIS := Lib.hid (is_any w5 B cs n j5 d tv T [105, 110] true HG5.out.rs (by decide) hin)
      have HRES2 := Lib.hid (show res = eachW (commandF K) nm (wordsLoop (scrF (commandF K)) ((T.drop j5).tail.length + 1) [] (T.drop j5).tail) by rw [HRES1.out, ← HT5.out, hin, if_pos rfl])
      clear hin
      refine HIS.out.mono ?_
      rintro e w6 ⟨rfl, j6, hj6, ht6, hrs6, hk6⟩
      have HG6 := Lib.hid (HG5.out.move HCS.out HXN.out.1 HXN.out.2 hk6 hrs6)
      have HRES3 := Lib.hid (show res = eachW (commandF K) nm (wordsLoop (scrF (commandF K)) (T.length - j6 + 1) [] (T.drop j6)) by rw [HRES2.out, ← show T.drop j6 = (T.drop j5).tail from ht6, List.length_drop])
      clear hrs6 hk6 ht6 HIS HRES1 HRES2
      go_wp2_with fail
      go_loopg [] (T.length - j6) (fun g wr => ∃ (I M m : Nat) (la : Option Addr) (lc : Nat) (acc : List Dt), g = T.length - I ∧ i ≤ I ∧ m ≤ I ∧ T.length - I + 1 ≤ M ∧ Hid (GI w wr B cs tv n T d X N [.int .i64 0, .bool false, .string ⟨#[]⟩, .slice none 0 0, .slice none 0 0, .slice none 0 0, .slice none 0 0, .slice none 0 0] [.int ((9 : Nat) : Int), .bool false, .str nm] [.sl 2 [], .sl 2 [], .sl 8 [], .sl 2 []] [.int .i64 9, .bool false, .string ⟨nm.toArray⟩] [.slice none 0 0, .slice none 0 0, .slice none 0 0, .slice none 0 0] 1 32 I m la lc acc) ∧ Hid (res = eachW (commandF K) nm (wordsLoop (scrF (commandF K)) M acc (T.drop I))))
      case atStart => exact ⟨j6, _, 0, none, 0, [], rfl, by omega, Nat.zero_le _, Nat.le_refl _, HG6, HRES3⟩
      case round =>
        obtain ⟨I, M, m, la, lc, acc, hgk, hiI, hmI, hM, HG, HRL⟩ := hrel
        have HGK := Lib.hid hgk
        have hIT := HG.out.rs.i
        have hT2 := HG.out.rs.sm.1
        obtain ⟨M, rfl⟩ : ∃ M', M = M' + 1 := ⟨M - 1, by omega⟩
        clear hgk HG0 HG3 HG4 HG5 HG6 HRES3
        have hat := at_tok wr B cs n I d tv T HG.out.rs
        have hf0 := field_kind
        obtain ⟨tk, htk⟩ : ∃ tk, tk = atF (T.drop I) := ⟨_, rfl⟩
        rw [← htk] at hat
        have HAT := Lib.hid hat
        have hlp := wordsLoop_succ (scrF (commandF K)) M acc (T.drop I)
        rw [← htk] at hlp
        clear hat htk
        by_cases hk1 : tk.kind = 1
        · have t0 : ((tk.kind : Int) == 1) = true := by rw [beq_iff_eq]; omega
          have HRL1 := Lib.hid (show res = eachW (commandF K) nm (match wordF (scrF (commandF K)) (T.drop I) with
            | .error e => .error e
            | .ok (w, r) => wordsLoop (scrF (commandF K)) M (acc ++ [wordR w]) r) by rw [HRL.out, hlp, hk1, if_pos (by rfl)])
          clear hlp hk1 HRL
          go_wp2_with fail
          refine HAT.out.mono ?_
          rintro e wb ⟨a, c, rfl, hp, hk⟩
          have HGB := Lib.hid (HG.out.keep0 hk)
          clear hp hk HG HAT
          have hXw := HXN.out.1
          have HXW := Lib.hid (show X ≤ wb.heap.size by have h1 := HGB.out.zr.lt; have h2 := HXS.out; omega)
          obtain ⟨⟨x0, x1, x2, x3, x4, x5, x6, x7⟩, ⟨xf0, xf1, xf2, xf3, xf4, xf5, xf6, xf7⟩⟩ := (show RecAt wb N [.int .i64 9, .bool false, .string ⟨nm.toArray⟩, .slice la m lc, .slice none 0 0, .slice none 0 0, .slice none 0 0, .slice none 0 0] from HGB.out.rc).eight
          have hNl := HGB.out.rc.lt
          cases hcm : wordF (scrF (commandF K)) (T.drop I) with
          | error y =>
            have HRX := Lib.hid (show res = .error y by rw [HRL1.out, hcm]; rfl)
            have HCM := Lib.hid hcm
            clear hcm
            go_wp2_with fail
            refine wp_region_held_drew (S := (fun w' => RecAt w' N [.int .i64 9, .bool false, .string ⟨nm.toArray⟩, .slice la m lc, .slice none 0 0, .slice none 0 0, .slice none 0 0, .slice none 0 0])) (by kernel_rfl) (HGB.out.rc.keep (S := fun _ => False) (Keeps.refl _ _).drew (fun h => h)) (fun hHeld => ?_)
            refine wpAnyH_take (i := 0) (v := .pointer (some ⟨N, 3, none⟩)) rfl (by kernel_rfl) (by kernel_rfl) (by kernel_rfl) (fun _ _ _ h => h) (Or.inl ⟨by rfl, ?_⟩) hHeld ?_
            · (intro ww hSw; have ⟨⟨g0, g1, g2, g3, g4, g5, g6, g7⟩, _⟩ := RecAt.eight hSw; go_simp; all_goals (first | done | with_reducible rfl))
            refine wpAnyH_take (i := 1) (v := .slice la m lc) rfl (by kernel_rfl) (by kernel_rfl) (by kernel_rfl) (fun _ _ _ h => h) (Or.inl ⟨by rfl, ?_⟩) hHeld ?_
            · (intro ww hSw; have ⟨⟨g0, g1, g2, g3, g4, g5, g6, g7⟩, _⟩ := RecAt.eight hSw; go_simp; all_goals (first | done | with_reducible rfl))
            refine wpAnyH_take (i := 2) (v := .pointer (some ⟨cs, 0, none⟩)) rfl (by kernel_rfl) (by kernel_rfl) (by kernel_rfl) (fun _ _ _ h => h) (Or.inl ⟨by rfl, ?_⟩) hHeld ?_
            · (intro ww hSw; have ⟨⟨g0, g1, g2, g3, g4, g5, g6, g7⟩, _⟩ := RecAt.eight hSw; go_simp; all_goals (first | done | with_reducible rfl))
            refine wpAnyH_ready (rs := [3]) (by kernel_rfl) (by simp) ?_
            refine AllReadyH.cons rfl (fun KK hK => ?_) AllReadyH.nil
            go_simp
            go_at_call 91
            refine (word_tok K HSC.out _ B cs n I d tv T (HGB.out.rs.keep0 (Keeps.refl _ _).drew) HD.out).mono ?_
            rw [HCM.out]
            rintro e w4 ⟨rfl, hk4⟩
            have HK4 := Lib.hid ((HGB.out.kp.drew).trans hk4 (fun _ _ h => h))
            clear hk4
            go_wp2_with fail
            refine ⟨rfl, ?_⟩
            rw [HRX.out]
            exact ⟨rfl, HK4.out⟩
          | ok dr =>
            obtain ⟨x, r2⟩ := dr
            have HRX := Lib.hid (show res = eachW (commandF K) nm (wordsLoop (scrF (commandF K)) M (acc ++ [wordR x]) r2) by rw [HRL1.out, hcm])
            have HCM := Lib.hid hcm
            clear hcm
            have HCALL := Lib.hid (show ∀ e w4, WordPost2 wb.drew B cs tv n T I d (.ok (x, r2)) e w4 → ∃ (j4 : Nat) (wa : Option Addr) (wl wc : Nat) (xs : List Value), e = .returned (.slice wa wl wc) ∧ (I ≤ j4 ∧ j4 ≤ T.length ∧ T.drop j4 = r2 ∧ True) ∧ w4.ownsRow 0 32 1 (.slice la m lc) m xs ∧ RecAt w4 N [.int .i64 9, .bool false, .string ⟨nm.toArray⟩, .slice la m lc, .slice none 0 0, .slice none 0 0, .slice none 0 0, .slice none 0 0] ∧
                (∀ (gg cap : Nat) (w5 : World) (o : Obj), w5.ownsRow 0 32 1 (.slice (some ⟨gg, 0, none⟩) (m + 1) cap) (m + 1) (xs ++ [.slice wa wl wc]) → (w4.alloc o).grownBy w5 (Value.slice la m lc).ownBlock → ((Value.slice la m lc).ownBlock = some gg ∨ gg = w4.heap.size + 1) →
                  RecAt w5 N [.int .i64 9, .bool false, .string ⟨nm.toArray⟩, .slice la m lc, .slice none 0 0, .slice none 0 0, .slice none 0 0, .slice none 0 0] ∧ GI w (w5.setCell ⟨N, 3, none⟩ (.slice (some ⟨gg, 0, none⟩) (m + 1) cap)) B cs tv n T d X N [.int .i64 0, .bool false, .string ⟨#[]⟩, .slice none 0 0, .slice none 0 0, .slice none 0 0, .slice none 0 0, .slice none 0 0] [.int ((9 : Nat) : Int), .bool false, .str nm] [.sl 2 [], .sl 2 [], .sl 8 [], .sl 2 []] [.int .i64 9, .bool false, .string ⟨nm.toArray⟩] [.slice none 0 0, .slice none 0 0, .slice none 0 0, .slice none 0 0] 1 32 j4 (m + 1) (some ⟨gg, 0, none⟩) cap (acc ++ [wordR x])) from fun e w4 hp => by
              obtain ⟨wa, wc, mm, ⟨he, j4, hj4, ht4, hrs4, hk4⟩, hp4, hsm4⟩ := hp
              have hrd4 : RdL w4 (fun b => wb.heap.size ≤ b) [wordR x] [.slice wa x.length wc] := ⟨rd_pts hp4, trivial⟩
              obtain ⟨wl, hwl⟩ : ∃ wl, wl = x.length := ⟨_, rfl⟩
              rw [← hwl] at he hrd4
              obtain ⟨xs, ho, hrec, hF⟩ := HGB.out.more HCS.out HXN.out.1 HXN.out.2 HXW.out ((Keeps.refl (fun b => b = cs) wb).drew.trans hk4 (fun _ _ h => h)) hrs4 hrd4
              exact ⟨j4, wa, wl, wc, xs, he, ⟨hj4, hrs4.i, ht4, trivial⟩, ho, hrec, hF⟩)
            go_wp2_with fail
            go_region_law (first
              | (refine step_append_lies _ (by rfl) _ _ _ (by rfl) 0 32 i0 _ 1 24 Tryd.underlying35 hi0 hz0 hz1 hz2 rfl (by omega) (.slice la m lc) m xs (by rfl) (hown4.alloc _)
                  ⟨w4.heap.size, 0, none⟩ 1 1 [.slice wa wl wc] (by rfl) (by rfl) (World.news_of_block (cs := #[.slice wa wl wc]) (t := 32) (fr := (0, 0)) (heap_alloc_new w4 _)) (by simp [Value.oneCell'])
                  (by omega) (by unfold maxLen; omega) (by omega) (by simp) (w4.heap.size + 1) (by simp) ?_; intro gg cap w5 hown2 hgrow hat hlt5
                 obtain ⟨hrec5, hG5⟩ := HF.out gg cap w5 _ hown2 hgrow hat
                 obtain ⟨⟨z0, z1, z2, z3, z4, z5, z6, z7⟩, ⟨zf0, zf1, zf2, zf3, zf4, zf5, zf6, zf7⟩⟩ := RecAt.eight hrec5
                 have hN5 := hrec5.lt
                 have HG5 := Lib.hid hG5
                 clear hrec5 hG5 hown2 hgrow hat)
              | (go_simp; go_at_call 91; refine (word_tok K HSC.out _ B cs n I d tv T (HGB.out.rs.keep0 (Keeps.refl _ _).drew) HD.out).mono ?_; rw [HCM.out]; intro e w4 hp; obtain ⟨j4, wa, wl, wc, xs, he, hJ4, hown4, hrec4, hF⟩ := HCALL.out e w4 hp; subst he; obtain ⟨⟨y0, y1, y2, y3, y4, y5, y6, y7⟩, ⟨yf0, yf1, yf2, yf3, yf4, yf5, yf6, yf7⟩⟩ := RecAt.eight hrec4; have hN4 := hrec4.lt; have HF := Lib.hid hF; have HJ4 := Lib.hid hJ4; clear hp hF hJ4 hrec4))
            all_goals
              obtain ⟨w3, hw3⟩ : ∃ w3, w3 = w5.setCell ⟨N, 3, none⟩ (.slice (some ⟨gg, 0, none⟩) (m + 1) cap) := ⟨_, rfl⟩
              rw [← hw3] at HG5
              rw [← hw3]
              have HRN := Lib.hid (show res = eachW (commandF K) nm (wordsLoop (scrF (commandF K)) M (acc ++ [wordR x]) (T.drop j4)) by rw [HRX.out, HJ4.out.2.2.1])
              have hj4b : I + 1 ≤ j4 := by
                have h1 := word_len HCM.out
                have h2 := congrArg List.length HJ4.out.2.2.1
                rw [List.length_drop] at h1 h2
                have h3 := HJ4.out.2.1
                omega
              have hj4T := HJ4.out.2.1
              clear hw3 HJ4 HCM
              go_wp2_with fail
              go_roundg (T.length - j4)
              case measure => have := HGK.out; omega
              case rel => exact ⟨j4, M, m + 1, _, cap, acc ++ [wordR x], rfl, by omega, by omega, by omega, HG5, HRN⟩
        · have t0 : ((tk.kind : Int) == 1) = false := by rw [beq_eq_false_iff_ne]; omega
          have HRL1 := Lib.hid (show res = if isOpF [59] (T.drop I) || isOpF [10] (T.drop I) then eachT (commandF K) nm acc (T.drop (I + 1)) else .error 2 by rw [HRL.out, hlp, if_neg (by simpa using hk1)]; unfold eachW; dsimp only; rw [drop_tail])
          clear hlp hk1 HRL
          go_wp2_with fail
          refine HAT.out.mono ?_
          rintro e wb ⟨a, c, rfl, hp, hk⟩
          have HGB := Lib.hid (HG.out.keep0 hk)
          clear hp hk HG HAT
          go_wp2_with fail
          cases hq1 : isOpF [59] (T.drop I) with
          | true =>
            have HRL2 := Lib.hid (show res = eachT (commandF K) nm acc (T.drop (I + 1)) by rw [HRL1.out, hq1]; rfl)
            have HPQ := Lib.hid (op_pos hq1)
            refine (isOp_any wb B cs n I d tv T [59] true HGB.out.rs hq1).mono ?_
            rintro e wc ⟨rfl, hk⟩
            have HGC := Lib.hid (HGB.out.keep0 hk)
            clear hk hq1
            go_wp2_with fail
            refine (need_yes _).mono ?_
            rintro e wd ⟨rfl, rfl⟩
            obtain ⟨c0, c1, c2, fz1, fz2⟩ := HGC.out.rs.cells
            have hI1 := HGC.out.rs.i
            have hT1 := HGC.out.rs.sm.1
            have hpz : 1 ≤ (T.drop I).length := HPQ.out
            have p0 : (I : Int) ≤ 20000 := by omega
            have p00 : (0 : Int) ≤ (I : Int) := by omega
            obtain ⟨hn1, hn2⟩ := HGC.out.rs.next hpz
            have HGD := Lib.hid (HGC.out.move HCS.out HXN.out.1 HXN.out.2 hn2 hn1)
            have hpz2 := toks_pos hpz
            clear hn1 hn2
            go_wp2_with fail
            obtain ⟨wd, hwd⟩ : ∃ wd, wd = wc.setCell ⟨cs, 1, none⟩ (.int .i64 ((I : Int) + 1)) := ⟨_, rfl⟩
            rw [← hwd] at HGD
            rw [← hwd]
            clear hwd c0 c1 c2 fz1 fz2
            have HT0 := Lib.hid (show res = eachT (commandF K) nm acc (T.drop (I + 1)) by exact HRL2.out)
            go_wp2_with fail
            refine (lines_any wd B cs n (I + 1) d tv T HGD.out.rs).mono ?_
            rintro e wl ⟨rfl, jl, hjl, htl, hrsl, hkl⟩
            have HGL := Lib.hid (HGD.out.move HCS.out HXN.out.1 HXN.out.2 hkl hrsl)
            have HTL := Lib.hid htl
            clear hrsl hkl htl
            go_wp2_with fail
            refine (body_any K HC.out wl B cs n jl d tv T HGL.out.rs HD.out).mono ?_
            intro e w4 hp
            rw [HTL.out] at hp
            have hres0 := HT0.out
            unfold eachT at hres0
            cases hcm : bodyF (commandF K) (linesF (T.drop (I + 1))) with
            | error y =>
              rw [hcm] at hp hres0
              obtain ⟨rfl, hk4⟩ := hp
              have HRX := Lib.hid (show res = .error y from hres0)
              have HK3 := Lib.hid (HGL.out.kp.trans hk4 (fun _ _ h => h))
              clear hcm hk4 hres0
              go_wp2_with fail
              refine ⟨rfl, ?_⟩
              rw [HRX.out]
              exact ⟨rfl, HK3.out⟩
            | ok dr =>
              obtain ⟨dd, r⟩ := dr
              rw [hcm] at hp hres0
              obtain ⟨vs, ⟨rfl, j4, hj4, ht4, hrs4, hk4⟩, _, hnd, hrd⟩ := hp
              obtain ⟨k, b, s, a0, n0, c0, a1, n1, c1, a2, n2, c2, a3, n3, c3, a4, n4, c4, rfl⟩ := nd_vals hnd hrd
              have HRX := Lib.hid (show res = .ok (ndR 9 false nm acc [] [] dd [], r) from hres0)
              have hG4 := HGL.out.move HCS.out HXN.out.1 HXN.out.2 hk4 hrs4
              have HT4 := Lib.hid ht4
              have hrec4 := (show RecAt w4 N [.int .i64 9, .bool false, .string ⟨nm.toArray⟩, .slice la m lc, .slice none 0 0, .slice none 0 0, .slice none 0 0, .slice none 0 0] from hG4.rc)
              obtain ⟨⟨x0, x1, x2, x3, x4, x5, x6, x7⟩, xf0, xf1, xf2, xf3, xf4, xf5, xf6, xf7⟩ := hrec4.eight
              have hNl := hrec4.lt
              obtain ⟨W5, hW5⟩ : ∃ W5, W5 = w4.setCell ⟨N, 6, none⟩ (.slice (some ⟨w4.heap.size, 0, none⟩) 1 1) := ⟨_, rfl⟩
              have hk5 : Keeps (fun b => b = N) w4 W5 := by rw [hW5]; exact (Keeps.refl _ _).setCell _ _ fun _ => rfl
              have hz5 : W5.heap.size = w4.heap.size := by rw [hW5]; simp
              have hR5 : RecAt W5 N [.int .i64 9, .bool false, .string ⟨nm.toArray⟩, .slice la m lc, .slice none 0 0, .slice none 0 0, .slice (some ⟨w4.heap.size, 0, none⟩) 1 1, .slice none 0 0] := by rw [hW5]; exact hrec4.set 6 _
              obtain ⟨W6, hW6⟩ : ∃ W6, W6 = W5.alloc (.cells #[.int .i64 k, .bool b, .string s, .slice a0 n0 c0, .slice a1 n1 c1, .slice a2 n2 c2, .slice a3 n3 c3, .slice a4 n4 c4] 40) := ⟨_, rfl⟩
              have hk6 : Keeps (fun _ => False) W5 W6 := by rw [hW6]; exact (Keeps.refl _ _).alloc _
              have hxn := HXN.out
              have hXw2 : X ≤ w4.heap.size := by have h1 := HXS.out; have h2 := hG4.zr.lt; omega
              have hlw : X ≤ wl.heap.size := by have h1 := HXS.out; have h2 := HGL.out.zr.lt; omega
              have hdd : RdL w4 (fun b => X ≤ b ∧ b ≠ N) dd [.int .i64 k, .bool b, .string s, .slice a0 n0 c0, .slice a1 n1 c1, .slice a2 n2 c2, .slice a3 n3 c3, .slice a4 n4 c4] := hrd.mono fun b _ hb => by
                have h1 := HGL.out.rc.lt
                have h2 : wl.heap.size ≤ b := hb
                exact ⟨by omega, by omega⟩
              have hrow := rd_lit (k := 8) (m := 1) (Ty := 40) (hdd.keep hk5 (fun b _ hb e => hb.2 e)) (by have h1 := hnd.len; omega) (by decide) hW6 ⟨by omega, by omega⟩
              rw [hz5] at hrow
              have hall := (hG4.all2.keep hk5 (fun b _ hb e => hb.2 e)).keep hk6 (fun _ _ _ h => h)
              have HRD3 := Lib.hid (show RdL W6 (fun b => X ≤ b) (ndR 9 false nm acc [] [] dd []) [.int .i64 9, .bool false, .string ⟨nm.toArray⟩, .slice la m lc, .slice none 0 0, .slice none 0 0, .slice (some ⟨w4.heap.size, 0, none⟩) 1 1, .slice none 0 0] from by
                obtain ⟨a0, a1, a2, a3, a4, a5, _, a7, _⟩ := hall
                exact RdL.mono (fun b _ hb => hb.1) (D := fun b => X ≤ b ∧ b ≠ N) ⟨a0, a1, a2, a3, a4, a5, hrow, a7, trivial⟩)
              have hkk := (hG4.kp.fresh hk5 (fun b e => by omega)).trans hk6 (fun _ _ h => h.elim)
              have HK3 := Lib.hid hkk
              have HS3 := Lib.hid ((hG4.rs.keep hk5 (fun b hb e => by have h1 := hG4.rs.cs; have h2 := HCS.out; omega) (fun e => by have h2 := HCS.out; omega)).keep0 hk6)
              have HR3 := Lib.hid ((hG4.zr.keep hk5 (fun e => by omega)).keep hk6 (fun h => h))
              obtain ⟨⟨q0, q1, q2, q3, q4, q5, q6, q7⟩, _⟩ := (hR5.keep hk6 (fun h => h)).eight
              have hnl6 := (hR5.keep hk6 (fun h => h)).lt
              have HX3 := Lib.hid HXN.out.1
              have HND := Lib.hid (show NdD (ndR 9 false nm acc [] [] dd []) from ⟨_, _, _, _, _, _, _, _, rfl⟩)
              have HW5 := Lib.hid hW5
              have HW6 := Lib.hid hW6
              clear hcm hres0 hrs4 hk4 hnd hrd ht4 hG4 hrec4 hW5 hk5 hz5 hR5 hW6 hk6 hdd hrow hall hkk
              go_upto_region 14 with fail
              rw [← HW5.out, ← HW6.out]
              obtain ⟨⟨z0, z1, z2, z3, z4, z5, z6, z7⟩, y0, y1, y2, y3, y4, y5, y6, y7⟩ := HR3.out.eight
              have hzl := HR3.out.lt
              go_wp2_with fail
              refine bodyPost_ret (v := .agg #[.int .i64 9, .bool false, .string ⟨nm.toArray⟩, .slice la m lc, .slice none 0 0, .slice none 0 0, .slice (some ⟨w4.heap.size, 0, none⟩) 1 1, .slice none 0 0]) (by simp [results, Tryd.results85, go_sem, z0, z1, z2, z3, z4, z5, z6, z7]) rfl ?_
              obtain ⟨f1, f2, f3⟩ := nd_fin HK3.out HS3.out HX3.out HCS.out HRD3.out (set8_keeps W6 w.heap.size (.int .i64 9) (.bool false) (.string ⟨nm.toArray⟩) (.slice la m lc) (.slice none 0 0) (.slice none 0 0) (.slice (some ⟨w4.heap.size, 0, none⟩) 1 1) (.slice none 0 0))
              rw [HRX.out]
              exact ⟨[.int .i64 9, .bool false, .string ⟨nm.toArray⟩, .slice la m lc, .slice none 0 0, .slice none 0 0, .slice (some ⟨w4.heap.size, 0, none⟩) 1 1, .slice none 0 0], ⟨rfl, _, by omega, HT4.out, f1, f2⟩, rfl, HND.out, f3⟩
          | false =>
          refine (isOp_any wb B cs n I d tv T [59] false HGB.out.rs hq1).mono ?_
          rintro e wc ⟨rfl, hk⟩
          have HGC := Lib.hid (HGB.out.keep0 hk)
          clear hk
          go_wp2_with fail
          cases hq2 : isOpF [10] (T.drop I) with
          | true =>
            have HRL2 := Lib.hid (show res = eachT (commandF K) nm acc (T.drop (I + 1)) by rw [HRL1.out, hq1, hq2]; rfl)
            have HPQ := Lib.hid (op_pos hq2)
            refine (isOp_any wc B cs n I d tv T [10] true HGC.out.rs hq2).mono ?_
            rintro e wd ⟨rfl, hk⟩
            have HGD := Lib.hid (HGC.out.keep0 hk)
            clear hk hq1 hq2
            go_wp2_with fail
            refine (need_yes _).mono ?_
            rintro e we ⟨rfl, rfl⟩
            obtain ⟨c0, c1, c2, fz1, fz2⟩ := HGD.out.rs.cells
            have hI1 := HGD.out.rs.i
            have hT1 := HGD.out.rs.sm.1
            have hpz : 1 ≤ (T.drop I).length := HPQ.out
            have p0 : (I : Int) ≤ 20000 := by omega
            have p00 : (0 : Int) ≤ (I : Int) := by omega
            obtain ⟨hn1, hn2⟩ := HGD.out.rs.next hpz
            have HGE := Lib.hid (HGD.out.move HCS.out HXN.out.1 HXN.out.2 hn2 hn1)
            have hpz2 := toks_pos hpz
            clear hn1 hn2
            go_wp2_with fail
            obtain ⟨we, hwe⟩ : ∃ we, we = wd.setCell ⟨cs, 1, none⟩ (.int .i64 ((I : Int) + 1)) := ⟨_, rfl⟩
            rw [← hwe] at HGE
            rw [← hwe]
            clear hwe c0 c1 c2 fz1 fz2
            have HT0 := Lib.hid (show res = eachT (commandF K) nm acc (T.drop (I + 1)) by exact HRL2.out)
            go_wp2_with fail
            refine (lines_any we B cs n (I + 1) d tv T HGE.out.rs).mono ?_
            rintro e wl ⟨rfl, jl, hjl, htl, hrsl, hkl⟩
            have HGL := Lib.hid (HGE.out.move HCS.out HXN.out.1 HXN.out.2 hkl hrsl)
            have HTL := Lib.hid htl
            clear hrsl hkl htl
            go_wp2_with fail
            refine (body_any K HC.out wl B cs n jl d tv T HGL.out.rs HD.out).mono ?_
            intro e w4 hp
            rw [HTL.out] at hp
            have hres0 := HT0.out
            unfold eachT at hres0
            cases hcm : bodyF (commandF K) (linesF (T.drop (I + 1))) with
            | error y =>
              rw [hcm] at hp hres0
              obtain ⟨rfl, hk4⟩ := hp
              have HRX := Lib.hid (show res = .error y from hres0)
              have HK3 := Lib.hid (HGL.out.kp.trans hk4 (fun _ _ h => h))
              clear hcm hk4 hres0
              go_wp2_with fail
              refine ⟨rfl, ?_⟩
              rw [HRX.out]
              exact ⟨rfl, HK3.out⟩
            | ok dr =>
              obtain ⟨dd, r⟩ := dr
              rw [hcm] at hp hres0
              obtain ⟨vs, ⟨rfl, j4, hj4, ht4, hrs4, hk4⟩, _, hnd, hrd⟩ := hp
              obtain ⟨k, b, s, a0, n0, c0, a1, n1, c1, a2, n2, c2, a3, n3, c3, a4, n4, c4, rfl⟩ := nd_vals hnd hrd
              have HRX := Lib.hid (show res = .ok (ndR 9 false nm acc [] [] dd [], r) from hres0)
              have hG4 := HGL.out.move HCS.out HXN.out.1 HXN.out.2 hk4 hrs4
              have HT4 := Lib.hid ht4
              have hrec4 := (show RecAt w4 N [.int .i64 9, .bool false, .string ⟨nm.toArray⟩, .slice la m lc, .slice none 0 0, .slice none 0 0, .slice none 0 0, .slice none 0 0] from hG4.rc)
              obtain ⟨⟨x0, x1, x2, x3, x4, x5, x6, x7⟩, xf0, xf1, xf2, xf3, xf4, xf5, xf6, xf7⟩ := hrec4.eight
              have hNl := hrec4.lt
              obtain ⟨W5, hW5⟩ : ∃ W5, W5 = w4.setCell ⟨N, 6, none⟩ (.slice (some ⟨w4.heap.size, 0, none⟩) 1 1) := ⟨_, rfl⟩
              have hk5 : Keeps (fun b => b = N) w4 W5 := by rw [hW5]; exact (Keeps.refl _ _).setCell _ _ fun _ => rfl
              have hz5 : W5.heap.size = w4.heap.size := by rw [hW5]; simp
              have hR5 : RecAt W5 N [.int .i64 9, .bool false, .string ⟨nm.toArray⟩, .slice la m lc, .slice none 0 0, .slice none 0 0, .slice (some ⟨w4.heap.size, 0, none⟩) 1 1, .slice none 0 0] := by rw [hW5]; exact hrec4.set 6 _
              obtain ⟨W6, hW6⟩ : ∃ W6, W6 = W5.alloc (.cells #[.int .i64 k, .bool b, .string s, .slice a0 n0 c0, .slice a1 n1 c1, .slice a2 n2 c2, .slice a3 n3 c3, .slice a4 n4 c4] 40) := ⟨_, rfl⟩
              have hk6 : Keeps (fun _ => False) W5 W6 := by rw [hW6]; exact (Keeps.refl _ _).alloc _
              have hxn := HXN.out
              have hXw2 : X ≤ w4.heap.size := by have h1 := HXS.out; have h2 := hG4.zr.lt; omega
              have hlw : X ≤ wl.heap.size := by have h1 := HXS.out; have h2 := HGL.out.zr.lt; omega
              have hdd : RdL w4 (fun b => X ≤ b ∧ b ≠ N) dd [.int .i64 k, .bool b, .string s, .slice a0 n0 c0, .slice a1 n1 c1, .slice a2 n2 c2, .slice a3 n3 c3, .slice a4 n4 c4] := hrd.mono fun b _ hb => by
                have h1 := HGL.out.rc.lt
                have h2 : wl.heap.size ≤ b := hb
                exact ⟨by omega, by omega⟩
              have hrow := rd_lit (k := 8) (m := 1) (Ty := 40) (hdd.keep hk5 (fun b _ hb e => hb.2 e)) (by have h1 := hnd.len; omega) (by decide) hW6 ⟨by omega, by omega⟩
              rw [hz5] at hrow
              have hall := (hG4.all2.keep hk5 (fun b _ hb e => hb.2 e)).keep hk6 (fun _ _ _ h => h)
              have HRD3 := Lib.hid (show RdL W6 (fun b => X ≤ b) (ndR 9 false nm acc [] [] dd []) [.int .i64 9, .bool false, .string ⟨nm.toArray⟩, .slice la m lc, .slice none 0 0, .slice none 0 0, .slice (some ⟨w4.heap.size, 0, none⟩) 1 1, .slice none 0 0] from by
                obtain ⟨a0, a1, a2, a3, a4, a5, _, a7, _⟩ := hall
                exact RdL.mono (fun b _ hb => hb.1) (D := fun b => X ≤ b ∧ b ≠ N) ⟨a0, a1, a2, a3, a4, a5, hrow, a7, trivial⟩)
              have hkk := (hG4.kp.fresh hk5 (fun b e => by omega)).trans hk6 (fun _ _ h => h.elim)
              have HK3 := Lib.hid hkk
              have HS3 := Lib.hid ((hG4.rs.keep hk5 (fun b hb e => by have h1 := hG4.rs.cs; have h2 := HCS.out; omega) (fun e => by have h2 := HCS.out; omega)).keep0 hk6)
              have HR3 := Lib.hid ((hG4.zr.keep hk5 (fun e => by omega)).keep hk6 (fun h => h))
              obtain ⟨⟨q0, q1, q2, q3, q4, q5, q6, q7⟩, _⟩ := (hR5.keep hk6 (fun h => h)).eight
              have hnl6 := (hR5.keep hk6 (fun h => h)).lt
              have HX3 := Lib.hid HXN.out.1
              have HND := Lib.hid (show NdD (ndR 9 false nm acc [] [] dd []) from ⟨_, _, _, _, _, _, _, _, rfl⟩)
              have HW5 := Lib.hid hW5
              have HW6 := Lib.hid hW6
              clear hcm hres0 hrs4 hk4 hnd hrd ht4 hG4 hrec4 hW5 hk5 hz5 hR5 hW6 hk6 hdd hrow hall hkk
              go_upto_region 14 with fail
              rw [← HW5.out, ← HW6.out]
              obtain ⟨⟨z0, z1, z2, z3, z4, z5, z6, z7⟩, y0, y1, y2, y3, y4, y5, y6, y7⟩ := HR3.out.eight
              have hzl := HR3.out.lt
              go_wp2_with fail
              refine bodyPost_ret (v := .agg #[.int .i64 9, .bool false, .string ⟨nm.toArray⟩, .slice la m lc, .slice none 0 0, .slice none 0 0, .slice (some ⟨w4.heap.size, 0, none⟩) 1 1, .slice none 0 0]) (by simp [results, Tryd.results85, go_sem, z0, z1, z2, z3, z4, z5, z6, z7]) rfl ?_
              obtain ⟨f1, f2, f3⟩ := nd_fin HK3.out HS3.out HX3.out HCS.out HRD3.out (set8_keeps W6 w.heap.size (.int .i64 9) (.bool false) (.string ⟨nm.toArray⟩) (.slice la m lc) (.slice none 0 0) (.slice none 0 0) (.slice (some ⟨w4.heap.size, 0, none⟩) 1 1) (.slice none 0 0))
              rw [HRX.out]
              exact ⟨[.int .i64 9, .bool false, .string ⟨nm.toArray⟩, .slice la m lc, .slice none 0 0, .slice none 0 0, .slice (some ⟨w4.heap.size, 0, none⟩) 1 1, .slice none 0 0], ⟨rfl, _, by omega, HT4.out, f1, f2⟩, rfl, HND.out, f3⟩
          | false =>
            have HRX := Lib.hid (show res = .error 2 by rw [HRL1.out, hq1, hq2]; rfl)
            refine (isOp_any wc B cs n I d tv T [10] false HGC.out.rs hq2).mono ?_
            rintro e wd ⟨rfl, hk⟩
            have HK3 := Lib.hid (HGC.out.kp.trans hk (fun _ _ h => h.elim))
            clear hk hq1 hq2
            go_wp2_with fail
            refine (need_no _).mono ?_
            rintro e we ⟨rfl, rfl⟩
            go_wp2_with fail
            refine ⟨rfl, ?_⟩
            rw [HRX.out]
            exact ⟨rfl, HK3.out⟩
    | false =>
      have HIS := Lib.hid (is_any w5 B cs n j5 d tv T [105, 110] false HG5.out.rs (by decide) hin)
      have HRES2 := Lib.hid (show res = eachT (commandF K) nm [wordR [atP]] (goF (isOpF [59] (T.drop j5)) (T.drop j5)) by rw [HRES1.out, ← HT5.out, hin, if_neg (by simp)]; rfl)
      clear hin
      refine HIS.out.mono ?_
      rintro e w6 ⟨rfl, j6, hj6, ht6, hrs6, hk6⟩
      have hG6 := HG5.out.move HCS.out HXN.out.1 HXN.out.2 hk6 hrs6
      have HT6 := Lib.hid (show T.drop j6 = T.drop j5 from ht6)
      have hrec6 := (show RecAt w6 N [.int .i64 9, .bool false, .string ⟨nm.toArray⟩, .slice none 0 0, .slice none 0 0, .slice none 0 0, .slice none 0 0, .slice none 0 0] from hG6.rc)
      obtain ⟨⟨x0, x1, x2, x3, x4, x5, x6, x7⟩, xf0, xf1, xf2, xf3, xf4, xf5, xf6, xf7⟩ := hrec6.eight
      have hNl := hrec6.lt
      obtain ⟨Wa, hWa⟩ : ∃ Wa, Wa = w6.setCell ⟨N, 3, none⟩ (.slice (some ⟨w6.heap.size + 1, 0, none⟩) 1 1) := ⟨_, rfl⟩
      obtain ⟨Wb, hWb⟩ : ∃ Wb, Wb = Wa.alloc (.cells #[.int .i64 3, .string ⟨#[]⟩, .string ⟨#[64]⟩, .string ⟨#[]⟩, .slice none 0 0, .bool true] 34) := ⟨_, rfl⟩
      obtain ⟨Wc, hWc⟩ : ∃ Wc, Wc = Wb.alloc (.cells #[.slice (some ⟨w6.heap.size, 0, none⟩) 1 1] 32) := ⟨_, rfl⟩
      have HGC := Lib.hid (gi_words hG6 HCS.out HXN.out.1 HXN.out.2 (by have h1 := HXS.out; have h2 := hG6.zr.lt; omega) (by rw [hWa]; rfl) hWb hWc)
      have HWA := Lib.hid hWa
      have HWB := Lib.hid hWb
      have HWC := Lib.hid hWc
      clear hrs6 hk6 ht6 HIS HRES1 hG6 hrec6 hWa hWb hWc
      go_wp2_with fail
      rw [← HWA.out, ← HWB.out, ← HWC.out]
      obtain ⟨la, hla⟩ : ∃ la, la = some (⟨w6.heap.size + 1, 0, none⟩ : Addr) := ⟨_, rfl⟩
      rw [← hla] at HGC
      clear hla HWA HWB HWC x0 x1 x2 x3 x4 x5 x6 x7 xf0 xf1 xf2 xf3 xf4 xf5 xf6 xf7
      obtain ⟨q, hq⟩ : ∃ q, isOpF [59] (T.drop j6) = q := ⟨_, rfl⟩
      refine (opP_any Wc B cs n j6 d tv T [59] q HGC.out.rs hq).mono ?_
      rintro e wd ⟨rfl, jd, hjd, htd, hrsd, hkd⟩
      have HGD := Lib.hid (HGC.out.move HCS.out HXN.out.1 HXN.out.2 hkd hrsd)
      have HRL2 := Lib.hid (show res = eachT (commandF K) nm [wordR [atP]] (T.drop jd) by rw [HRES2.out, ← HT6.out, hq, htd])
      have hjdT := hrsd.i
      clear hrsd hkd htd HGC HRES2 hq
      have key : ∀ (Q : Prop), (q = true → Q) → (q = false → Q) → Q := fun Q h1 h2 => by cases q; exact h2 rfl; exact h1 rfl
      refine key _ (fun hq => ?_) (fun hq => ?_)
      all_goals
        subst hq
        have HT0 := Lib.hid (show res = eachT (commandF K) nm [wordR [atP]] (T.drop jd) by exact HRL2.out)
        go_wp2_with fail
        refine (lines_any wd B cs n jd d tv T HGD.out.rs).mono ?_
        rintro e wl ⟨rfl, jl, hjl, htl, hrsl, hkl⟩
        have HGL := Lib.hid (HGD.out.move HCS.out HXN.out.1 HXN.out.2 hkl hrsl)
        have HTL := Lib.hid htl
        clear hrsl hkl htl
        go_wp2_with fail
        refine (body_any K HC.out wl B cs n jl d tv T HGL.out.rs HD.out).mono ?_
        intro e w4 hp
        rw [HTL.out] at hp
        have hres0 := HT0.out
        unfold eachT at hres0
        cases hcm : bodyF (commandF K) (linesF (T.drop jd)) with
        | error y =>
          rw [hcm] at hp hres0
          obtain ⟨rfl, hk4⟩ := hp
          have HRX := Lib.hid (show res = .error y from hres0)
          have HK3 := Lib.hid (HGL.out.kp.trans hk4 (fun _ _ h => h))
          clear hcm hk4 hres0
          go_wp2_with fail
          refine ⟨rfl, ?_⟩
          rw [HRX.out]
          exact ⟨rfl, HK3.out⟩
        | ok dr =>
          obtain ⟨dd, r⟩ := dr
          rw [hcm] at hp hres0
          obtain ⟨vs, ⟨rfl, j4, hj4, ht4, hrs4, hk4⟩, _, hnd, hrd⟩ := hp
          obtain ⟨k, b, s, a0, n0, c0, a1, n1, c1, a2, n2, c2, a3, n3, c3, a4, n4, c4, rfl⟩ := nd_vals hnd hrd
          have HRX := Lib.hid (show res = .ok (ndR 9 false nm [wordR [atP]] [] [] dd [], r) from hres0)
          have hG4 := HGL.out.move HCS.out HXN.out.1 HXN.out.2 hk4 hrs4
          have HT4 := Lib.hid ht4
          have hrec4 := (show RecAt w4 N [.int .i64 9, .bool false, .string ⟨nm.toArray⟩, .slice la 1 1, .slice none 0 0, .slice none 0 0, .slice none 0 0, .slice none 0 0] from hG4.rc)
          obtain ⟨⟨x0, x1, x2, x3, x4, x5, x6, x7⟩, xf0, xf1, xf2, xf3, xf4, xf5, xf6, xf7⟩ := hrec4.eight
          have hNl := hrec4.lt
          obtain ⟨W5, hW5⟩ : ∃ W5, W5 = w4.setCell ⟨N, 6, none⟩ (.slice (some ⟨w4.heap.size, 0, none⟩) 1 1) := ⟨_, rfl⟩
          have hk5 : Keeps (fun b => b = N) w4 W5 := by rw [hW5]; exact (Keeps.refl _ _).setCell _ _ fun _ => rfl
          have hz5 : W5.heap.size = w4.heap.size := by rw [hW5]; simp
          have hR5 : RecAt W5 N [.int .i64 9, .bool false, .string ⟨nm.toArray⟩, .slice la 1 1, .slice none 0 0, .slice none 0 0, .slice (some ⟨w4.heap.size, 0, none⟩) 1 1, .slice none 0 0] := by rw [hW5]; exact hrec4.set 6 _
          obtain ⟨W6, hW6⟩ : ∃ W6, W6 = W5.alloc (.cells #[.int .i64 k, .bool b, .string s, .slice a0 n0 c0, .slice a1 n1 c1, .slice a2 n2 c2, .slice a3 n3 c3, .slice a4 n4 c4] 40) := ⟨_, rfl⟩
          have hk6 : Keeps (fun _ => False) W5 W6 := by rw [hW6]; exact (Keeps.refl _ _).alloc _
          have hxn := HXN.out
          have hXw2 : X ≤ w4.heap.size := by have h1 := HXS.out; have h2 := hG4.zr.lt; omega
          have hlw : X ≤ wl.heap.size := by have h1 := HXS.out; have h2 := HGL.out.zr.lt; omega
          have hdd : RdL w4 (fun b => X ≤ b ∧ b ≠ N) dd [.int .i64 k, .bool b, .string s, .slice a0 n0 c0, .slice a1 n1 c1, .slice a2 n2 c2, .slice a3 n3 c3, .slice a4 n4 c4] := hrd.mono fun b _ hb => by
            have h1 := HGL.out.rc.lt
            have h2 : wl.heap.size ≤ b := hb
            exact ⟨by omega, by omega⟩
          have hrow := rd_lit (k := 8) (m := 1) (Ty := 40) (hdd.keep hk5 (fun b _ hb e => hb.2 e)) (by have h1 := hnd.len; omega) (by decide) hW6 ⟨by omega, by omega⟩
          rw [hz5] at hrow
          have hall := (hG4.all2.keep hk5 (fun b _ hb e => hb.2 e)).keep hk6 (fun _ _ _ h => h)
          have HRD3 := Lib.hid (show RdL W6 (fun b => X ≤ b) (ndR 9 false nm [wordR [atP]] [] [] dd []) [.int .i64 9, .bool false, .string ⟨nm.toArray⟩, .slice la 1 1, .slice none 0 0, .slice none 0 0, .slice (some ⟨w4.heap.size, 0, none⟩) 1 1, .slice none 0 0] from by
            obtain ⟨a0, a1, a2, a3, a4, a5, _, a7, _⟩ := hall
            exact RdL.mono (fun b _ hb => hb.1) (D := fun b => X ≤ b ∧ b ≠ N) ⟨a0, a1, a2, a3, a4, a5, hrow, a7, trivial⟩)
          have hkk := (hG4.kp.fresh hk5 (fun b e => by omega)).trans hk6 (fun _ _ h => h.elim)
          have HK3 := Lib.hid hkk
          have HS3 := Lib.hid ((hG4.rs.keep hk5 (fun b hb e => by have h1 := hG4.rs.cs; have h2 := HCS.out; omega) (fun e => by have h2 := HCS.out; omega)).keep0 hk6)
          have HR3 := Lib.hid ((hG4.zr.keep hk5 (fun e => by omega)).keep hk6 (fun h => h))
          obtain ⟨⟨q0, q1, q2, q3, q4, q5, q6, q7⟩, _⟩ := (hR5.keep hk6 (fun h => h)).eight
          have hnl6 := (hR5.keep hk6 (fun h => h)).lt
          have HX3 := Lib.hid HXN.out.1
          have HND := Lib.hid (show NdD (ndR 9 false nm [wordR [atP]] [] [] dd []) from ⟨_, _, _, _, _, _, _, _, rfl⟩)
          have HW5 := Lib.hid hW5
          have HW6 := Lib.hid hW6
          clear hcm hres0 hrs4 hk4 hnd hrd ht4 hG4 hrec4 hW5 hk5 hz5 hR5 hW6 hk6 hdd hrow hall hkk
          go_upto_region 14 with fail
          rw [← HW5.out, ← HW6.out]
          obtain ⟨⟨z0, z1, z2, z3, z4, z5, z6, z7⟩, y0, y1, y2, y3, y4, y5, y6, y7⟩ := HR3.out.eight
          have hzl := HR3.out.lt
          go_wp2_with fail
          refine bodyPost_ret (v := .agg #[.int .i64 9, .bool false, .string ⟨nm.toArray⟩, .slice la 1 1, .slice none 0 0, .slice none 0 0, .slice (some ⟨w4.heap.size, 0, none⟩) 1 1, .slice none 0 0]) (by simp [results, Tryd.results85, go_sem, z0, z1, z2, z3, z4, z5, z6, z7]) rfl ?_
          obtain ⟨f1, f2, f3⟩ := nd_fin HK3.out HS3.out HX3.out HCS.out HRD3.out (set8_keeps W6 w.heap.size (.int .i64 9) (.bool false) (.string ⟨nm.toArray⟩) (.slice la 1 1) (.slice none 0 0) (.slice none 0 0) (.slice (some ⟨w4.heap.size, 0, none⟩) 1 1) (.slice none 0 0))
          rw [HRX.out]
          exact ⟨[.int .i64 9, .bool false, .string ⟨nm.toArray⟩, .slice la 1 1, .slice none 0 0, .slice none 0 0, .slice (some ⟨w4.heap.size, 0, none⟩) 1 1, .slice none 0 0], ⟨rfl, _, by omega, HT4.out, f1, f2⟩, rfl, HND.out, f3⟩
end Go.Proofs.YtcahifkiiabioaaDoor
namespace Go.Proofs.YtcahifkiiabioaaDoor
open Go.RowKit
set_option linter.unusedVariables false

def ArmS (vs : List Value) : Prop := ∃ (a : Option Addr) (m c : Nat) (a2 : Option Addr) (m2 c2 : Nat), vs = [.slice a m c, .slice a2 m2 c2]
def armT (cmd : List Tk → PR (List Dt)) (ps : List Dt) (r : List Tk) : PR (List Dt) := if moreF (linesF r) then (match listF cmd (linesF r) with
    | .error e => .error e
    | .ok (b, r3) => .ok ([.sl 1 ps, .sl 8 b], r3))
  else .ok ([.sl 1 ps, .sl 8 []], linesF r)
def armEnd (cmd : List Tk → PR (List Dt)) (p : PR (List Dt)) : PR (List Dt) := match p with
  | .error e => .error e
  | .ok (ps, r1) => if isOpF [41] r1 then armT cmd ps r1.tail else .error 2
theorem arm_eq (cmd : List Tk → PR (List Dt)) (scr : Bs → Except Nat Unit) (ts : List Tk) : armF cmd scr ts = match wordF scr (goF (isOpF [40] ts) ts) with
  | .error e => .error e
  | .ok (w, r) => armEnd cmd (patsLoop scr (r.length + 1) [wordR w] r) := by
  unfold armF armEnd armT needOp
  have e : goF (isOpF [40] ts) ts = if isOpF [40] ts then ts.tail else ts := by cases isOpF [40] ts <;> rfl
  rw [e]
  cases wordF scr (if isOpF [40] ts = true then ts.tail else ts) with
  | error y => rfl
  | ok x =>
    obtain ⟨w, r⟩ := x
    dsimp only
    cases patsLoop scr (r.length + 1) [wordR w] r with
    | error y => rfl
    | ok z =>
      obtain ⟨ps, r1⟩ := z
      dsimp only
      cases isOpF [41] r1 <;> rfl
theorem patsLoop_succ (scr : Bs → Except Nat Unit) (n : Nat) (acc : List Dt) (ts : List Tk) : patsLoop scr (n + 1) acc ts = if isOpF [124] ts then (match wordF scr ts.tail with
    | .error e => .error e
    | .ok (w, r) => patsLoop scr n (acc ++ [wordR w]) r) else .ok (acc, ts) := rfl
theorem new_rec2 (w : World) (v0 v1 : Value) (t : TypeId) : RecAt (w.alloc (.cells #[v0, v1] t)) w.heap.size [v0, v1] := ⟨t, heap_alloc_new w _⟩

set_option maxRecDepth 100000 in
set_option maxHeartbeats 16000000 in
theorem arm_any (K : Nat) (hcmd : CmdOK K) (hscr : ScrOK K) (w : World) (B cs n i d : Nat) (tv : Value) (T : List Tk) (h : RS w B cs tv n T i d) (hd : d + K = 40) :
    Calls Tryd.prog 95 #[.pointer (some ⟨cs, 0, none⟩)] w (RecPost w B cs tv n T i d ArmS (armF (commandF K) (scrF (commandF K)) (T.drop i))) := by
  obtain ⟨res, hres⟩ : ∃ res, res = armF (commandF K) (scrF (commandF K)) (T.drop i) := ⟨_, rfl⟩
  rw [← hres]
  rw [arm_eq] at hres
  obtain ⟨q, hq⟩ : ∃ q, isOpF [40] (T.drop i) = q := ⟨_, rfl⟩
  rw [hq] at hres
  have hc8 := cells_node
  have hc1 := cells_word
  obtain ⟨i0, hi0, hz0, hz1, hz2⟩ := info_parts info_word
  have HRES := Lib.hid hres
  have HH := Lib.hid h
  have HC := Lib.hid hcmd
  have HSC := Lib.hid hscr
  have HD := Lib.hid hd
  have HQ := Lib.hid hq
  have HCS := Lib.hid h.lt
  clear hres h hcmd hd hscr hq
  go_enter Tryd.func95, Tryd.ntmps95
  go_wp2_with fail
  obtain ⟨W, hW⟩ : ∃ W, W = w.alloc (.cells #[.slice none 0 0, .slice none 0 0] 58) := ⟨_, rfl⟩
  have hkW : Keeps (fun _ => False) w W := by rw [hW]; exact (Keeps.refl _ _).alloc _
  have HR := Lib.hid (show RecAt W w.heap.size [.slice none 0 0, .slice none 0 0] by rw [hW]; exact new_rec2 _ _ _ _)
  rw [← hW]
  have HKW := Lib.hid hkW
  have HX := Lib.hid (show w.heap.size < W.heap.size by rw [hW]; simp)
  have HXE := Lib.hid (show W.heap.size = w.heap.size + 1 by rw [hW]; simp)
  have HS := Lib.hid (HH.out.keep0 hkW)
  clear hkW hW
  refine (opP_any W B cs n i d tv T [40] q HS.out HQ.out).mono ?_
  rintro e w1 ⟨rfl, j1, hj1, ht1, hrs1, hk1⟩
  have HS1 := Lib.hid hrs1
  have HK1 := Lib.hid hk1
  have HRES1 := Lib.hid (show res = match wordF (scrF (commandF K)) (T.drop j1) with
    | .error e => .error e
    | .ok (w, r) => armEnd (commandF K) (patsLoop (scrF (commandF K)) (r.length + 1) [wordR w] r) by rw [HRES.out, ht1])
  clear hrs1 hk1 ht1 HRES
  have key : ∀ (Q : Prop), (q = true → Q) → (q = false → Q) → Q := fun Q h1 h2 => by cases q; exact h2 rfl; exact h1 rfl
  refine key _ (fun hq => ?_) (fun hq => ?_)
  all_goals
    subst hq
    go_wp2_with fail
    refine (word_tok K HSC.out w1 B cs n j1 d tv T HS1.out HD.out).mono ?_
    intro e w2 hp
    cases hcm : wordF (scrF (commandF K)) (T.drop j1) with
    | error y =>
      rw [hcm] at hp
      obtain ⟨rfl, hk2⟩ := hp
      have HRX := Lib.hid (show res = .error y by rw [HRES1.out, hcm])
      have HK3 := Lib.hid (((HKW.out.mono (fun _ _ h => h.elim)).trans HK1.out (fun _ _ h => h)).trans hk2 (fun _ _ h => h))
      clear hcm hk2
      go_wp2_with fail
      refine ⟨rfl, ?_⟩
      rw [HRX.out]
      exact ⟨rfl, HK3.out⟩
    | ok xr =>
      obtain ⟨x, r⟩ := xr
      rw [hcm] at hp
      obtain ⟨wa, wc, mm, ⟨rfl, j2, hj2, ht2, hrs2, hk2⟩, hp4, hsm4⟩ := hp
      obtain ⟨wl, hwl⟩ : ∃ wl, wl = x.length := ⟨_, rfl⟩
      rw [← hwl] at hp4
      rw [← hwl]
      have HRES2 := Lib.hid (show res = armEnd (commandF K) (patsLoop (scrF (commandF K)) (T.length - j2 + 1) [wordR x] (T.drop j2)) by rw [HRES1.out, hcm]; dsimp only; rw [← ht2, List.length_drop])
      have hsz1 := HK1.out.size
      obtain ⟨wi, hwi⟩ : ∃ wi, wi = w2.alloc (.cells #[.slice wa wl wc] 32) := ⟨_, rfl⟩
      have hrdx : RdL w2 (fun b => W.heap.size ≤ b) [wordR x] [.slice wa wl wc] := ⟨(rd_pts hp4).mono (fun b _ hb => Nat.le_trans hsz1 hb), trivial⟩
      have hli := LI.one (w0 := W) (k := 1) (Ty := 32) (w1 := wi) hrs2 hrdx (HK1.out.trans hk2 (fun _ _ h => h)) rfl hwi
      obtain ⟨wr, hwr⟩ : ∃ wr, wr = wi.alloc (.cells #[.slice (some ⟨w2.heap.size, 0, none⟩) 1 1, .slice none 0 0] 58) := ⟨_, rfl⟩
      have hk3 : Keeps (fun _ => False) wi wr := by rw [hwr]; exact (Keeps.refl _ _).alloc _
      have hzi : wi.heap.size = w2.heap.size + 1 := by rw [hwi]; simp
      obtain ⟨N, hN⟩ : ∃ N, N = w2.heap.size + 1 := ⟨_, rfl⟩
      obtain ⟨X, hX⟩ : ∃ X, X = W.heap.size := ⟨_, rfl⟩
      have hl3 := hli.keep0 hk3
      have hcw := HCS.out
      have hxw := HX.out
      have hsz := hk2.size
      have HG0 := Lib.hid (show GI w wr B cs tv n T d X N [.slice none 0 0, .slice none 0 0] [] [.sl 8 []] [] [.slice none 0 0] 1 32 j2 1 (some ⟨w2.heap.size, 0, none⟩) 1 [wordR x] from
        ⟨hl3.rs, (HKW.out.mono (fun _ _ h => h.elim)).trans hl3.kp (fun _ _ h => h), HR.out.keep hl3.kp (fun e => by omega), by rw [hwr, hN, ← hzi]; exact new_rec2 _ _ _ _,
          ((by
            obtain ⟨us, hu, ho⟩ := hli.own
            exact ⟨us, (hu.lt.keep hk3 (fun _ _ _ e => e)).mono fun b _ hb => ⟨⟨by have := hb.1.1; omega, by have := hb.2; omega⟩, hb.1.2⟩, by rw [hwr]; exact ho.alloc _⟩) : OwnD wr (fun b => X ≤ b ∧ b ≠ N) (.slice (some ⟨w2.heap.size, 0, none⟩) 1 1) 1 32 1 [wordR x]),
          fun g hg => by have h3 : w2.heap.size = g := Option.some.inj hg; omega, trivial, ⟨.nil _ _ _ (Nat.zero_le _), trivial⟩⟩)
      have HXN := Lib.hid (show w.heap.size < X ∧ w.heap.size < N by omega)
      have HXS := Lib.hid (show X ≤ w.heap.size + 1 by have := HXE.out; omega)
      have HN := Lib.hid hN
      have HWR := Lib.hid hwr
      have HWI := Lib.hid hwi
      have HJ := Lib.hid (show i ≤ j2 by omega)
      have hw1 := word_len hcm
      rw [List.length_drop, ← ht2, List.length_drop] at hw1
      have hj2T := hrs2.i
      clear hcm hk2 hrs2 hp4 hsm4 ht2 hk3 hN hX hwr hwi hzi hl3 hli hsz hxw hcw hrdx hwl hsz1
      go_wp2_with fail
      rw [← HWI.out, ← HWR.out, ← HN.out]
      obtain ⟨la, hla⟩ : ∃ la, la = some (⟨w2.heap.size, 0, none⟩ : Addr) := ⟨_, rfl⟩
      rw [← hla] at HG0
      clear hla HWR HWI
      go_loopg [] (T.length - j2) (fun g wr => ∃ (I M m : Nat) (la : Option Addr) (lc : Nat) (acc : List Dt), g = T.length - I ∧ i ≤ I ∧ m ≤ I ∧ T.length - I + 1 ≤ M ∧ Hid (GI w wr B cs tv n T d X N [.slice none 0 0, .slice none 0 0] [] [.sl 8 []] [] [.slice none 0 0] 1 32 I m la lc acc) ∧ Hid (res = armEnd (commandF K) (patsLoop (scrF (commandF K)) M acc (T.drop I))))
      case atStart => exact ⟨j2, _, 1, la, 1, [wordR x], rfl, HJ.out, by omega, Nat.le_refl _, HG0, HRES2⟩
      case round =>
        obtain ⟨I, M, m, la, lc, acc, hgk, hiI, hmI, hM, HG, HRL⟩ := hrel
        have HGK := Lib.hid hgk
        have hIT := HG.out.rs.i
        have hT2 := HG.out.rs.sm.1
        obtain ⟨M, rfl⟩ : ∃ M', M = M' + 1 := ⟨M - 1, by omega⟩
        clear hgk HG0 HRES2
        cases ho : isOpF [124] (T.drop I) with
        | true =>
          have hpos := toks_pos (op_pos ho)
          have HOP := Lib.hid (opP_any wr B cs n I d tv T [124] true HG.out.rs ho)
          have HRL0 := Lib.hid (show res = armEnd (commandF K) (match wordF (scrF (commandF K)) (T.drop I).tail with
            | .error e => .error e
            | .ok (w, r) => patsLoop (scrF (commandF K)) M (acc ++ [wordR w]) r) by rw [HRL.out, patsLoop_succ, ho, if_pos rfl])
          clear ho HRL
          go_wp2_with fail
          refine HOP.out.mono ?_
          rintro e wb ⟨rfl, jb, hjb, htb, hrsb, hkb⟩
          have htb' : T.drop jb = (T.drop I).tail := htb
          have HRL1 := Lib.hid (show res = armEnd (commandF K) (match wordF (scrF (commandF K)) (T.drop jb) with
            | .error e => .error e
            | .ok (w, r) => patsLoop (scrF (commandF K)) M (acc ++ [wordR w]) r) by rw [HRL0.out, htb'])
          have hjb' : I + 1 ≤ jb := by
            have := congrArg List.length htb'
            rw [List.length_drop, List.length_tail, List.length_drop] at this
            omega
          have HGB := Lib.hid (HG.out.move HCS.out HXN.out.1 HXN.out.2 hkb hrsb)
          clear hrsb hkb htb htb' HOP HG HRL0
          have hXw := HXN.out.1
          have HXW := Lib.hid (show X ≤ wb.heap.size by have h1 := HGB.out.zr.lt; have h2 := HXS.out; omega)
          obtain ⟨⟨x0, x1⟩, ⟨xf0, xf1⟩⟩ := (show RecAt wb N [.slice la m lc, .slice none 0 0] from HGB.out.rc).two
          have hNl := HGB.out.rc.lt
          cases hcm : wordF (scrF (commandF K)) (T.drop jb) with
          | error y =>
            have HRX := Lib.hid (show res = .error y by rw [HRL1.out, hcm]; rfl)
            have HCM := Lib.hid hcm
            clear hcm
            go_wp2_with fail
            refine wp_region_held_drew (S := (fun w' => RecAt w' N [.slice la m lc, .slice none 0 0])) (by kernel_rfl) (HGB.out.rc.keep (S := fun _ => False) (Keeps.refl _ _).drew (fun h => h)) (fun hHeld => ?_)
            refine wpAnyH_take (i := 0) (v := .pointer (some ⟨N, 0, none⟩)) rfl (by kernel_rfl) (by kernel_rfl) (by kernel_rfl) (fun _ _ _ h => h) (Or.inl ⟨by rfl, ?_⟩) hHeld ?_
            · (intro ww hSw; have ⟨⟨g0, g1⟩, _⟩ := RecAt.two hSw; go_simp; all_goals (first | done | with_reducible rfl))
            refine wpAnyH_take (i := 1) (v := .slice la m lc) rfl (by kernel_rfl) (by kernel_rfl) (by kernel_rfl) (fun _ _ _ h => h) (Or.inl ⟨by rfl, ?_⟩) hHeld ?_
            · (intro ww hSw; have ⟨⟨g0, g1⟩, _⟩ := RecAt.two hSw; go_simp; all_goals (first | done | with_reducible rfl))
            refine wpAnyH_take (i := 2) (v := .pointer (some ⟨cs, 0, none⟩)) rfl (by kernel_rfl) (by kernel_rfl) (by kernel_rfl) (fun _ _ _ h => h) (Or.inl ⟨by rfl, ?_⟩) hHeld ?_
            · (intro ww hSw; have ⟨⟨g0, g1⟩, _⟩ := RecAt.two hSw; go_simp; all_goals (first | done | with_reducible rfl))
            refine wpAnyH_ready (rs := [3]) (by kernel_rfl) (by simp) ?_
            refine AllReadyH.cons rfl (fun KK hK => ?_) AllReadyH.nil
            go_simp
            go_at_call 91
            refine (word_tok K HSC.out _ B cs n jb d tv T (HGB.out.rs.keep0 (Keeps.refl _ _).drew) HD.out).mono ?_
            rw [HCM.out]
            rintro e w4 ⟨rfl, hk4⟩
            have HK4 := Lib.hid ((HGB.out.kp.drew).trans hk4 (fun _ _ h => h))
            clear hk4
            go_wp2_with fail
            refine ⟨rfl, ?_⟩
            rw [HRX.out]
            exact ⟨rfl, HK4.out⟩
          | ok dr =>
            obtain ⟨x, r2⟩ := dr
            have HRX := Lib.hid (show res = armEnd (commandF K) (patsLoop (scrF (commandF K)) M (acc ++ [wordR x]) r2) by rw [HRL1.out, hcm])
            have HCM := Lib.hid hcm
            clear hcm
            have HCALL := Lib.hid (show ∀ e w4, WordPost2 wb.drew B cs tv n T jb d (.ok (x, r2)) e w4 → ∃ (j4 : Nat) (wa : Option Addr) (wl wc : Nat) (xs : List Value), e = .returned (.slice wa wl wc) ∧ (jb ≤ j4 ∧ j4 ≤ T.length ∧ T.drop j4 = r2 ∧ True) ∧ w4.ownsRow 0 32 1 (.slice la m lc) m xs ∧ RecAt w4 N [.slice la m lc, .slice none 0 0] ∧
                (∀ (gg cap : Nat) (w5 : World) (o : Obj), w5.ownsRow 0 32 1 (.slice (some ⟨gg, 0, none⟩) (m + 1) cap) (m + 1) (xs ++ [.slice wa wl wc]) → (w4.alloc o).grownBy w5 (Value.slice la m lc).ownBlock → ((Value.slice la m lc).ownBlock = some gg ∨ gg = w4.heap.size + 1) →
                  RecAt w5 N [.slice la m lc, .slice none 0 0] ∧ GI w (w5.setCell ⟨N, 0, none⟩ (.slice (some ⟨gg, 0, none⟩) (m + 1) cap)) B cs tv n T d X N [.slice none 0 0, .slice none 0 0] [] [.sl 8 []] [] [.slice none 0 0] 1 32 j4 (m + 1) (some ⟨gg, 0, none⟩) cap (acc ++ [wordR x])) from fun e w4 hp => by
              obtain ⟨wa, wc, mm, ⟨he, j4, hj4, ht4, hrs4, hk4⟩, hp4, hsm4⟩ := hp
              have hrd4 : RdL w4 (fun b => wb.heap.size ≤ b) [wordR x] [.slice wa x.length wc] := ⟨rd_pts hp4, trivial⟩
              obtain ⟨wl, hwl⟩ : ∃ wl, wl = x.length := ⟨_, rfl⟩
              rw [← hwl] at he hrd4
              obtain ⟨xs, ho, hrec, hF⟩ := HGB.out.more HCS.out HXN.out.1 HXN.out.2 HXW.out ((Keeps.refl (fun b => b = cs) wb).drew.trans hk4 (fun _ _ h => h)) hrs4 hrd4
              exact ⟨j4, wa, wl, wc, xs, he, ⟨hj4, hrs4.i, ht4, trivial⟩, ho, hrec, hF⟩)
            go_wp2_with fail
            go_region_law (first
              | (refine step_append_lies _ (by rfl) _ _ _ (by rfl) 0 32 i0 _ 1 24 Tryd.underlying35 hi0 hz0 hz1 hz2 rfl (by omega) (.slice la m lc) m xs (by rfl) (hown4.alloc _)
                  ⟨w4.heap.size, 0, none⟩ 1 1 [.slice wa wl wc] (by rfl) (by rfl) (World.news_of_block (cs := #[.slice wa wl wc]) (t := 32) (fr := (0, 0)) (heap_alloc_new w4 _)) (by simp [Value.oneCell'])
                  (by omega) (by unfold maxLen; omega) (by omega) (by simp) (w4.heap.size + 1) (by simp) ?_; intro gg cap w5 hown2 hgrow hat hlt5
                 obtain ⟨hrec5, hG5⟩ := HF.out gg cap w5 _ hown2 hgrow hat
                 obtain ⟨⟨z0, z1⟩, ⟨zf0, zf1⟩⟩ := RecAt.two hrec5
                 have hN5 := hrec5.lt
                 have HG5 := Lib.hid hG5
                 clear hrec5 hG5 hown2 hgrow hat)
              | (go_simp; go_at_call 91; refine (word_tok K HSC.out _ B cs n jb d tv T (HGB.out.rs.keep0 (Keeps.refl _ _).drew) HD.out).mono ?_; rw [HCM.out]; intro e w4 hp; obtain ⟨j4, wa, wl, wc, xs, he, hJ4, hown4, hrec4, hF⟩ := HCALL.out e w4 hp; subst he; obtain ⟨⟨y0, y1⟩, ⟨yf0, yf1⟩⟩ := RecAt.two hrec4; have hN4 := hrec4.lt; have HF := Lib.hid hF; have HJ4 := Lib.hid hJ4; clear hp hF hJ4 hrec4))
            all_goals
              obtain ⟨w3, hw3⟩ : ∃ w3, w3 = w5.setCell ⟨N, 0, none⟩ (.slice (some ⟨gg, 0, none⟩) (m + 1) cap) := ⟨_, rfl⟩
              rw [← hw3] at HG5
              rw [← hw3]
              have HRN := Lib.hid (show res = armEnd (commandF K) (patsLoop (scrF (commandF K)) M (acc ++ [wordR x]) (T.drop j4)) by rw [HRX.out, HJ4.out.2.2.1])
              have hj4a := HJ4.out.1
              have hj4T := HJ4.out.2.1
              clear hw3 HJ4 HCM
              go_wp2_with fail
              go_roundg (T.length - j4)
              case measure => have := HGK.out; omega
              case rel => exact ⟨j4, M, m + 1, _, cap, acc ++ [wordR x], rfl, by omega, by omega, by omega, HG5, HRN⟩
        | false =>
          have HOP := Lib.hid (opP_any wr B cs n I d tv T [124] false HG.out.rs ho)
          have HRL1 := Lib.hid (show res = if isOpF [41] (T.drop I) then armT (commandF K) acc (T.drop I).tail else .error 2 by rw [HRL.out, patsLoop_succ, ho, if_neg (by simp)]; rfl)
          clear ho HRL
          go_wp2_with fail
          refine HOP.out.mono ?_
          rintro e wb ⟨rfl, jb, hjb, htb, hrsb, hkb⟩
          have HTB := Lib.hid (show T.drop jb = T.drop I from htb)
          have HGB := Lib.hid (HG.out.move HCS.out HXN.out.1 HXN.out.2 hkb hrsb)
          clear hrsb hkb htb HOP HG
          go_wp2_with fail
          cases hq2 : isOpF [41] (T.drop jb) with
          | false =>
            have HRX := Lib.hid (show res = .error 2 by rw [HRL1.out, ← HTB.out, hq2]; rfl)
            refine (opP_any wb B cs n jb d tv T [41] false HGB.out.rs hq2).mono ?_
            rintro e wc2 ⟨rfl, jc, hjc, htc, hrsc, hkc⟩
            have HK3 := Lib.hid (HGB.out.kp.trans hkc (fun _ _ h => h))
            clear hrsc hkc htc hq2
            go_wp2_with fail
            refine (need_no _).mono ?_
            rintro e wd ⟨rfl, rfl⟩
            go_wp2_with fail
            refine ⟨rfl, ?_⟩
            rw [HRX.out]
            exact ⟨rfl, HK3.out⟩
          | true =>
            have HRL2 := Lib.hid (show res = armT (commandF K) acc (T.drop jb).tail by rw [HRL1.out, ← HTB.out, hq2]; rfl)
            refine (opP_any wb B cs n jb d tv T [41] true HGB.out.rs hq2).mono ?_
            rintro e wc2 ⟨rfl, jc, hjc, htc, hrsc, hkc⟩
            have HTC := Lib.hid (show T.drop jc = (T.drop jb).tail from htc)
            have HGC := Lib.hid (HGB.out.move HCS.out HXN.out.1 HXN.out.2 hkc hrsc)
            clear hrsc hkc htc hq2 HGB
            go_wp2_with fail
            refine (need_yes _).mono ?_
            rintro e wd ⟨rfl, rfl⟩
            go_wp2_with fail
            refine (lines_any wc2 B cs n jc d tv T HGC.out.rs).mono ?_
            rintro e wl2 ⟨rfl, jl, hjl, htl, hrsl, hkl⟩
            have HGL := Lib.hid (HGC.out.move HCS.out HXN.out.1 HXN.out.2 hkl hrsl)
            have HRL3 := Lib.hid (show res = if moreF (T.drop jl) then (match listF (commandF K) (T.drop jl) with
                | .error e => .error e
                | .ok (b, r3) => .ok ([.sl 1 acc, .sl 8 b], r3))
              else .ok ([.sl 1 acc, .sl 8 []], T.drop jl) by rw [HRL2.out, ← HTC.out]; unfold armT; rw [htl])
            clear hrsl hkl htl HGC
            go_wp2_with fail
            cases hmo : moreF (T.drop jl) with
            | false =>
              have HRX := Lib.hid (show res = .ok ([.sl 1 acc, .sl 8 []], T.drop jl) by rw [HRL3.out, hmo]; rfl)
              refine (more_any wl2 B cs n jl d tv T false HGL.out.rs hmo).mono ?_
              rintro e w3 ⟨rfl, hk⟩
              have HG3 := Lib.hid (HGL.out.keep0 hk)
              clear hk hmo
              obtain ⟨⟨v0, v1⟩, _⟩ := (show RecAt w3 N [.slice la m lc, .slice none 0 0] from HG3.out.rc).two
              have hnl := HG3.out.rc.lt
              have HR3 := Lib.hid HG3.out.zr
              have HK3 := Lib.hid HG3.out.kp
              have HS3 := Lib.hid HG3.out.rs
              have HRD3 := Lib.hid HG3.out.all
              have HX3 := Lib.hid HXN.out.1
              obtain ⟨⟨z0, z1⟩, y0, y1⟩ := HR3.out.two
              have hzl := HR3.out.lt
              go_wp2_with fail
              refine bodyPost_ret (v := .agg #[.slice la m lc, .slice none 0 0]) (by simp [results, Tryd.results95, go_sem, z0, z1]) rfl ?_
              obtain ⟨f1, f2, f3⟩ := nd_fin HK3.out HS3.out HX3.out HCS.out HRD3.out (set2_keeps w3 w.heap.size (.slice la m lc) (.slice none 0 0))
              rw [HRX.out]
              exact ⟨[.slice la m lc, .slice none 0 0], ⟨rfl, _, by omega, rfl, f1, f2⟩, ⟨_, _, _, _, _, _, rfl⟩, f3⟩
            | true =>
              have HRL4 := Lib.hid (show res = match listF (commandF K) (T.drop jl) with
                | .error e => .error e
                | .ok (b, r3) => .ok ([.sl 1 acc, .sl 8 b], r3) by rw [HRL3.out, hmo, if_pos rfl])
              refine (more_any wl2 B cs n jl d tv T true HGL.out.rs hmo).mono ?_
              rintro e w3 ⟨rfl, hk⟩
              have HG3 := Lib.hid (HGL.out.keep0 hk)
              clear hk hmo HGL
              go_wp2_with fail
              refine (list_any K HC.out w3 B cs n jl d tv T HG3.out.rs HD.out).mono ?_
              intro e w4 hp
              cases hcm : listF (commandF K) (T.drop jl) with
              | error y =>
                rw [hcm] at hp
                obtain ⟨rfl, hk4⟩ := hp
                have HRX := Lib.hid (show res = .error y by rw [HRL4.out, hcm])
                have HK3 := Lib.hid (HG3.out.kp.trans hk4 (fun _ _ h => h))
                clear hcm hk4
                go_wp2_with fail
                refine ⟨rfl, ?_⟩
                rw [HRX.out]
                exact ⟨rfl, HK3.out⟩
              | ok dr =>
                obtain ⟨dd, r⟩ := dr
                rw [hcm] at hp
                obtain ⟨vs, ⟨rfl, j4, hj4, ht4, hrs4, hk4⟩, _, hnd, hrd⟩ := hp
                obtain ⟨k, b, s, a0, n0, c0, a1, n1, c1, a2, n2, c2, a3, n3, c3, a4, n4, c4, rfl⟩ := nd_vals hnd hrd
                have HRX := Lib.hid (show res = .ok ([.sl 1 acc, .sl 8 dd], r) by rw [HRL4.out, hcm])
                have hG4 := HG3.out.move HCS.out HXN.out.1 HXN.out.2 hk4 hrs4
                have HT4 := Lib.hid ht4
                have hrec4 := (show RecAt w4 N [.slice la m lc, .slice none 0 0] from hG4.rc)
                obtain ⟨⟨x0, x1⟩, xf0, xf1⟩ := hrec4.two
                have hNl := hrec4.lt
                obtain ⟨W5, hW5⟩ : ∃ W5, W5 = w4.setCell ⟨N, 1, none⟩ (.slice (some ⟨w4.heap.size, 0, none⟩) 1 1) := ⟨_, rfl⟩
                have hk5 : Keeps (fun b => b = N) w4 W5 := by rw [hW5]; exact (Keeps.refl _ _).setCell _ _ fun _ => rfl
                have hz5 : W5.heap.size = w4.heap.size := by rw [hW5]; simp
                have hR5 : RecAt W5 N [.slice la m lc, .slice (some ⟨w4.heap.size, 0, none⟩) 1 1] := by rw [hW5]; exact hrec4.set 1 _
                obtain ⟨W6, hW6⟩ : ∃ W6, W6 = W5.alloc (.cells #[.int .i64 k, .bool b, .string s, .slice a0 n0 c0, .slice a1 n1 c1, .slice a2 n2 c2, .slice a3 n3 c3, .slice a4 n4 c4] 40) := ⟨_, rfl⟩
                have hk6 : Keeps (fun _ => False) W5 W6 := by rw [hW6]; exact (Keeps.refl _ _).alloc _
                have hxn := HXN.out
                have hXw2 : X ≤ w4.heap.size := by have h1 := HXS.out; have h2 := hG4.zr.lt; omega
                have hlw : X ≤ w3.heap.size := by have h1 := HXS.out; have h2 := HG3.out.zr.lt; omega
                have hdd : RdL w4 (fun b => X ≤ b ∧ b ≠ N) dd [.int .i64 k, .bool b, .string s, .slice a0 n0 c0, .slice a1 n1 c1, .slice a2 n2 c2, .slice a3 n3 c3, .slice a4 n4 c4] := hrd.mono fun b _ hb => by
                  have h1 := HG3.out.rc.lt
                  have h2 : w3.heap.size ≤ b := hb
                  exact ⟨by omega, by omega⟩
                have hrow := rd_lit (k := 8) (m := 1) (Ty := 40) (hdd.keep hk5 (fun b _ hb e => hb.2 e)) (by have h1 := hnd.len; omega) (by decide) hW6 ⟨by omega, by omega⟩
                rw [hz5] at hrow
                have hall := (hG4.all2.keep hk5 (fun b _ hb e => hb.2 e)).keep hk6 (fun _ _ _ h => h)
                have HRD3 := Lib.hid (show RdL W6 (fun b => X ≤ b) [.sl 1 acc, .sl 8 dd] [.slice la m lc, .slice (some ⟨w4.heap.size, 0, none⟩) 1 1] from by
                  obtain ⟨a0, a1, _⟩ := hall
                  exact RdL.mono (fun b _ hb => hb.1) (D := fun b => X ≤ b ∧ b ≠ N) ⟨a0, hrow, trivial⟩)
                have hkk := (hG4.kp.fresh hk5 (fun b e => by omega)).trans hk6 (fun _ _ h => h.elim)
                have HK3 := Lib.hid hkk
                have HS3 := Lib.hid ((hG4.rs.keep hk5 (fun b hb e => by have h1 := hG4.rs.cs; have h2 := HCS.out; omega) (fun e => by have h2 := HCS.out; omega)).keep0 hk6)
                have HR3 := Lib.hid ((hG4.zr.keep hk5 (fun e => by omega)).keep hk6 (fun h => h))
                obtain ⟨⟨q0, q1⟩, _⟩ := (hR5.keep hk6 (fun h => h)).two
                have hnl6 := (hR5.keep hk6 (fun h => h)).lt
                have HX3 := Lib.hid HXN.out.1
                have HW5 := Lib.hid hW5
                have HW6 := Lib.hid hW6
                clear hcm hrs4 hk4 hnd hrd ht4 hG4 hrec4 hW5 hk5 hz5 hR5 hW6 hk6 hdd hrow hall hkk
                go_upto_region 9 with fail
                rw [← HW5.out, ← HW6.out]
                obtain ⟨⟨z0, z1⟩, y0, y1⟩ := HR3.out.two
                have hzl := HR3.out.lt
                go_wp2_with fail
                refine bodyPost_ret (v := .agg #[.slice la m lc, .slice (some ⟨w4.heap.size, 0, none⟩) 1 1]) (by simp [results, Tryd.results95, go_sem, z0, z1]) rfl ?_
                obtain ⟨f1, f2, f3⟩ := nd_fin HK3.out HS3.out HX3.out HCS.out HRD3.out (set2_keeps W6 w.heap.size (.slice la m lc) (.slice (some ⟨w4.heap.size, 0, none⟩) 1 1))
                rw [HRX.out]
                exact ⟨[.slice la m lc, .slice (some ⟨w4.heap.size, 0, none⟩) 1 1], ⟨rfl, _, by omega, HT4.out, f1, f2⟩, ⟨_, _, _, _, _, _, rfl⟩, f3⟩
end Go.Proofs.YtcahifkiiabioaaDoor
namespace Go.Proofs.YtcahifkiiabioaaDoor
open Go.RowKit
set_option linter.unusedVariables false

theorem cells_arm : Tryd.prog.cellsOf 58 = 2 := by kernel_rfl
theorem info_arm : (Tryd.prog.info? 58).map (fun i => (i.zero, i.size, i.bytes)) = some (some (.agg #[.slice none 0 0, .slice none 0 0]), 2, 48) := by kernel_rfl
def casesEnd (w : List Pt) (p : PR (List Dt)) : PR (List Dt) := match p with
  | .error e => .error e
  | .ok (l, r2) => .ok (ndR 10 false [] [wordR w] [] [] [] l, r2)
theorem cases_eq (cmd : List Tk → PR (List Dt)) (scr : Bs → Except Nat Unit) (ts : List Tk) : casesF cmd scr ts = match wordF scr ts with
  | .error e => .error e
  | .ok (w, r) => if isWF [105, 110] (linesF r) then casesEnd w (armsLoop cmd scr ((linesF (linesF r).tail).length + 1) [] (linesF (linesF r).tail)) else .error 2 := by
  unfold casesF casesEnd needW
  cases wordF scr ts with
  | error y => rfl
  | ok x =>
    obtain ⟨w, r⟩ := x
    dsimp only
    cases isWF [105, 110] (linesF r) with
    | false => rfl
    | true =>
      simp only [if_true]
      cases armsLoop cmd scr ((linesF (linesF r).tail).length + 1) [] (linesF (linesF r).tail) with
      | error y => rfl
      | ok z => rfl
theorem armsLoop_succ (cmd : List Tk → PR (List Dt)) (scr : Bs → Except Nat Unit) (n : Nat) (acc : List Dt) (ts : List Tk) : armsLoop cmd scr (n + 1) acc ts = if isWF [101, 115, 97, 99] ts then .ok (acc, ts.tail) else match armF cmd scr ts with
    | .error e => .error e
    | .ok (a, r) => if isOpF [59, 59] r then armsLoop cmd scr n (acc ++ a) (linesF r.tail) else if isWF [101, 115, 97, 99] r then .ok (acc ++ a, r.tail) else .error 2 := by
  conv => lhs; unfold armsLoop needW
  cases isWF [101, 115, 97, 99] ts with
  | true => rfl
  | false =>
    simp only [Bool.false_eq_true, if_false]
    cases armF cmd scr ts with
    | error y => rfl
    | ok x =>
      obtain ⟨a, r⟩ := x
      dsimp only
      cases isOpF [59, 59] r with
      | true => rfl
      | false => cases isWF [101, 115, 97, 99] r <;> rfl

set_option maxRecDepth 100000 in
set_option maxHeartbeats 16000000 in
theorem cases_any (K : Nat) (hcmd : CmdOK K) (hscr : ScrOK K) (w : World) (B cs n i d : Nat) (tv : Value) (T : List Tk) (h : RS w B cs tv n T i d) (hd : d + K = 40) :
    Calls Tryd.prog 86 #[.pointer (some ⟨cs, 0, none⟩)] w (NodePost w B cs tv n T i d BareS (casesF (commandF K) (scrF (commandF K)) (T.drop i))) := by
  obtain ⟨res, hres⟩ : ∃ res, res = casesF (commandF K) (scrF (commandF K)) (T.drop i) := ⟨_, rfl⟩
  rw [← hres]
  rw [cases_eq] at hres
  have HSC := Lib.hid hscr
  clear hscr
  have hc1 := cells_word
  have hc2 := cells_arm
  have hc8 := cells_node
  obtain ⟨i0, hi0, hz0, hz1, hz2⟩ := info_parts info_arm
  have HRES := Lib.hid hres
  have HH := Lib.hid h
  have HC := Lib.hid hcmd
  have HD := Lib.hid hd
  have HCS := Lib.hid h.lt
  clear hres h hcmd hd
  go_enter Tryd.func86, Tryd.ntmps86
  go_wp2_with fail
  obtain ⟨W, hW⟩ : ∃ W, W = w.alloc (.cells #[.int .i64 0, .bool false, .string ⟨#[]⟩, .slice none 0 0, .slice none 0 0, .slice none 0 0, .slice none 0 0, .slice none 0 0] 40) := ⟨_, rfl⟩
  have hkW : Keeps (fun _ => False) w W := by rw [hW]; exact (Keeps.refl _ _).alloc _
  have HR := Lib.hid (show RecAt W w.heap.size [.int .i64 0, .bool false, .string ⟨#[]⟩, .slice none 0 0, .slice none 0 0, .slice none 0 0, .slice none 0 0, .slice none 0 0] by rw [hW]; exact new_rec8 _ _ _ _ _ _ _ _ _ _)
  rw [← hW]
  have HKW := Lib.hid hkW
  have HX := Lib.hid (show w.heap.size < W.heap.size by rw [hW]; simp)
  have HXE := Lib.hid (show W.heap.size = w.heap.size + 1 by rw [hW]; simp)
  have HS := Lib.hid (HH.out.keep0 hkW)
  clear hkW hW

  refine (word_tok K HSC.out W B cs n i d tv T HS.out HD.out).mono ?_
  intro e w2 hp
  cases hcm : wordF (scrF (commandF K)) (T.drop i) with
  | error y =>
    rw [hcm] at hp
    obtain ⟨rfl, hk2⟩ := hp
    have HRX := Lib.hid (show res = .error y by rw [HRES.out, hcm])
    have HK3 := Lib.hid ((HKW.out.mono (fun _ _ h => h.elim)).trans hk2 (fun _ _ h => h))
    clear hcm hk2
    go_wp2_with fail
    refine ⟨rfl, ?_⟩
    rw [HRX.out]
    exact ⟨rfl, HK3.out⟩
  | ok xr =>
    obtain ⟨x0, r⟩ := xr
    rw [hcm] at hp
    obtain ⟨wa, wc, mm, ⟨rfl, j2, hj2, ht2, hrs2, hk2⟩, hp4, hsm4⟩ := hp
    obtain ⟨wl, hwl⟩ : ∃ wl, wl = x0.length := ⟨_, rfl⟩
    rw [← hwl] at hp4
    rw [← hwl]
    have HRES2 := Lib.hid (show res = if isWF [105, 110] (linesF (T.drop j2)) then casesEnd x0 (armsLoop (commandF K) (scrF (commandF K)) ((linesF (linesF (T.drop j2)).tail).length + 1) [] (linesF (linesF (T.drop j2)).tail)) else .error 2 by rw [HRES.out, hcm]; dsimp only; rw [ht2])
    obtain ⟨RB, hRB⟩ : ∃ RB, RB = w2.heap.size := ⟨_, rfl⟩
    obtain ⟨wi, hwi⟩ : ∃ wi, wi = w2.alloc (.cells #[.slice wa wl wc] 32) := ⟨_, rfl⟩
    have hki : Keeps (fun _ => False) w2 wi := by rw [hwi]; exact (Keeps.refl _ _).alloc _
    have hzi : wi.heap.size = w2.heap.size + 1 := by rw [hwi]; simp
    have hsz := hk2.size
    have hrow : Rd wi (fun b => W.heap.size ≤ b) (.sl 1 [wordR x0]) (.slice (some ⟨RB, 0, none⟩) 1 1) := by
      rw [hRB]
      exact rd_lit (k := 1) (m := 1) (Ty := 32) (D := fun b => W.heap.size ≤ b) (cs := [wordR x0]) (vs := [.slice wa wl wc]) ⟨rd_pts hp4, trivial⟩ rfl (by decide) hwi hsz
    obtain ⟨N, hN⟩ : ∃ N, N = w2.heap.size + 1 := ⟨_, rfl⟩
    obtain ⟨X, hX⟩ : ∃ X, X = W.heap.size := ⟨_, rfl⟩
    obtain ⟨wr, hwr⟩ : ∃ wr, wr = wi.alloc (.cells #[.int .i64 10, .bool false, .string ⟨#[]⟩, .slice (some ⟨RB, 0, none⟩) 1 1, .slice none 0 0, .slice none 0 0, .slice none 0 0, .slice none 0 0] 40) := ⟨_, rfl⟩
    have hk3 : Keeps (fun _ => False) wi wr := by rw [hwr]; exact (Keeps.refl _ _).alloc _
    have hkk := (hk2.trans hki (fun _ _ h => h.elim)).trans hk3 (fun _ _ h => h.elim)
    have hcw := HCS.out
    have hxw := HX.out
    have hrow2 : RdL wi (fun b => W.heap.size ≤ b) [.sl 1 [wordR x0]] [.slice (some ⟨RB, 0, none⟩) 1 1] := ⟨hrow, trivial⟩
    have hrow3 : RdL wr (fun b => (X ≤ b ∧ b ≠ N) ∧ (Value.slice none 0 0).ownBlock ≠ some b) [.sl 1 [wordR x0]] [.slice (some ⟨RB, 0, none⟩) 1 1] := (hrow2.lt.keep hk3 (fun _ _ _ h => h)).mono fun b _ hb => ⟨⟨by have := hb.1; omega, by have := hb.2; omega⟩, fun e => (by cases e)⟩
    have HG0 := Lib.hid (show GI w wr B cs tv n T d X N [.int .i64 0, .bool false, .string ⟨#[]⟩, .slice none 0 0, .slice none 0 0, .slice none 0 0, .slice none 0 0, .slice none 0 0] [.int ((10 : Nat) : Int), .bool false, .str [], .sl 1 [wordR x0], .sl 2 [], .sl 2 [], .sl 8 []] [] [.int .i64 10, .bool false, .string ⟨#[]⟩, .slice (some ⟨RB, 0, none⟩) 1 1, .slice none 0 0, .slice none 0 0, .slice none 0 0] [] 2 58 j2 0 none 0 [] from
      ⟨(hrs2.keep0 hki).keep0 hk3, (HKW.out.mono (fun _ _ h => h.elim)).trans hkk (fun _ _ h => h), HR.out.keep hkk (fun e => by omega), by rw [hwr, hN, ← hzi]; exact new_rec8 _ _ _ _ _ _ _ _ _ _, OwnD.nil _ _ _ _, fun g hg => (by cases hg),
        ⟨.int _, .bool _, .str _, hrow3.1, .nil _ _ _ (Nat.zero_le _), .nil _ _ _ (Nat.zero_le _), .nil _ _ _ (Nat.zero_le _), trivial⟩, trivial⟩)
    have HXN := Lib.hid (show w.heap.size < X ∧ w.heap.size < N by omega)
    have HXS := Lib.hid (show X ≤ w.heap.size + 1 by have := HXE.out; omega)
    have HN := Lib.hid hN
    have HRB := Lib.hid hRB
    have HWR := Lib.hid hwr
    have HWI := Lib.hid hwi
    have HJ := Lib.hid hj2
    have hj2T := hrs2.i
    clear hcm hk2 hrs2 hp4 hsm4 ht2 hk3 hN hX hwr hwi hzi hsz hxw hcw hwl hki hrow hrow2 hrow3 hkk HRES hRB
    go_wp2_with fail
    rw [← HWI.out, ← HRB.out, ← HWR.out, HRB.out, ← HN.out, ← HRB.out]
    clear HWR HWI
    refine (lines_any wr B cs n j2 d tv T HG0.out.rs).mono ?_
    rintro e w3 ⟨rfl, j3, hj3, ht3, hrs3, hk3⟩
    have HG3 := Lib.hid (HG0.out.move HCS.out HXN.out.1 HXN.out.2 hk3 hrs3)
    have HRES3 := Lib.hid (show res = if isWF [105, 110] (T.drop j3) then casesEnd x0 (armsLoop (commandF K) (scrF (commandF K)) ((linesF (T.drop j3).tail).length + 1) [] (linesF (T.drop j3).tail)) else .error 2 by rw [HRES2.out, ht3])
    clear hrs3 hk3 ht3 HRES2
    go_wp2_with fail
    cases hin : isWF [105, 110] (T.drop j3) with
    | false =>
      have HRX := Lib.hid (show res = .error 2 by rw [HRES3.out, hin]; rfl)
      refine (is_any w3 B cs n j3 d tv T [105, 110] false HG3.out.rs (by decide) hin).mono ?_
      rintro e w4 ⟨rfl, j4, hj4, ht4, hrs4, hk4⟩
      have HK3 := Lib.hid (HG3.out.kp.trans hk4 (fun _ _ h => h))
      clear hrs4 hk4 ht4 hin
      go_wp2_with fail
      refine (need_no _).mono ?_
      rintro e w5 ⟨rfl, rfl⟩
      go_wp2_with fail
      refine ⟨rfl, ?_⟩
      rw [HRX.out]
      exact ⟨rfl, HK3.out⟩
    | true =>
      have HRES4 := Lib.hid (show res = casesEnd x0 (armsLoop (commandF K) (scrF (commandF K)) ((linesF (T.drop j3).tail).length + 1) [] (linesF (T.drop j3).tail)) by rw [HRES3.out, hin, if_pos rfl])
      refine (is_any w3 B cs n j3 d tv T [105, 110] true HG3.out.rs (by decide) hin).mono ?_
      rintro e w4 ⟨rfl, j4, hj4, ht4, hrs4, hk4⟩
      have HG4 := Lib.hid (HG3.out.move HCS.out HXN.out.1 HXN.out.2 hk4 hrs4)
      have HT4 := Lib.hid (show T.drop j4 = (T.drop j3).tail from ht4)
      clear hrs4 hk4 ht4 hin
      go_wp2_with fail
      refine (need_yes _).mono ?_
      rintro e w5 ⟨rfl, rfl⟩
      go_wp2_with fail
      refine (lines_any w4 B cs n j4 d tv T HG4.out.rs).mono ?_
      rintro e w5 ⟨rfl, j5, hj5, ht5, hrs5, hk5⟩
      have HG5 := Lib.hid (HG4.out.move HCS.out HXN.out.1 HXN.out.2 hk5 hrs5)
      have HRES5 := Lib.hid (show res = casesEnd x0 (armsLoop (commandF K) (scrF (commandF K)) (T.length - j5 + 1) [] (T.drop j5)) by rw [HRES4.out, ← HT4.out, ← ht5, List.length_drop])
      clear hrs5 hk5 ht5 HG0 HG3 HG4 HRES3 HRES4
      go_wp2_with fail
      go_loopg [] (T.length - j5) (fun g wr => ∃ (I M m : Nat) (la : Option Addr) (lc : Nat) (acc : List Dt), g = T.length - I ∧ i ≤ I ∧ m ≤ I ∧ T.length - I + 1 ≤ M ∧ Hid (GI w wr B cs tv n T d X N [.int .i64 0, .bool false, .string ⟨#[]⟩, .slice none 0 0, .slice none 0 0, .slice none 0 0, .slice none 0 0, .slice none 0 0] [.int ((10 : Nat) : Int), .bool false, .str [], .sl 1 [wordR x0], .sl 2 [], .sl 2 [], .sl 8 []] [] [.int .i64 10, .bool false, .string ⟨#[]⟩, .slice (some ⟨RB, 0, none⟩) 1 1, .slice none 0 0, .slice none 0 0, .slice none 0 0] [] 2 58 I m la lc acc) ∧ Hid (res = casesEnd x0 (armsLoop (commandF K) (scrF (commandF K)) M acc (T.drop I))))
      case atStart => exact ⟨j5, _, 0, none, 0, [], rfl, by have := HJ.out; omega, Nat.zero_le _, Nat.le_refl _, HG5, HRES5⟩
      case round =>
        obtain ⟨I, M, m, la, lc, acc, hgk, hiI, hmI, hM, HG, HRL⟩ := hrel
        have HGK := Lib.hid hgk
        have hIT := HG.out.rs.i
        have hT2 := HG.out.rs.sm.1
        obtain ⟨M, rfl⟩ : ∃ M', M = M' + 1 := ⟨M - 1, by omega⟩
        clear hgk HG5 HRES5
        cases hq : isWF [101, 115, 97, 99] (T.drop I) with
        | true =>
          have HRX := Lib.hid (show res = .ok (ndR 10 false [] [wordR x0] [] [] [] acc, (T.drop I).tail) by rw [HRL.out, armsLoop_succ, hq, if_pos rfl]; rfl)
          have HIS := Lib.hid (is_any wr B cs n I d tv T [101, 115, 97, 99] true HG.out.rs (by decide) hq)
          clear hq HRL
          go_wp2_with fail
          refine HIS.out.mono ?_
          rintro e w9 ⟨rfl, j9, hj9, ht9, hrs9, hk9⟩
          have HT9 := Lib.hid (show T.drop j9 = (T.drop I).tail from ht9)
          have HG9 := Lib.hid (HG.out.move HCS.out HXN.out.1 HXN.out.2 hk9 hrs9)
          clear hrs9 hk9 ht9 HIS HG
          have hrec := (show RecAt w9 N [.int .i64 10, .bool false, .string ⟨#[]⟩, .slice (some ⟨RB, 0, none⟩) 1 1, .slice none 0 0, .slice none 0 0, .slice none 0 0, .slice la m lc] from HG9.out.rc)
          obtain ⟨⟨v0, v1, v2, v3, v4, v5, v6, v7⟩, _⟩ := hrec.eight
          have hnl := hrec.lt
          have HR3 := Lib.hid HG9.out.zr
          have HK3 := Lib.hid HG9.out.kp
          have HS3 := Lib.hid HG9.out.rs
          have HRD3 := Lib.hid HG9.out.all
          have HX3 := Lib.hid HXN.out.1
          have HND := Lib.hid (show NdD (ndR 10 false [] [wordR x0] [] [] [] acc) from ⟨_, _, _, _, _, _, _, _, rfl⟩)
          clear hrec
          obtain ⟨⟨z0, z1, z2, z3, z4, z5, z6, z7⟩, y0, y1, y2, y3, y4, y5, y6, y7⟩ := HR3.out.eight
          have hzl := HR3.out.lt
          go_wp2_with fail
          refine bodyPost_ret (v := .agg #[.int .i64 10, .bool false, .string ⟨#[]⟩, .slice (some ⟨RB, 0, none⟩) 1 1, .slice none 0 0, .slice none 0 0, .slice none 0 0, .slice la m lc]) (by simp [results, Tryd.results86, go_sem, z0, z1, z2, z3, z4, z5, z6, z7]) rfl ?_
          obtain ⟨f1, f2, f3⟩ := nd_fin HK3.out HS3.out HX3.out HCS.out HRD3.out (set8_keeps w9 w.heap.size (.int .i64 10) (.bool false) (.string ⟨#[]⟩) (.slice (some ⟨RB, 0, none⟩) 1 1) (.slice none 0 0) (.slice none 0 0) (.slice none 0 0) (.slice la m lc))
          rw [HRX.out]
          exact ⟨[.int .i64 10, .bool false, .string ⟨#[]⟩, .slice (some ⟨RB, 0, none⟩) 1 1, .slice none 0 0, .slice none 0 0, .slice none 0 0, .slice la m lc], ⟨rfl, _, by omega, HT9.out, f1, f2⟩, rfl, HND.out, f3⟩
        | false =>
          have HRL1 := Lib.hid (show res = casesEnd x0 (match armF (commandF K) (scrF (commandF K)) (T.drop I) with
            | .error e => .error e
            | .ok (a, r) => if isOpF [59, 59] r then armsLoop (commandF K) (scrF (commandF K)) M (acc ++ a) (linesF r.tail) else if isWF [101, 115, 97, 99] r then .ok (acc ++ a, r.tail) else .error 2) by rw [HRL.out, armsLoop_succ, hq, if_neg (by simp)])
          have HIS := Lib.hid (is_any wr B cs n I d tv T [101, 115, 97, 99] false HG.out.rs (by decide) hq)
          clear hq HRL
          go_wp2_with fail
          refine HIS.out.mono ?_
          rintro e wb ⟨rfl, jb, hjb, htb, hrsb, hkb⟩
          have HTB := Lib.hid (show T.drop jb = T.drop I from htb)
          have HGB := Lib.hid (HG.out.move HCS.out HXN.out.1 HXN.out.2 hkb hrsb)
          clear hrsb hkb htb HIS HG
          go_wp2_with fail
          refine (arm_any K HC.out HSC.out wb B cs n jb d tv T HGB.out.rs HD.out).mono ?_
          intro e w4 hp
          rw [HTB.out] at hp
          cases hcm : armF (commandF K) (scrF (commandF K)) (T.drop I) with
          | error y =>
            rw [hcm] at hp
            obtain ⟨rfl, hk4⟩ := hp
            have HRX := Lib.hid (show res = .error y by rw [HRL1.out, hcm]; rfl)
            have HK3 := Lib.hid (HGB.out.kp.trans hk4 (fun _ _ h => h))
            clear hcm hk4
            go_wp2_with fail
            refine ⟨rfl, ?_⟩
            rw [HRX.out]
            exact ⟨rfl, HK3.out⟩
          | ok dr =>
            obtain ⟨d2, r2⟩ := dr
            rw [hcm] at hp
            obtain ⟨vs, ⟨rfl, j4, hj4, ht4, hrs4, hk4⟩, ⟨a, m2, c, a2, m3, c2, rfl⟩, hrd4⟩ := hp
            have HRL2 := Lib.hid (show res = casesEnd x0 (if isOpF [59, 59] (T.drop j4) then armsLoop (commandF K) (scrF (commandF K)) M (acc ++ d2) (linesF (T.drop j4).tail) else if isWF [101, 115, 97, 99] (T.drop j4) then .ok (acc ++ d2, (T.drop j4).tail) else .error 2) by rw [HRL1.out, hcm, ht4])
            have hal := arm_len (command_len K) hcm
            rw [List.length_drop, ← ht4, List.length_drop] at hal
            have hj4T := hrs4.i
            obtain ⟨we, hwe⟩ : ∃ we, we = w4.alloc (.cells #[.slice a m2 c, .slice a2 m3 c2] 58) := ⟨_, rfl⟩
            have hke : Keeps (fun _ => False) w4 we := by rw [hwe]; exact (Keeps.refl _ _).alloc _
            have hAr := Lib.hid (show RecAt we w4.heap.size [.slice a m2 c, .slice a2 m3 c2] by rw [hwe]; exact new_rec2 _ _ _ _)
            obtain ⟨xs, hown4, hrec4, hF⟩ := HGB.out.more HCS.out HXN.out.1 HXN.out.2 (by have h1 := HXS.out; have h2 := HGB.out.zr.lt; omega) (hk4.trans hke (fun _ _ h => h.elim)) (hrs4.keep0 hke) (hrd4.keep hke (fun _ _ _ h => h))
            have hrec4' := (show RecAt we N [.int .i64 10, .bool false, .string ⟨#[]⟩, .slice (some ⟨RB, 0, none⟩) 1 1, .slice none 0 0, .slice none 0 0, .slice none 0 0, .slice la m lc] from hrec4)
            obtain ⟨⟨x0a, x1, x2, x3, x4, x5, x6, x7⟩, xf0, xf1, xf2, xf3, xf4, xf5, xf6, xf7⟩ := hrec4'.eight
            have hNl := hrec4.lt
            have HF := Lib.hid (show ∀ (gg cap : Nat) (w5 : World) (o : Obj), w5.ownsRow 0 58 2 (.slice (some ⟨gg, 0, none⟩) (m + 1) cap) (m + 1) (xs ++ [.slice a m2 c, .slice a2 m3 c2]) → (we.alloc o).grownBy w5 (Value.slice la m lc).ownBlock → ((Value.slice la m lc).ownBlock = some gg ∨ gg = we.heap.size + 1) →
              RecAt w5 N [.int .i64 10, .bool false, .string ⟨#[]⟩, .slice (some ⟨RB, 0, none⟩) 1 1, .slice none 0 0, .slice none 0 0, .slice none 0 0, .slice la m lc] ∧ GI w (w5.setCell ⟨N, 7, none⟩ (.slice (some ⟨gg, 0, none⟩) (m + 1) cap)) B cs tv n T d X N [.int .i64 0, .bool false, .string ⟨#[]⟩, .slice none 0 0, .slice none 0 0, .slice none 0 0, .slice none 0 0, .slice none 0 0] [.int ((10 : Nat) : Int), .bool false, .str [], .sl 1 [wordR x0], .sl 2 [], .sl 2 [], .sl 8 []] [] [.int .i64 10, .bool false, .string ⟨#[]⟩, .slice (some ⟨RB, 0, none⟩) 1 1, .slice none 0 0, .slice none 0 0, .slice none 0 0] [] 2 58 j4 (m + 1) (some ⟨gg, 0, none⟩) cap (acc ++ d2) from fun gg cap w5 o => hF gg cap w5 o)
            have HWE := Lib.hid hwe
            obtain ⟨⟨r0, r1⟩, _⟩ := hAr.out.two
            have hAl := hAr.out.lt
            clear hcm hk4 hrs4 hrd4 ht4 hF hwe hke hrec4 hrec4' HGB HRL1
            go_upto_region 7 with fail
            rw [← HWE.out]
            go_wp2_with (at_builtin; refine wpList_append_lies _ rfl (.tmp 22) (.tmp 24) _ rfl 0 58 i0 _ 2 48 Tryd.underlying38 hi0 hz0 hz1 hz2 rfl (by omega) (.slice la m lc) m xs rfl (hown4.alloc _) ⟨we.heap.size, 0, none⟩ 1 1 [.slice a m2 c, .slice a2 m3 c2] rfl rfl (World.news_of_block (cs := #[.slice a m2 c, .slice a2 m3 c2]) (t := 58) (fr := (0, 0)) (heap_alloc_new we _)) (by simp [Value.oneCell']) (by omega) (by unfold maxLen; omega) (by omega) (by simp) (we.heap.size + 1) (by simp) ?_; intro gg cap w5 hown2 hgrow hat hlt5; obtain ⟨hrec5, hG5⟩ := HF.out gg cap w5 _ hown2 hgrow hat; obtain ⟨⟨z0, z1, z2, z3, z4, z5, z6, z7⟩, zf0, zf1, zf2, zf3, zf4, zf5, zf6, zf7⟩ := RecAt.eight hrec5; have hN5 := hrec5.lt; have HG5 := Lib.hid hG5; clear hrec5 hG5 hown2 hgrow hat)
            obtain ⟨w6, hw6⟩ : ∃ w6, w6 = w5.setCell ⟨N, 7, none⟩ (.slice (some ⟨gg, 0, none⟩) (m + 1) cap) := ⟨_, rfl⟩
            rw [← hw6] at HG5
            rw [← hw6]
            clear hw6 z0 z1 z2 z3 z4 z5 z6 z7 zf0 zf1 zf2 zf3 zf4 zf5 zf6 zf7 HF x0a x1 x2 x3 x4 x5 x6 x7 xf0 xf1 xf2 xf3 xf4 xf5 xf6 xf7 r0 r1 hN5 hNl hAl
            cases hq2 : isOpF [59, 59] (T.drop j4) with
            | true =>
              have HRL3 := Lib.hid (show res = casesEnd x0 (armsLoop (commandF K) (scrF (commandF K)) M (acc ++ d2) (linesF (T.drop j4).tail)) by rw [HRL2.out, hq2, if_pos rfl])
              refine (opP_any w6 B cs n j4 d tv T [59, 59] true HG5.out.rs hq2).mono ?_
              rintro e w7 ⟨rfl, j7, hj7, ht7, hrs7, hk7⟩
              have HT7 := Lib.hid (show T.drop j7 = (T.drop j4).tail from ht7)
              have HG7 := Lib.hid (HG5.out.move HCS.out HXN.out.1 HXN.out.2 hk7 hrs7)
              clear hrs7 hk7 ht7 hq2 HG5
              go_wp2_with fail
              refine (lines_any w7 B cs n j7 d tv T HG7.out.rs).mono ?_
              rintro e w8 ⟨rfl, j8, hj8, ht8, hrs8, hk8⟩
              have HG8 := Lib.hid (HG7.out.move HCS.out HXN.out.1 HXN.out.2 hk8 hrs8)
              have HRN := Lib.hid (show res = casesEnd x0 (armsLoop (commandF K) (scrF (commandF K)) M (acc ++ d2) (T.drop j8)) by rw [HRL3.out, ← HT7.out, ht8])
              have hj8T := hrs8.i
              clear hrs8 hk8 ht8
              go_wp2_with fail
              go_roundg (T.length - j8)
              case measure => have := HGK.out; omega
              case rel => exact ⟨j8, M, m + 1, _, cap, acc ++ d2, rfl, by omega, by omega, by omega, HG8, HRN⟩
            | false =>
              refine (opP_any w6 B cs n j4 d tv T [59, 59] false HG5.out.rs hq2).mono ?_
              rintro e w7 ⟨rfl, j7, hj7, ht7, hrs7, hk7⟩
              have HT7 := Lib.hid (show T.drop j7 = T.drop j4 from ht7)
              have HG7 := Lib.hid (HG5.out.move HCS.out HXN.out.1 HXN.out.2 hk7 hrs7)
              have HRL3 := Lib.hid (show res = casesEnd x0 (if isWF [101, 115, 97, 99] (T.drop j7) then .ok (acc ++ d2, (T.drop j7).tail) else .error 2) by rw [HRL2.out, hq2, HT7.out]; rfl)
              clear hrs7 hk7 ht7 hq2 HG5
              go_wp2_with fail
              cases hq3 : isWF [101, 115, 97, 99] (T.drop j7) with
              | false =>
                have HRX := Lib.hid (show res = .error 2 by rw [HRL3.out, hq3]; rfl)
                refine (is_any w7 B cs n j7 d tv T [101, 115, 97, 99] false HG7.out.rs (by decide) hq3).mono ?_
                rintro e w8 ⟨rfl, j8, hj8, ht8, hrs8, hk8⟩
                have HK3 := Lib.hid (HG7.out.kp.trans hk8 (fun _ _ h => h))
                clear hrs8 hk8 ht8 hq3
                go_wp2_with fail
                refine (need_no _).mono ?_
                rintro e w9 ⟨rfl, rfl⟩
                go_wp2_with fail
                refine ⟨rfl, ?_⟩
                rw [HRX.out]
                exact ⟨rfl, HK3.out⟩
              | true =>
                have HRX := Lib.hid (show res = .ok (ndR 10 false [] [wordR x0] [] [] [] (acc ++ d2), (T.drop j7).tail) by rw [HRL3.out, hq3]; rfl)
                refine (is_any w7 B cs n j7 d tv T [101, 115, 97, 99] true HG7.out.rs (by decide) hq3).mono ?_
                rintro e w9 ⟨rfl, j9, hj9, ht9, hrs9, hk9⟩
                have HT9 := Lib.hid (show T.drop j9 = (T.drop j7).tail from ht9)
                have HG9 := Lib.hid (HG7.out.move HCS.out HXN.out.1 HXN.out.2 hk9 hrs9)
                clear hrs9 hk9 ht9 hq3 HG7
                go_wp2_with fail
                refine (need_yes _).mono ?_
                rintro e wy ⟨rfl, rfl⟩
                have hrec := (show RecAt w9 N [.int .i64 10, .bool false, .string ⟨#[]⟩, .slice (some ⟨RB, 0, none⟩) 1 1, .slice none 0 0, .slice none 0 0, .slice none 0 0, .slice (some ⟨gg, 0, none⟩) (m + 1) cap] from HG9.out.rc)
                obtain ⟨⟨v0, v1, v2, v3, v4, v5, v6, v7⟩, _⟩ := hrec.eight
                have hnl := hrec.lt
                have HR3 := Lib.hid HG9.out.zr
                have HK3 := Lib.hid HG9.out.kp
                have HS3 := Lib.hid HG9.out.rs
                have HRD3 := Lib.hid HG9.out.all
                have HX3 := Lib.hid HXN.out.1
                have HND := Lib.hid (show NdD (ndR 10 false [] [wordR x0] [] [] [] (acc ++ d2)) from ⟨_, _, _, _, _, _, _, _, rfl⟩)
                clear hrec
                obtain ⟨⟨z0, z1, z2, z3, z4, z5, z6, z7⟩, y0, y1, y2, y3, y4, y5, y6, y7⟩ := HR3.out.eight
                have hzl := HR3.out.lt
                go_wp2_with fail
                refine bodyPost_ret (v := .agg #[.int .i64 10, .bool false, .string ⟨#[]⟩, .slice (some ⟨RB, 0, none⟩) 1 1, .slice none 0 0, .slice none 0 0, .slice none 0 0, .slice (some ⟨gg, 0, none⟩) (m + 1) cap]) (by simp [results, Tryd.results86, go_sem, z0, z1, z2, z3, z4, z5, z6, z7]) rfl ?_
                obtain ⟨f1, f2, f3⟩ := nd_fin HK3.out HS3.out HX3.out HCS.out HRD3.out (set8_keeps w9 w.heap.size (.int .i64 10) (.bool false) (.string ⟨#[]⟩) (.slice (some ⟨RB, 0, none⟩) 1 1) (.slice none 0 0) (.slice none 0 0) (.slice none 0 0) (.slice (some ⟨gg, 0, none⟩) (m + 1) cap))
                rw [HRX.out]
                exact ⟨[.int .i64 10, .bool false, .string ⟨#[]⟩, .slice (some ⟨RB, 0, none⟩) 1 1, .slice none 0 0, .slice none 0 0, .slice none 0 0, .slice (some ⟨gg, 0, none⟩) (m + 1) cap], ⟨rfl, _, by omega, HT9.out, f1, f2⟩, rfl, HND.out, f3⟩
end Go.Proofs.YtcahifkiiabioaaDoor
