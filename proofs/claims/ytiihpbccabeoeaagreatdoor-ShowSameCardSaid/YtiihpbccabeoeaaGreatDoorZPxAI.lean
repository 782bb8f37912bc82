/-
  The document's own parser: a script's tree.
-/
import Derived.Test.YtiihpbccabeoeaaGreatDoorZPxAH
namespace Go.Proofs.YtiihpbccabeoeaaGreatDoor
open Go.RowKit
set_option linter.unusedVariables false
def QTPost (w : World) (Lo : Nat) (res : Except Nat (List Dt)) (e : Ending) (w' : World) : Prop := match res with
  | .ok ds => ∃ (a : Option Addr) (m c : Nat), e = .returned (.tuple #[.slice a m c, .int .i64 0]) ∧ Rd w' (fun b => Lo ≤ b) (.sl 8 ds) (.slice a m c) ∧ Keeps (fun _ => False) w w'
  | .error x => e = .returned (.tuple #[.slice none 0 0, .int .i64 (x : Nat)]) ∧ Keeps (fun _ => False) w w'
set_option maxRecDepth 100000 in
set_option maxHeartbeats 4000000 in
theorem qtree_any (K : Nat) (hcmd : QCmdOK K) (w : World) (Lo n deep : Nat) (tv : Value) (T : List Tk) (ht : TksAt w (fun b => Lo ≤ b ∧ b < w.heap.size) n T tv) (hLo : Lo ≤ w.heap.size) (hsm : SmT T) (hd : deep + K = 41) :
    Calls Tryz.prog 33 #[tv, .int .i64 (deep : Nat)] w (QTPost w Lo (treeF (commandF K) T)) := by
  obtain ⟨res, hres⟩ : ∃ res, res = treeF (commandF K) T := ⟨_, rfl⟩
  rw [← hres]
  rw [qtree_eq] at hres
  have hc8 := cells_node
  have hmT : T.length ≤ 20000 := hsm.1
  obtain ⟨ta, tc, rfl, ht1, ht2⟩ := ht.shape
  have HRES := Lib.hid hres
  have HC := Lib.hid hcmd
  have HD := Lib.hid hd
  have HTK := Lib.hid ht
  have HSM := Lib.hid hsm
  have HLO := Lib.hid hLo
  clear hres hcmd hd ht hsm hLo ht1 ht2
  obtain ⟨L, hL⟩ : ∃ L, L = T.length := ⟨_, rfl⟩
  have HL := Lib.hid hL
  rw [← hL]
  rw [← hL] at HTK hmT
  clear hL
  go_enter Tryz.func33, Tryz.ntmps33
  go_wp2_with fail
  obtain ⟨W, hW⟩ : ∃ W, W = w.alloc (.cells #[.slice ta L tc, .int .i64 0, .int .i64 0] 112) := ⟨_, rfl⟩
  rw [← hW]
  have hkW : Keeps (fun _ => False) w W := by rw [hW]; exact (Keeps.refl _ _).alloc _
  have hsz : w.heap.size < W.heap.size := by rw [hW]; simp
  have hR : RecAt W w.heap.size [.slice ta L tc, .int .i64 ((0 : Nat) : Int), .int .i64 ((0 : Nat) : Int)] := by rw [hW]; exact ⟨_, heap_alloc_new w _⟩
  have HS := Lib.hid (show QS W Lo w.heap.size w.heap.size (.slice ta L tc) n T 0 0 from ⟨hR, HTK.out.keep hkW (fun _ _ _ h => h), Nat.le_refl _, Nat.zero_le _, HSM.out⟩)
  have HSZ := Lib.hid hsz
  have HKW := Lib.hid hkW
  clear hR hkW hsz hW
  refine (qlines_any W Lo w.heap.size w.heap.size n 0 0 _ T HS.out).mono ?_
  rintro e w1 ⟨rfl, j1, _, hj1, _, ht1, hs1, hk1⟩
  replace hj1 := hj1 (Nat.zero_le _)
  rw [List.drop_zero] at ht1
  rw [← HL.out] at hj1
  obtain ⟨c0, c1, c2, f1, f2⟩ := hs1.cells
  have hlt := hs1.lt
  have hjl : (linesF T).length = L - j1 := by rw [← ht1, List.length_drop, HL.out]
  replace HS := Lib.hid hs1
  have HK1 := Lib.hid (HKW.out.trans hk1 (fun b hb e => by omega))
  have HSZ1 := Lib.hid (Nat.lt_of_lt_of_le HSZ.out hk1.size)
  have HT1 := Lib.hid ht1
  clear hs1 hk1 ht1
  by_cases hem : (linesF T).isEmpty = true
  · have hln : (linesF T).length = 0 := by rw [List.isEmpty_iff] at hem; rw [hem]; rfl
    have p1 : (L : Int) ≤ (j1 : Int) := by omega
    have p2 : ((L : Int) ≤ (j1 : Int)) = True := eq_true p1
    have HRX := Lib.hid (show res = .ok [] by rw [HRES.out, if_pos hem])
    clear hem hln hjl
    go_wp2_with fail
    go_ret2
    rw [HRX.out]
    exact ⟨none, 0, 0, rfl, .nil _ _ _ (Nat.zero_le _), HK1.out⟩
  · have hln : (linesF T).length ≠ 0 := fun h => hem (by rw [List.isEmpty_iff]; exact List.eq_nil_of_length_eq_zero h)
    have hlj : j1 < L := by omega
    have p1 : ¬ (L : Int) ≤ (j1 : Int) := by omega
    have p2 : ((L : Int) ≤ (j1 : Int)) = False := eq_false p1
    have HRX := Lib.hid (show res = treeEnd (listF (commandF K) (T.drop j1)) by rw [HRES.out, if_neg hem, HT1.out])
    clear hem hln hjl HRES
    go_wp2_with fail
    refine (qlist_any K HC.out w1 Lo w.heap.size w.heap.size n j1 deep _ T HS.out (by have := HL.out; omega) HD.out).mono ?_
    rintro e w2 ⟨v, j, x, rfl, hij, hjb, hs2, hk2, hq⟩
    have HIJ := Lib.hid hij
    have HJB := Lib.hid hjb
    have hjm : j ≤ L + 100 := by have := HL.out; have := HD.out; omega
    obtain ⟨NB, hNB⟩ : ∃ NB, NB = w2.heap.size := ⟨_, rfl⟩
    obtain ⟨y, hy⟩ : ∃ y, y = if x = 0 then (if j < L then 2 else 0) else x := ⟨_, rfl⟩
    have hfin := tree_fin hq (y := y) (by rw [hy, HL.out])
    rw [← HRX.out] at hfin
    have HFIN := Lib.hid hfin
    replace HS := Lib.hid hs2
    have HK2 := Lib.hid (HK1.out.trans hk2 (fun b hb e => by omega))
    have HSZ2 := Lib.hid (Nat.lt_of_lt_of_le HSZ1.out hk2.size)
    have HY := Lib.hid hy
    have HSZW := Lib.hid HSZ1.out
    clear hs2 hk2 hq hfin hij hjb c0 c1 c2 f1 f2 hlt HIJ HJB hlj p1 p2 HRX HKW HSZ HSZ1 HK1 hj1 hy
    go_upto_region 6 with fail
    obtain ⟨W3, hW3⟩ : ∃ W3, W3 = w2.alloc (.cells #[.int .i64 v.k, .bool v.nt, .string v.nm, .slice v.a0 v.n0 v.c0, .slice v.a1 v.n1 v.c1, .slice v.a2 v.n2 v.c2, .slice v.a3 v.n3 v.c3, .slice v.a4 v.n4 v.c4] 44) := ⟨_, rfl⟩
    rw [← hW3]
    try rw [← hNB]
    have hk3 : Keeps (fun _ => False) w2 W3 := by rw [hW3]; exact (Keeps.refl _ _).alloc _
    have HNR := Lib.hid (show RecAt W3 NB [.int .i64 v.k, .bool v.nt, .string v.nm, .slice v.a0 v.n0 v.c0, .slice v.a1 v.n1 v.c1, .slice v.a2 v.n2 v.c2, .slice v.a3 v.n3 v.c3, .slice v.a4 v.n4 v.c4] by rw [hW3, hNB]; exact new_rec8 _ _ _ _ _ _ _ _ _ _)
    obtain ⟨⟨u0, u1, u2, u3, u4, u5, u6, u7⟩, ⟨uf0, uf1, uf2, uf3, uf4, uf5, uf6, uf7⟩⟩ := HNR.out.eight
    have hNBl := HNR.out.lt
    replace HS := Lib.hid (HS.out.keep0 hk3)
    obtain ⟨c0, c1, c2, f1, f2⟩ := HS.out.cells
    have hlt := HS.out.lt
    have HK3 := Lib.hid (HK2.out.trans hk3 (fun _ _ h => h))
    have HSZ3 := Lib.hid (Nat.lt_of_lt_of_le HSZ2.out hk3.size)
    have HK23 := Lib.hid hk3
    have hne : NB ≠ w.heap.size := by have := HSZ2.out; omega
    clear hk3 hW3 hNB HK2
    by_cases hx : x = 0
    · subst hx
      by_cases hj : j < L
      · have hy2 : y = 2 := by rw [HY.out, if_pos rfl, if_pos hj]
        have HR := Lib.hid (show res = .error 2 by
          rcases HFIN.out with ⟨h9, _⟩ | ⟨_, h9⟩
          · omega
          · rw [h9, hy2])
        have q1 : (j : Int) < (L : Int) := by omega
        have q2 : ((j : Int) < (L : Int)) = True := eq_true q1
        clear HFIN HY hy2
        go_wp2_with fail
        go_quiet (fail)
        go_wp2_with fail
        go_ret2
        rw [HR.out]
        exact ⟨rfl, (HK3.out.trans (HS.out.set2 2).2 (fun b hb e => by omega)).trans ((Keeps.refl (fun _ => False) _).drewN _) (fun _ _ h => h)⟩
      · have hy2 : y = 0 := by rw [HY.out, if_pos rfl, if_neg hj]
        obtain ⟨ds, HR, hrd, hnd⟩ : ∃ ds, Hid (res = .ok ds) ∧ RdL w2 (Qd Lo w.heap.size w1.heap.size) ds v.vals ∧ NdD ds := by
          rcases HFIN.out with ⟨_, ds, h1, h2, h3⟩ | ⟨h9, _⟩
          · exact ⟨ds, Lib.hid h1, h2, h3⟩
          · exact absurd hy2 h9
        have HRD := Lib.hid hrd
        have HND := Lib.hid hnd
        have q1 : ¬ (j : Int) < (L : Int) := by omega
        have q2 : ((j : Int) < (L : Int)) = False := eq_false q1
        clear HFIN HY hy2 hrd hnd
        go_wp2_with fail
        obtain ⟨W6, hW6⟩ : ∃ W6, W6 = W3.alloc (.cells #[.int .i64 v.k, .bool v.nt, .string v.nm, .slice v.a0 v.n0 v.c0, .slice v.a1 v.n1 v.c1, .slice v.a2 v.n2 v.c2, .slice v.a3 v.n3 v.c3, .slice v.a4 v.n4 v.c4] 44) := ⟨_, rfl⟩
        rw [← hW6]
        have hk6 : Keeps (fun _ => False) W3 W6 := by rw [hW6]; exact (Keeps.refl _ _).alloc _
        go_ret2
        rw [HR.out]
        have hlo := HLO.out
        have hsz := HSZ3.out
        have hr3 := HRD.out.keep HK23.out (fun _ _ _ h => h)
        have hrd6 := rd_lit (w1 := W6) (k := 8) (m := 1) (hr3.mono (D' := fun b => Lo ≤ b) (fun b _ h => by unfold Qd at h; have := HSZW.out; omega)) HND.out.len (by decide) hW6 (by omega)
        exact ⟨_, 1, 1, rfl, hrd6, HK3.out.trans hk6 (fun _ _ h => h)⟩
    · have hy2 : y = x := by rw [HY.out, if_neg hx]
      have HR := Lib.hid (show res = .error x by
        rcases HFIN.out with ⟨h9, _⟩ | ⟨_, h9⟩
        · omega
        · rw [h9, hy2])
      have q1 : ((x : Int) == 0) = false := by rw [beq_eq_false_iff_ne]; omega
      have q2 : ((x : Int) != 0) = true := by rw [bne_iff_ne]; omega
      clear HFIN HY hy2 hx
      go_wp2_with fail
      go_quiet (fail)
      go_wp2_with fail
      go_ret2
      rw [HR.out]
      exact ⟨rfl, HK3.out.trans ((Keeps.refl (fun _ => False) _).drewN _) (fun _ _ h => h)⟩
end Go.Proofs.YtiihpbccabeoeaaGreatDoor
