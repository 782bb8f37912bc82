/-
  ParseWords' walk.
-/
import Derived.Test.YtcahifkiiabioaaDoorPkWrong
import Derived.Deep.Cut
namespace Go.Proofs.YtcahifkiiabioaaDoor
open Go.RowKit
set_option linter.unusedVariables false

/-- What the first script's result holds. -/
structure WordsQ (W : World) (O : ByteArray) (b3 o3 bw ow wj wn wc bp op pc : Nat) (w2 : World) : Prop where
  n1 : ((wn : Nat) : Int) - 1 = (wj : Int)
  n2 : (wj : Int) < (wn : Int)
  n3 : (0 : Int) < (wn : Int)
  n4 : wn ≤ 9223372036854775807
  l3 : b3 < w2.heap.size
  lw : bw < w2.heap.size
  lp : bp < w2.heap.size
  c0 : w2.cell? ⟨b3, o3, none⟩ = some (.int .i64 1)
  c3 : w2.cell? ⟨b3, o3 + 3, none⟩ = some (.slice (some ⟨bw, ow, none⟩) wn wc)
  cw : w2.cell? ⟨bw, ow + wj, none⟩ = some (.slice (some ⟨bp, op, none⟩) 1 pc)
  cp : w2.cell? ⟨bp, op + 1, none⟩ = some (.string O)
  kp : Keeps (fun _ => False) W w2
theorem res_len : resL.length = 16 := rfl
theorem ahead_len : aheadL.length = 5 := rfl
theorem res_short : resL.all (fun s => decide (s.length ≤ 100)) = true := by decide +kernel
theorem ahead_short : aheadL.all (fun s => decide (s.length ≤ 100)) = true := by decide +kernel

set_option maxRecDepth 100000 in
set_option maxHeartbeats 8000000 in
theorem parseWords_walk (z y : Int) (w : World) (hz : (Lit.int .i64 z).wf = true) (hy : (Lit.int .i64 y).wf = true) (hsh : w.ShapedOpen Tryd.prog) (hL : laidMetH Tryd.prog Rows.parseWordsRow.laid w) :
    Calls Tryd.prog 7 #[.int .i64 z, .int .i64 y] w fun e w' => e = .returned (.bool true) ∧ Below w.heap.size w w' := by
  have HEV := Lib.hid (ev_of rfl hL hsh)
  clear hL hsh hz hy
  have hc8 := cells_node
  have hc6 := cells_part
  by_cases h0 : z < 0
  · go_enter Tryd.func7, Tryd.ntmps7
    go_wp2_with fail
    refine (palive_any w _ HEV.out).mono ?_
    rintro e w1 ⟨rfl, hk⟩
    have HK := Lib.hid hk
    clear hk
    go_wp2_with fail
    go_ret
    exact ⟨rfl, ((HK.out.alloc _).alloc _).below0 (fun _ h => h.elim)⟩
  by_cases h1 : 16 ≤ z
  · go_enter Tryd.func7, Tryd.ntmps7
    go_wp2_with fail
    refine (palive_any w _ HEV.out).mono ?_
    rintro e w1 ⟨rfl, hk⟩
    have HK := Lib.hid hk
    clear hk
    go_wp2_with fail
    go_ret
    exact ⟨rfl, ((HK.out.alloc _).alloc _).below0 (fun _ h => h.elim)⟩
  by_cases h2 : y < 0
  · go_enter Tryd.func7, Tryd.ntmps7
    go_wp2_with fail
    refine (palive_any w _ HEV.out).mono ?_
    rintro e w1 ⟨rfl, hk⟩
    have HK := Lib.hid hk
    clear hk
    go_wp2_with fail
    go_ret
    exact ⟨rfl, ((HK.out.alloc _).alloc _).below0 (fun _ h => h.elim)⟩
  by_cases h3 : 5 ≤ y
  · go_enter Tryd.func7, Tryd.ntmps7
    go_wp2_with fail
    refine (palive_any w _ HEV.out).mono ?_
    rintro e w1 ⟨rfl, hk⟩
    have HK := Lib.hid hk
    clear hk
    go_wp2_with fail
    go_ret
    exact ⟨rfl, ((HK.out.alloc _).alloc _).below0 (fun _ h => h.elim)⟩
  obtain ⟨k, rfl⟩ : ∃ k : Nat, z = (k : Int) := ⟨z.toNat, by omega⟩
  obtain ⟨j, rfl⟩ : ∃ j : Nat, y = (j : Int) := ⟨y.toNat, by omega⟩
  have hk6 : k < 16 := by omega
  have hj5 : j < 5 := by omega
  have p0 : ¬ (k : Int) < 0 := h0
  have p1 : (k : Int) < 16 := by omega
  have p2 : ¬ (j : Int) < 0 := h2
  have p3 : (j : Int) < 5 := by omega
  go_enter Tryd.func7, Tryd.ntmps7
  go_wp2_with fail
  refine (palive_any w _ HEV.out).mono ?_
  rintro e w1 ⟨rfl, hk⟩
  obtain ⟨O, hO, hcO⟩ := strs_cell resL w1 #[.string ⟨#[105, 102]⟩, .string ⟨#[116, 104, 101, 110]⟩, .string ⟨#[101, 108, 105, 102]⟩, .string ⟨#[101, 108, 115, 101]⟩, .string ⟨#[102, 105]⟩, .string ⟨#[119, 104, 105, 108, 101]⟩, .string ⟨#[117, 110, 116, 105, 108]⟩, .string ⟨#[100, 111]⟩, .string ⟨#[100, 111, 110, 101]⟩, .string ⟨#[102, 111, 114]⟩, .string ⟨#[105, 110]⟩, .string ⟨#[99, 97, 115, 101]⟩, .string ⟨#[101, 115, 97, 99]⟩, .string ⟨#[123]⟩, .string ⟨#[125]⟩, .string ⟨#[33]⟩] (by rfl) 9 k (by rw [res_len]; exact hk6)
  obtain ⟨Q, hQ, hcQ⟩ := strs_cell aheadL (w1.alloc (.cells #[.string ⟨#[105, 102]⟩, .string ⟨#[116, 104, 101, 110]⟩, .string ⟨#[101, 108, 105, 102]⟩, .string ⟨#[101, 108, 115, 101]⟩, .string ⟨#[102, 105]⟩, .string ⟨#[119, 104, 105, 108, 101]⟩, .string ⟨#[117, 110, 116, 105, 108]⟩, .string ⟨#[100, 111]⟩, .string ⟨#[100, 111, 110, 101]⟩, .string ⟨#[102, 111, 114]⟩, .string ⟨#[105, 110]⟩, .string ⟨#[99, 97, 115, 101]⟩, .string ⟨#[101, 115, 97, 99]⟩, .string ⟨#[123]⟩, .string ⟨#[125]⟩, .string ⟨#[33]⟩] 9)) #[.string ⟨#[101, 99, 104, 111, 32]⟩, .string ⟨#[120, 61, 49, 32]⟩, .string ⟨#[62, 32, 102, 32]⟩, .string ⟨#[39, 39, 32]⟩, .string ⟨#[92, 97, 32]⟩] (by rfl) 9 j (by rw [ahead_len]; exact hj5)
  have hO9 : O.size ≤ 100 := by
    rw [Lib.size_eq, hO]
    exact of_decide_eq_true (List.all_eq_true.1 res_short resL[k] (List.getElem_mem _))
  have hQ9 : Q.size ≤ 100 := by
    rw [Lib.size_eq, hQ]
    exact of_decide_eq_true (List.all_eq_true.1 ahead_short aheadL[j] (List.getElem_mem _))
  obtain ⟨nt, nm, ws, gs, rs, ks, ar, kk, nn, oo, ww, qq, hp1, hlast⟩ := words_parse (i := j) (j := k) (by rw [ahead_len]; exact hj5) (by rw [res_len]; exact hk6)
  obtain ⟨nt2, nm2, ws2, gs2, rs2, ks2, ar2, hp2⟩ := quoted_parse (j := k) (by rw [res_len]; exact hk6)
  have HP1 := Lib.hid (show parseF (Q ++ O).data.toList = .ok (ndR 1 nt nm ws gs rs ks ar) by
    rw [show (Q ++ O).data.toList = Q.data.toList ++ O.data.toList by simp, hO, hQ]; exact hp1)
  obtain ⟨O2, hO2⟩ : ∃ O2 : ByteArray, O2 = ⟨#[39]⟩ ++ O ++ ⟨#[39]⟩ := ⟨_, rfl⟩
  have HO2 := Lib.hid hO2
  have HP2 := Lib.hid (show parseF O2.data.toList = .ok (ndR 1 nt2 nm2 ws2 gs2 rs2 ks2 ar2) by
    rw [hO2, show (⟨#[39]⟩ ++ O ++ ⟨#[39]⟩ : ByteArray).data.toList = [39] ++ O.data.toList ++ [39] by simp, hO]; exact hp2)
  rw [← hO] at hlast
  have HLS := Lib.hid hlast
  have hsz1 : (Q ++ O).size ≤ 140737488351232 := by rw [ByteArray.size_append]; omega
  have hsz2 : O2.size ≤ 140737488351232 := by
    rw [hO2, ByteArray.size_append, ByteArray.size_append]
    show 1 + O.size + 1 ≤ _
    omega
  have hQ2 : (w1.alloc (.cells #[.string ⟨#[105, 102]⟩, .string ⟨#[116, 104, 101, 110]⟩, .string ⟨#[101, 108, 105, 102]⟩, .string ⟨#[101, 108, 115, 101]⟩, .string ⟨#[102, 105]⟩, .string ⟨#[119, 104, 105, 108, 101]⟩, .string ⟨#[117, 110, 116, 105, 108]⟩, .string ⟨#[100, 111]⟩, .string ⟨#[100, 111, 110, 101]⟩, .string ⟨#[102, 111, 114]⟩, .string ⟨#[105, 110]⟩, .string ⟨#[99, 97, 115, 101]⟩, .string ⟨#[101, 115, 97, 99]⟩, .string ⟨#[123]⟩, .string ⟨#[125]⟩, .string ⟨#[33]⟩] 9)).heap.size = w1.heap.size + 1 := by simp
  rw [hQ2] at hcQ
  obtain ⟨W, hW⟩ : ∃ W, W = (w1.alloc (.cells #[.string ⟨#[105, 102]⟩, .string ⟨#[116, 104, 101, 110]⟩, .string ⟨#[101, 108, 105, 102]⟩, .string ⟨#[101, 108, 115, 101]⟩, .string ⟨#[102, 105]⟩, .string ⟨#[119, 104, 105, 108, 101]⟩, .string ⟨#[117, 110, 116, 105, 108]⟩, .string ⟨#[100, 111]⟩, .string ⟨#[100, 111, 110, 101]⟩, .string ⟨#[102, 111, 114]⟩, .string ⟨#[105, 110]⟩, .string ⟨#[99, 97, 115, 101]⟩, .string ⟨#[101, 115, 97, 99]⟩, .string ⟨#[123]⟩, .string ⟨#[125]⟩, .string ⟨#[33]⟩] 9)).alloc (.cells #[.string ⟨#[101, 99, 104, 111, 32]⟩, .string ⟨#[120, 61, 49, 32]⟩, .string ⟨#[62, 32, 102, 32]⟩, .string ⟨#[39, 39, 32]⟩, .string ⟨#[92, 97, 32]⟩] 9) := ⟨_, rfl⟩
  have hcO2 : W.cell? ⟨w1.heap.size, k, none⟩ = some (.string O) := by
    rw [hW]
    exact (World.cell?_of_block (((Keeps.refl (fun _ => False) (w1.alloc (.cells #[.string ⟨#[105, 102]⟩, .string ⟨#[116, 104, 101, 110]⟩, .string ⟨#[101, 108, 105, 102]⟩, .string ⟨#[101, 108, 115, 101]⟩, .string ⟨#[102, 105]⟩, .string ⟨#[119, 104, 105, 108, 101]⟩, .string ⟨#[117, 110, 116, 105, 108]⟩, .string ⟨#[100, 111]⟩, .string ⟨#[100, 111, 110, 101]⟩, .string ⟨#[102, 111, 114]⟩, .string ⟨#[105, 110]⟩, .string ⟨#[99, 97, 115, 101]⟩, .string ⟨#[101, 115, 97, 99]⟩, .string ⟨#[123]⟩, .string ⟨#[125]⟩, .string ⟨#[33]⟩] 9))).alloc _).block _ (by simp) (fun h => h))).trans hcO
  rw [← hW] at hcQ
  have HK := Lib.hid (show Keeps (fun _ => False) w W by rw [hW]; exact (hk.alloc _).alloc _)
  have HW := Lib.hid hW
  have hbl : w1.heap.size < W.heap.size ∧ w1.heap.size + 1 < W.heap.size := by
    rw [hW]
    simp only [World.alloc, Array.size_push]
    omega
  obtain ⟨hbl1, hbl2⟩ := hbl
  clear hk hO hQ hW hp1 hp2 hlast hcO hQ2 hO2
  have HPO := Lib.hid (show ∀ e w2, ScrPost W.drew (.ok (ndR 1 nt nm ws gs rs ks ar)) e w2 → ∃ (b3 o3 c : Nat) (bw ow : Nat) (wj wn wc : Nat) (bp op pc : Nat), e = .returned (.tuple #[.slice (some ⟨b3, o3, none⟩) 1 c, .int .i64 0]) ∧ WordsQ W O b3 o3 bw ow wj wn wc bp op pc w2 from by
    rintro e w2 ⟨a, m, c, rfl, hrd, hk⟩
    obtain ⟨hlm, _⟩ := hrd.len8
    obtain rfl : m = 1 := by have : (8 : Nat) = m * 8 := hlm; omega
    obtain ⟨b3, o3, rfl, hb3, _, hF⟩ := hrd.base (by simp [ndR])
    obtain ⟨u0, d0, r0⟩ := hF 0 (by simp [ndR])
    obtain rfl := Rd.int_v (n := 1) r0
    obtain ⟨u3, d3, r3⟩ := hF 3 (by simp [ndR])
    have r3 : Rd w2 (fun b => W.drew.heap.size ≤ b) (.sl 1 ws) u3 := r3
    obtain ⟨wa, wn, wc, rfl, hwl, hwx, hwy⟩ := r3.shape (by decide)
    unfold maxLen at hwy
    obtain ⟨wj, hwj⟩ : ∃ wj, wn = wj + 1 := by
      cases wn with
      | zero =>
        have : ws = [] := List.eq_nil_of_length_eq_zero (by rw [hwl, Nat.zero_mul])
        rw [this] at HLS
        cases HLS.out
      | succ x => exact ⟨x, rfl⟩
    have hwjl : wj < ws.length := by omega
    obtain ⟨bw, ow, rfl, hbw, _, hW3⟩ := r3.base (by omega)
    obtain ⟨x3, y3, s3⟩ := hW3 wj hwjl
    have hlast : ws[wj] = .sl 6 [.int kk, .str O.data.toList, .str nn, .str oo, .sl 6 ww, .bool qq] := by
      have h := HLS.out
      rw [List.getLast?_eq_getElem?, show ws.length - 1 = wj by omega, List.getElem?_eq_getElem hwjl] at h
      exact Option.some.inj h
    rw [hlast] at s3
    obtain ⟨pa, pn, pc, rfl, hpl, _, _⟩ := s3.shape (by decide)
    obtain rfl : pn = 1 := by have : (6 : Nat) = pn * 6 := hpl; omega
    obtain ⟨bp, op, rfl, hbp, _, hP3⟩ := s3.base (by simp)
    obtain ⟨v1, e1, t1⟩ := hP3 1 (by simp)
    obtain rfl := Rd.str_v (l := O.data.toList) t1
    rw [strV_of (s := O) rfl] at e1
    exact ⟨b3, o3, c, bw, ow, wj, wn, wc, bp, op, pc, rfl, by omega, by omega, by omega, by omega, hb3, hbw, hbp, d0, d3, y3, e1, ((Keeps.refl (fun _ => False) W).drew).trans hk (fun _ _ h => h)⟩)
  clear HLS
  have hcc : (9223372036854775807 < Q.size + O.size) = False := eq_false (by omega)
  go_upto_region 6 with (rw [← HW.out])
  go_cut [8, 9] from 39 to 51 (fun m' e' w2 => ∃ (b3 o3 c : Nat) (bw ow : Nat) (wj wn wc : Nat) (bp op pc : Nat) (wy : World), wy = w2 ∧ m' = .slice (some ⟨b3, o3, none⟩) 1 c ∧ e' = .int .i64 0 ∧ Hid (WordsQ W O b3 o3 bw ow wj wn wc bp op pc wy))
  case first =>
    go_wp2_with fail
    go_region_law (go_simp; go_at_call 10; refine (parse_any W.drew _ (Q ++ O) ((HEV.out.keep HK.out (fun _ _ h => h)).keep (S := fun _ => False) ((Keeps.refl _ _).drew) (fun _ _ h => h)) hsz1).mono ?_; rw [HP1.out]; intro e w2 hp; obtain ⟨b3, o3, c, bw, ow, wj, wn, wc, bp, op, pc, he, hq⟩ := HPO.out e w2 hp; subst he; have HQ := Lib.hid hq; clear hp hq HPO)
    all_goals
      go_wp2_with fail
      go_meet
      case rel => exact ⟨b3, o3, c, bw, ow, wj, wn, wc, bp, op, pc, _, rfl, rfl, rfl, HQ⟩
  obtain ⟨b3, o3, c, bw, ow, wj, wn, wc, bp, op, pc, w2, hw2, hm2, he2, HQ⟩ := hcut
  subst hw2 hm2 he2
  have hwj1 := HQ.out.n1
  have hwj2 := HQ.out.n2
  have hwj3 := HQ.out.n3
  have hwj4 := HQ.out.n4
  have hwr : IntKind.i64.wrap ((wn : Int) - 1) = (wj : Int) := by rw [hwj1]; exact IntWalk.i64_in _ (by omega)
  have hwn1 : 0 < wn := by omega
  have hwn2 : wj < wn := by omega
  have hww : IntKind.i64.wrap (wj : Int) = (wj : Int) := IntWalk.i64_in _ (by omega)
  have hb3 := HQ.out.l3
  have hbw := HQ.out.lw
  have hbp := HQ.out.lp
  have d0 := HQ.out.c0
  have d3 := HQ.out.c3
  have y3 := HQ.out.cw
  have e1 := HQ.out.cp
  have hk := HQ.out.kp
  clear HPO hcc
  have HK2 := Lib.hid (HK.out.trans hk (fun _ _ h => h))
  have f1 : w2.cell? ⟨w1.heap.size, k, none⟩ = some (.string O) := (World.cell?_of_block (hk.block _ hbl1 (fun h => h))).trans hcO2
  have hs12 : W.heap.size ≤ w2.heap.size := hk.size
  have HV2 := Lib.hid (HEV.out.keep HK2.out (fun _ _ h => h))
  clear hk
  go_wp2_with fail
  rw [← HO2.out]
  refine (parse_any w2 _ O2 HV2.out hsz2).mono ?_
  rw [HP2.out]
  rintro e w3 ⟨a, m, c, rfl, hrd, hk⟩
  obtain ⟨hlm, _⟩ := hrd.len8
  obtain rfl : m = 1 := by have : (8 : Nat) = m * 8 := hlm; omega
  obtain ⟨b4, o4, rfl, hb4, _, hF⟩ := hrd.base (by simp [ndR])
  obtain ⟨u4, d4, r4⟩ := hF 0 (by simp [ndR])
  obtain rfl := Rd.int_v (n := 1) r4
  have g0 := (World.cell?_of_block (a := ⟨b3, o3, none⟩) (hk.block b3 hb3 (fun h => h))).trans d0
  have g3 := (World.cell?_of_block (a := ⟨b3, o3 + 3, none⟩) (hk.block b3 hb3 (fun h => h))).trans d3
  have gy := (World.cell?_of_block (a := ⟨bw, ow + wj, none⟩) (hk.block bw hbw (fun h => h))).trans y3
  have ge := (World.cell?_of_block (a := ⟨bp, op + 1, none⟩) (hk.block bp hbp (fun h => h))).trans e1
  have gO := (World.cell?_of_block (a := ⟨w1.heap.size, k, none⟩) (hk.block w1.heap.size (by omega) (fun h => h))).trans f1
  have HK3 := Lib.hid (HK2.out.trans hk (fun _ _ h => h))
  rw [Nat.add_zero] at d4
  clear hk hrd hlm hF r4 d0 d3 y3 e1 f1 hcO2 hcQ
  go_wp2_with fail
  refine (pnum_any 0 _).mono ?_
  rintro e w4 ⟨rfl, hw4⟩
  subst hw4
  go_wp2_with fail
  refine (pnum_any 0 _).mono ?_
  rintro e w5 ⟨rfl, hw5⟩
  subst hw5
  go_upto_region 11 with fail
  go_quiet (fail)
  go_wp2_with fail
  go_ret
  exact ⟨rfl, (HK3.out.drewN _).below0 (fun _ h => h.elim)⟩
end Go.Proofs.YtcahifkiiabioaaDoor
