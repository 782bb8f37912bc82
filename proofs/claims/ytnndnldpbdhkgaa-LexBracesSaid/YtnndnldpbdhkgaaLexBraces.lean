/-
  LexBraces' walk.
-/
import Derived.Test.YtnndnldpbdhkgaaLexPC
namespace Go.Proofs.Ytnndnldpbdhkgaa
open Go.RowKit
set_option linter.unusedVariables false

theorem op_cell (w1 : World) (k : Nat) (hk : k < 13) : ∃ O : ByteArray, O.data.toList = brOps.getD k [] ∧ (w1.alloc (.cells #[.string ⟨#[]⟩, .string ⟨#[58, 45]⟩, .string ⟨#[45]⟩, .string ⟨#[58, 61]⟩, .string ⟨#[61]⟩, .string ⟨#[58, 63]⟩, .string ⟨#[63]⟩, .string ⟨#[58, 43]⟩, .string ⟨#[43]⟩, .string ⟨#[37]⟩, .string ⟨#[37, 37]⟩, .string ⟨#[35]⟩, .string ⟨#[35, 35]⟩] 9)).cell? ⟨w1.heap.size, k, none⟩ = some (.string O) := by
  have hb := heap_alloc_new w1 (.cells #[.string ⟨#[]⟩, .string ⟨#[58, 45]⟩, .string ⟨#[45]⟩, .string ⟨#[58, 61]⟩, .string ⟨#[61]⟩, .string ⟨#[58, 63]⟩, .string ⟨#[63]⟩, .string ⟨#[58, 43]⟩, .string ⟨#[43]⟩, .string ⟨#[37]⟩, .string ⟨#[37, 37]⟩, .string ⟨#[35]⟩, .string ⟨#[35, 35]⟩] 9)
  have h := cell_of_row _ _ k _ _ _ hb
  have hk2 : k = 0 ∨ k = 1 ∨ k = 2 ∨ k = 3 ∨ k = 4 ∨ k = 5 ∨ k = 6 ∨ k = 7 ∨ k = 8 ∨ k = 9 ∨ k = 10 ∨ k = 11 ∨ k = 12 := by omega
  rcases hk2 with rfl | rfl | rfl | rfl | rfl | rfl | rfl | rfl | rfl | rfl | rfl | rfl | rfl <;> exact ⟨_, rfl, h⟩
set_option maxRecDepth 100000 in
set_option maxHeartbeats 8000000 in
theorem lexBraces_walk (a0 : ByteArray) (a1 a2 : Int) (a3 : Bool) (w : World) (h0 : a0.size ≤ 140737488351232) (h1 : (Lit.int .i64 a1).wf = true) (h2 : (Lit.int .i64 a2).wf = true) (hsh : w.ShapedOpen Try.prog) :
    Calls Try.prog 11 #[.string a0, .int .i64 a1, .int .i64 a2, .bool a3] w fun e w' => e = .returned (.bool true) ∧ Below w.heap.size w w' := by
  have hc6 := cells_part
  clear h1 h2
  by_cases b1 : a1 < 0
  · go_enter Try.func11, Try.ntmps11
    go_wp2_with fail
    refine (alive_any w).mono ?_
    rintro e w1 ⟨rfl, hk⟩
    have HK := Lib.hid hk
    clear hk
    go_wp2_with fail
    go_ret
    exact ⟨rfl, (HK.out.alloc _).below0 (fun _ h => h.elim)⟩
  by_cases b2 : 13 ≤ a1
  · go_enter Try.func11, Try.ntmps11
    go_wp2_with fail
    refine (alive_any w).mono ?_
    rintro e w1 ⟨rfl, hk⟩
    have HK := Lib.hid hk
    clear hk
    go_wp2_with fail
    go_ret
    exact ⟨rfl, (HK.out.alloc _).below0 (fun _ h => h.elim)⟩
  by_cases b3 : a2 < 1
  · go_enter Try.func11, Try.ntmps11
    go_wp2_with fail
    refine (alive_any w).mono ?_
    rintro e w1 ⟨rfl, hk⟩
    have HK := Lib.hid hk
    clear hk
    go_wp2_with fail
    go_ret
    exact ⟨rfl, (HK.out.alloc _).below0 (fun _ h => h.elim)⟩
  by_cases b4 : 50 < a2
  · go_enter Try.func11, Try.ntmps11
    go_wp2_with fail
    refine (alive_any w).mono ?_
    rintro e w1 ⟨rfl, hk⟩
    have HK := Lib.hid hk
    clear hk
    go_wp2_with fail
    go_ret
    exact ⟨rfl, (HK.out.alloc _).below0 (fun _ h => h.elim)⟩
  by_cases b5 : 40 < a0.size
  · have t1 : (40 : Int) < (a0.size : Int) := by omega
    go_enter Try.func11, Try.ntmps11
    go_wp2_with fail
    refine (alive_any w).mono ?_
    rintro e w1 ⟨rfl, hk⟩
    have HK := Lib.hid hk
    clear hk
    go_wp2_with fail
    go_ret
    exact ⟨rfl, (HK.out.alloc _).below0 (fun _ h => h.elim)⟩
  have t1 : ¬ (40 : Int) < (a0.size : Int) := by omega
  obtain ⟨D, rfl⟩ : ∃ D : Nat, a2 = D := ⟨a2.toNat, by omega⟩
  obtain ⟨k1, rfl⟩ : ∃ k1 : Nat, a1 = k1 := ⟨a1.toNat, by omega⟩
  have hk13 : k1 < 13 := by omega
  go_enter Try.func11, Try.ntmps11
  go_wp2_with fail
  refine (alive_any w).mono ?_
  rintro e w1 ⟨rfl, hk⟩
  have HK := Lib.hid hk
  clear hk
  go_wp2_with fail
  obtain ⟨O, hO, hcell⟩ := op_cell w1 k1 hk13
  have HO := Lib.hid hO
  have HC0 := Lib.hid hcell
  have hBs : w1.heap.size < (w1.alloc (.cells #[.string ⟨#[]⟩, .string ⟨#[58, 45]⟩, .string ⟨#[45]⟩, .string ⟨#[58, 61]⟩, .string ⟨#[61]⟩, .string ⟨#[58, 63]⟩, .string ⟨#[63]⟩, .string ⟨#[58, 43]⟩, .string ⟨#[43]⟩, .string ⟨#[37]⟩, .string ⟨#[37, 37]⟩, .string ⟨#[35]⟩, .string ⟨#[35, 35]⟩] 9)).heap.size := by simp
  clear hcell hO
  go_loopw [11] (fun k' wr => ∃ k : Nat, k' = .int .i64 k ∧ k ≤ a0.size ∧ Hid (∀ j, j < k → lowB (byteAt a0 j) = true) ∧ Hid (Keeps (fun _ => False) w wr ∧ wr.cell? ⟨w1.heap.size, k1, none⟩ = some (.string O) ∧ w1.heap.size < wr.heap.size)) (fun k' _ => a0.size - (intOf k').toNat)
  case atStart => exact ⟨0, rfl, Nat.zero_le _, Lib.hid (fun j hj => absurd hj (Nat.not_lt_zero _)), Lib.hid ⟨HK.out.alloc _, HC0.out, hBs⟩⟩
  clear HC0 hBs HK
  case round =>
    obtain ⟨k, rfl, hk, HL, HI⟩ := hrel
    rcases Nat.lt_or_ge k a0.size with hlt | hge
    · have p1 : (k : Int) < (a0.size : Int) := by omega
      have hb := byteAt_in hlt
      obtain ⟨x, hx⟩ : ∃ x, x = byteAt a0 k := ⟨_, rfl⟩
      rw [← hx] at hb
      have HX := Lib.hid hx
      clear hx
      by_cases q : 97 ≤ x.toNat ∧ x.toNat ≤ 122
      · have q1 : (97 : Int) ≤ ((x.toNat : Nat) : Int) := by omega
        have q2 : ((x.toNat : Nat) : Int) ≤ 122 := by omega
        have hl2 : lowB x = true := by unfold lowB; rw [decide_eq_true q.1, decide_eq_true q.2]; rfl
        have HL2 := Lib.hid hl2
        clear q hl2
        go_wp2_with fail
        go_roundw
        case rel => exact ⟨k + 1, by go_num, by omega, Lib.hid (fun j hj => by
          rcases Nat.lt_or_ge j k with h | h
          · exact HL.out j h
          · obtain rfl : j = k := by omega
            rw [← HX.out]; exact HL2.out), HI⟩
        case measure => simp [intOf]; omega
      · have q1 : ¬ (97 : Int) ≤ ((x.toNat : Nat) : Int) ∨ (97 : Int) ≤ ((x.toNat : Nat) : Int) ∧ ¬ ((x.toNat : Nat) : Int) ≤ 122 := by omega
        clear q
        rcases q1 with q1 | ⟨q1, q2⟩
        · go_wp2_with fail
          go_ret
          exact ⟨rfl, HI.out.1.below0 (fun _ h => h.elim)⟩
        · go_wp2_with fail
          go_ret
          exact ⟨rfl, HI.out.1.below0 (fun _ h => h.elim)⟩
    · obtain rfl : k = a0.size := by omega
      have hlow : ∀ x ∈ a0.data.toList, lowB x = true := fun x hx => by
        obtain ⟨j, hj⟩ := List.mem_iff_getElem?.1 hx
        have h2 := HL.out j (by rw [Lib.size_eq]; exact (List.getElem?_eq_some_iff.1 hj).1)
        unfold byteAt at h2
        rw [List.getD_eq_getElem?_getD, hj] at h2
        exact h2
      have HLOW := Lib.hid hlow
      have p1 : ¬ (a0.size : Int) < (a0.size : Int) := by omega
      clear hlow hge
      by_cases hnil : a0.data.toList = []
      · obtain ⟨s1, s2⟩ := ba_empty hnil
        clear hnil
        go_wp2_with fail
        go_ret
        exact ⟨rfl, HI.out.1.below0 (fun _ h => h.elim)⟩
      obtain ⟨s1, s2⟩ := ba_full hnil
      have HNE := Lib.hid hnil
      have hom : O.data.toList ∈ brOps := by
        rw [HO.out, List.getD_eq_getElem?_getD, List.getElem?_eq_getElem (show k1 < brOps.length from hk13)]
        exact List.getElem_mem _
      have HOM := Lib.hid hom
      have hcB := HI.out.2.1
      have p6 : (k1 : Int) < 13 := by omega
      have HOL := brOps_len hom
      have hOz : O.size ≤ 2 := by rw [Lib.size_eq]; exact HOL.1
      have HOZ := Lib.hid HOL.2
      clear hom HOL
      by_cases hO0 : O.data.toList = []
      · obtain ⟨s3, s4⟩ := ba_empty hO0
        have HO0 := Lib.hid hO0
        clear hO0 hnil
        cases a3 with
        | true =>
          go_wp2_with fail
          go_loopw [12, 13, 14] (fun s' e' i' wr2 => ∃ (S E : ByteArray) (j : Nat), s' = .string S ∧ e' = .string E ∧ i' = .int .i64 j ∧ j ≤ 1 ∧ Hid (S.data.toList = preN a0.data.toList O.data.toList j) ∧ Hid (E.data.toList = List.replicate j 125) ∧ S.size ≤ 2300 ∧ E.size ≤ 50 ∧ wr2 = wr) (fun _ _ i' _ => 1 - (intOf i').toNat)
          case atStart => exact ⟨⟨#[]⟩, ⟨#[]⟩, 0, rfl, rfl, rfl, Nat.zero_le _, Lib.hid rfl, Lib.hid rfl, by decide, by decide, rfl⟩
          case round =>
            obtain ⟨S, E, j, rfl, rfl, rfl, hj, HS, HE, hSz, hEz, rfl⟩ := hrel
            rcases Nat.lt_or_ge j 1 with hlt | hge
            · have p7 : (j : Int) < (1 : Int) := by omega
              have HS2 := Lib.hid (show (S ++ ⟨#[36]⟩ ++ ⟨#[123]⟩ ++ a0 ++ O).data.toList = preN a0.data.toList O.data.toList (j + 1) by
                simp only [ba_append]
                rw [HS.out]
                simp [preN])
              have HE2 := Lib.hid (show (E ++ ⟨#[125]⟩).data.toList = List.replicate (j + 1) 125 by
                rw [ba_append, HE.out, List.replicate_succ'])
              have hSz2 : (S ++ ⟨#[36]⟩ ++ ⟨#[123]⟩ ++ a0 ++ O).size ≤ 2300 := by
                rw [Lib.size_eq, HS2.out, preN_len]
                have h1 : (j + 1) * (a0.data.toList.length + O.data.toList.length + 2) ≤ 50 * 44 := Nat.mul_le_mul (by omega) (by rw [← Lib.size_eq, ← Lib.size_eq]; omega)
                omega
              have hEz2 : (E ++ ⟨#[125]⟩).size ≤ 50 := by
                rw [Lib.size_eq, HE2.out, List.length_replicate]; omega
              go_wp2_with fail
              go_roundw
              case rel => exact ⟨_, _, j + 1, rfl, rfl, by go_num, by omega, HS2, HE2, hSz2, hEz2, trivial⟩
              case measure => simp [intOf]; omega
            · obtain rfl : 1 = j := by omega
              have p7 : ¬ (1 : Int) < (1 : Int) := by omega
              obtain ⟨T, hT⟩ : ∃ T, T = (⟨#[34]⟩ : ByteArray) ++ (S ++ E) ++ ⟨#[34]⟩ := ⟨_, rfl⟩
              have hTl : T.data.toList = brText a0.data.toList O.data.toList 1 true := by
                rw [hT, brText_pre]
                simp only [ba_append]
                rw [HS.out, HE.out]
                simp
              have hlow2 : ∀ c ∈ a0.data.toList, (c == 0) = false := fun c hc => (low_plain (HLOW.out c hc)).2.2.2.2.2.2
              have hTz : T.size ≤ 2300 := by rw [Lib.size_eq, hTl]; exact brText_len (by rw [← Lib.size_eq]; omega) (by rw [← Lib.size_eq]; omega) (by omega) _
              have hTm : mayF T.data.toList = 0 := may_low (by rw [← Lib.size_eq]; omega) (fun c hc => by rw [hTl] at hc; exact brText_zero hlow2 HOZ.out _ _ c hc)
              have HW := Lib.hid (show ∀ W, Calls Try.prog 22 #[.string T] W (WordPost W (wholeW (brText a0.data.toList O.data.toList 1 true))) from fun W => by
                have h := word_any T W (by omega)
                rw [wholeF_W _ hTm, hTl] at h
                exact h)
              have HT := Lib.hid hT
              have HTL := Lib.hid hTl
              have HTM := Lib.hid hTm
              have HLZ := Lib.hid hlow2
              have hT1 : 1 ≤ T.size := by rw [Lib.size_eq, hTl, brText_open _ _ _ _ (by omega)]; simp
              have hUl : (T.extract 0 (T.size - 1)).data.toList = brOpen a0.data.toList O.data.toList 1 true := by
                have h := brText_open a0.data.toList O.data.toList 1 true (by omega)
                rw [← hTl] at h
                have hz : T.size - 1 = (brOpen a0.data.toList O.data.toList 1 true).length := by rw [Lib.size_eq, h]; simp
                rw [ByteArray.data_extract, Array.toList_extract, hz]
                simp only [List.extract, Nat.sub_zero, List.drop_zero]
                rw [h, List.take_left]
              have hUm : mayF (T.extract 0 (T.size - 1)).data.toList = 0 := may_low (by rw [← Lib.size_eq, ByteArray.size_extract]; omega) (fun c hc => by
                rw [hUl] at hc
                exact brText_zero hlow2 HOZ.out 1 true c (by rw [brText_open _ _ _ _ (by omega)]; exact List.mem_append_left _ hc))
              have HW2 := Lib.hid (show ∀ W, Calls Try.prog 22 #[.string (T.extract 0 (T.size - 1))] W (WordPost W (wholeW (brOpen a0.data.toList O.data.toList 1 true))) from fun W => by
                have h := word_any (T.extract 0 (T.size - 1)) W (by rw [ByteArray.size_extract]; omega)
                rw [wholeF_W _ hUm, hUl] at h
                exact h)
              have hlaw := br_law (name := a0.data.toList) (o := O.data.toList) HLOW.out HNE.out HOM.out (1 - 1) (fun h => rfl) true
              rw [show 1 - 1 + 1 = 1 by omega] at hlaw
              have HLAW := Lib.hid hlaw
              have hcz : strV a0.data.toList = .string a0 := strV_of rfl
              have hcO : strV O.data.toList = .string O := strV_of rfl
              clear hT hTl hTm hlow2 hUl hUm hlaw
              by_cases h40 : 1 ≤ 40
              · have p8 : ¬ (40 : Int) < (1 : Int) := by omega
                have hw1 := (HLAW.out.1 (by omega)).1
                have hw2 := (HLAW.out.1 (by omega)).2
                rw [hw1] at HW
                rw [hw2] at HW2
                clear hw1 hw2 h40
                go_wp2_with fail
                rw [← HT.out]
                refine (HW.out _).mono ?_
                rintro e w2 ⟨v, n, rfl, hv, hk2⟩
                obtain ⟨va, vc, rfl, _, _⟩ := hv.shape
                obtain ⟨vn, hvn⟩ : ∃ vn, vn = (nestP a0.data.toList O.data.toList true 1).length := ⟨_, rfl⟩
                rw [← hvn] at hv ⊢
                have HV := Lib.hid hv
                have HK2 := Lib.hid hk2
                clear hv hk2 hvn
                go_wp2_with fail
                refine (HW2.out _).mono ?_
                rintro e w3 ⟨rfl, hk3⟩
                have HI3 := Lib.hid (show Keeps (fun _ => False) w w3 ∧ w3.cell? ⟨w1.heap.size, k1, none⟩ = some (.string O) ∧ PtsAt w3 (fun _ => True) n (nestP a0.data.toList O.data.toList true 1) (.slice va vn vc) by
                  have hk := HK2.out.trans hk3 (fun _ _ h => h)
                  exact ⟨HI.out.1.trans hk (fun _ _ h => h), (World.cell?_of_block (a := ⟨w1.heap.size, k1, none⟩) (hk.block _ HI.out.2.2 (fun h => h))).trans HI.out.2.1, (HV.out.keep hk3 (fun _ _ _ h => h)).mono (fun _ _ _ => trivial)⟩)
                clear hk3 hcB
                go_wp2_with fail
                refine (num_any 0 _).mono ?_
                rintro e w4 ⟨rfl, hw4⟩
                subst hw4
                go_wp2_with fail
                refine (num_any 2 _).mono ?_
                rintro e w5 ⟨rfl, hw5⟩
                subst hw5
                go_wp2_with fail
                go_loopw [15, 19] (fun v' i' wx => ∃ (j m n : Nat) (xa : Option Addr) (xl xc : Nat), v' = .slice xa xl xc ∧ i' = .int .i64 j ∧ j + m = 1 ∧ Hid (Keeps (fun _ => False) w wx ∧ wx.cell? ⟨w1.heap.size, k1, none⟩ = some (.string O) ∧ PtsAt wx (fun _ => True) n (nestP a0.data.toList O.data.toList true m) (.slice xa xl xc))) (fun _ i' _ => 1 - (intOf i').toNat)
                case atStart => exact ⟨0, 1, n, _, _, _, rfl, rfl, by omega, HI3⟩
                case round =>
                  obtain ⟨j, m, n, xa, xl, xc, rfl, rfl, hjm, HJ⟩ := hrel
                  cases m with
                  | zero =>
                    have p9 : ¬ (j : Int) < (1 : Int) := by omega
                    obtain ⟨a, c, e, _, _⟩ := HJ.out.2.2.shape
                    injection e with e1 e2 e3
                    have e4 : xl = 0 := e2
                    subst e4
                    clear e1 e2 e3
                    go_wp2_with fail
                    go_ret
                    exact ⟨rfl, HJ.out.1.below0 (fun _ h => h.elim)⟩
                  | succ m =>
                    have p9 : (j : Int) < (1 : Int) := by omega
                    obtain ⟨a, c, e, _, _⟩ := HJ.out.2.2.shape
                    obtain ⟨g, o, ya, yl, yc, rfl, ⟨r0, r1, r2, r3, r4, r5⟩, hy, _, hg⟩ := HJ.out.2.2.at (Keeps.refl _ _) (i := 0) (Nat.succ_pos _)
                    injection e with e1 e2 e3
                    have e4 : xl = 1 := e2
                    subst e4
                    have r0' : wr.cell? ⟨g, o, none⟩ = some (.int .i64 3) := r0
                    have r2' : wr.cell? ⟨g, o + 2, none⟩ = some (.string a0) := by rw [← hcz]; exact r2
                    have r3' : wr.cell? ⟨g, o + 3, none⟩ = some (.string O) := by rw [← hcO]; exact r3
                    have r4' : wr.cell? ⟨g, o + 4, none⟩ = some (.slice ya yl yc) := r4
                    have r5' : wr.cell? ⟨g, o + 5, none⟩ = some (.bool true) := r5
                    have hcB := HJ.out.2.1
                    have HY := Lib.hid (show PtsAt wr (fun _ => True) (n - 1) (nestP a0.data.toList O.data.toList true m) (.slice ya yl yc) from hy)
                    clear r0 r1 r2 r3 r4 r5 hy e1 e2 e3
                    go_wp2_with fail
                    go_quiet (fail)
                    go_wp2_with fail
                    go_roundw
                    case rel => exact ⟨j + 1, m, n - 1, ya, yl, yc, rfl, by go_num, by omega, Lib.hid ⟨HJ.out.1.drewN _, hcB, HY.out.keep (S := fun _ => False) ((Keeps.refl _ _).drewN _) (fun _ _ _ h => h)⟩⟩
                    case measure => simp [intOf]; omega
              · omega
        | false =>
          go_wp2_with fail
          go_loopw [12, 13, 14] (fun s' e' i' wr2 => ∃ (S E : ByteArray) (j : Nat), s' = .string S ∧ e' = .string E ∧ i' = .int .i64 j ∧ j ≤ 1 ∧ Hid (S.data.toList = preN a0.data.toList O.data.toList j) ∧ Hid (E.data.toList = List.replicate j 125) ∧ S.size ≤ 2300 ∧ E.size ≤ 50 ∧ wr2 = wr) (fun _ _ i' _ => 1 - (intOf i').toNat)
          case atStart => exact ⟨⟨#[]⟩, ⟨#[]⟩, 0, rfl, rfl, rfl, Nat.zero_le _, Lib.hid rfl, Lib.hid rfl, by decide, by decide, rfl⟩
          case round =>
            obtain ⟨S, E, j, rfl, rfl, rfl, hj, HS, HE, hSz, hEz, rfl⟩ := hrel
            rcases Nat.lt_or_ge j 1 with hlt | hge
            · have p7 : (j : Int) < (1 : Int) := by omega
              have HS2 := Lib.hid (show (S ++ ⟨#[36]⟩ ++ ⟨#[123]⟩ ++ a0 ++ O).data.toList = preN a0.data.toList O.data.toList (j + 1) by
                simp only [ba_append]
                rw [HS.out]
                simp [preN])
              have HE2 := Lib.hid (show (E ++ ⟨#[125]⟩).data.toList = List.replicate (j + 1) 125 by
                rw [ba_append, HE.out, List.replicate_succ'])
              have hSz2 : (S ++ ⟨#[36]⟩ ++ ⟨#[123]⟩ ++ a0 ++ O).size ≤ 2300 := by
                rw [Lib.size_eq, HS2.out, preN_len]
                have h1 : (j + 1) * (a0.data.toList.length + O.data.toList.length + 2) ≤ 50 * 44 := Nat.mul_le_mul (by omega) (by rw [← Lib.size_eq, ← Lib.size_eq]; omega)
                omega
              have hEz2 : (E ++ ⟨#[125]⟩).size ≤ 50 := by
                rw [Lib.size_eq, HE2.out, List.length_replicate]; omega
              go_wp2_with fail
              go_roundw
              case rel => exact ⟨_, _, j + 1, rfl, rfl, by go_num, by omega, HS2, HE2, hSz2, hEz2, trivial⟩
              case measure => simp [intOf]; omega
            · obtain rfl : 1 = j := by omega
              have p7 : ¬ (1 : Int) < (1 : Int) := by omega
              obtain ⟨T, hT⟩ : ∃ T, T = S ++ E := ⟨_, rfl⟩
              have hTl : T.data.toList = brText a0.data.toList O.data.toList 1 false := by
                rw [hT, brText_pre]
                simp only [ba_append]
                rw [HS.out, HE.out]
                simp
              have hlow2 : ∀ c ∈ a0.data.toList, (c == 0) = false := fun c hc => (low_plain (HLOW.out c hc)).2.2.2.2.2.2
              have hTz : T.size ≤ 2300 := by rw [Lib.size_eq, hTl]; exact brText_len (by rw [← Lib.size_eq]; omega) (by rw [← Lib.size_eq]; omega) (by omega) _
              have hTm : mayF T.data.toList = 0 := may_low (by rw [← Lib.size_eq]; omega) (fun c hc => by rw [hTl] at hc; exact brText_zero hlow2 HOZ.out _ _ c hc)
              have HW := Lib.hid (show ∀ W, Calls Try.prog 22 #[.string T] W (WordPost W (wholeW (brText a0.data.toList O.data.toList 1 false))) from fun W => by
                have h := word_any T W (by omega)
                rw [wholeF_W _ hTm, hTl] at h
                exact h)
              have HT := Lib.hid hT
              have HTL := Lib.hid hTl
              have HTM := Lib.hid hTm
              have HLZ := Lib.hid hlow2
              have hT1 : 1 ≤ T.size := by rw [Lib.size_eq, hTl, brText_open _ _ _ _ (by omega)]; simp
              have hUl : (T.extract 0 (T.size - 1)).data.toList = brOpen a0.data.toList O.data.toList 1 false := by
                have h := brText_open a0.data.toList O.data.toList 1 false (by omega)
                rw [← hTl] at h
                have hz : T.size - 1 = (brOpen a0.data.toList O.data.toList 1 false).length := by rw [Lib.size_eq, h]; simp
                rw [ByteArray.data_extract, Array.toList_extract, hz]
                simp only [List.extract, Nat.sub_zero, List.drop_zero]
                rw [h, List.take_left]
              have hUm : mayF (T.extract 0 (T.size - 1)).data.toList = 0 := may_low (by rw [← Lib.size_eq, ByteArray.size_extract]; omega) (fun c hc => by
                rw [hUl] at hc
                exact brText_zero hlow2 HOZ.out 1 false c (by rw [brText_open _ _ _ _ (by omega)]; exact List.mem_append_left _ hc))
              have HW2 := Lib.hid (show ∀ W, Calls Try.prog 22 #[.string (T.extract 0 (T.size - 1))] W (WordPost W (wholeW (brOpen a0.data.toList O.data.toList 1 false))) from fun W => by
                have h := word_any (T.extract 0 (T.size - 1)) W (by rw [ByteArray.size_extract]; omega)
                rw [wholeF_W _ hUm, hUl] at h
                exact h)
              have hlaw := br_law (name := a0.data.toList) (o := O.data.toList) HLOW.out HNE.out HOM.out (1 - 1) (fun h => rfl) false
              rw [show 1 - 1 + 1 = 1 by omega] at hlaw
              have HLAW := Lib.hid hlaw
              have hcz : strV a0.data.toList = .string a0 := strV_of rfl
              have hcO : strV O.data.toList = .string O := strV_of rfl
              clear hT hTl hTm hlow2 hUl hUm hlaw
              by_cases h40 : 1 ≤ 40
              · have p8 : ¬ (40 : Int) < (1 : Int) := by omega
                have hw1 := (HLAW.out.1 (by omega)).1
                have hw2 := (HLAW.out.1 (by omega)).2
                rw [hw1] at HW
                rw [hw2] at HW2
                clear hw1 hw2 h40
                go_wp2_with fail
                rw [← HT.out]
                refine (HW.out _).mono ?_
                rintro e w2 ⟨v, n, rfl, hv, hk2⟩
                obtain ⟨va, vc, rfl, _, _⟩ := hv.shape
                obtain ⟨vn, hvn⟩ : ∃ vn, vn = (nestP a0.data.toList O.data.toList false 1).length := ⟨_, rfl⟩
                rw [← hvn] at hv ⊢
                have HV := Lib.hid hv
                have HK2 := Lib.hid hk2
                clear hv hk2 hvn
                go_wp2_with fail
                refine (HW2.out _).mono ?_
                rintro e w3 ⟨rfl, hk3⟩
                have HI3 := Lib.hid (show Keeps (fun _ => False) w w3 ∧ w3.cell? ⟨w1.heap.size, k1, none⟩ = some (.string O) ∧ PtsAt w3 (fun _ => True) n (nestP a0.data.toList O.data.toList false 1) (.slice va vn vc) by
                  have hk := HK2.out.trans hk3 (fun _ _ h => h)
                  exact ⟨HI.out.1.trans hk (fun _ _ h => h), (World.cell?_of_block (a := ⟨w1.heap.size, k1, none⟩) (hk.block _ HI.out.2.2 (fun h => h))).trans HI.out.2.1, (HV.out.keep hk3 (fun _ _ _ h => h)).mono (fun _ _ _ => trivial)⟩)
                clear hk3 hcB
                go_wp2_with fail
                refine (num_any 0 _).mono ?_
                rintro e w4 ⟨rfl, hw4⟩
                subst hw4
                go_wp2_with fail
                refine (num_any 2 _).mono ?_
                rintro e w5 ⟨rfl, hw5⟩
                subst hw5
                go_wp2_with fail
                go_loopw [15, 19] (fun v' i' wx => ∃ (j m n : Nat) (xa : Option Addr) (xl xc : Nat), v' = .slice xa xl xc ∧ i' = .int .i64 j ∧ j + m = 1 ∧ Hid (Keeps (fun _ => False) w wx ∧ wx.cell? ⟨w1.heap.size, k1, none⟩ = some (.string O) ∧ PtsAt wx (fun _ => True) n (nestP a0.data.toList O.data.toList false m) (.slice xa xl xc))) (fun _ i' _ => 1 - (intOf i').toNat)
                case atStart => exact ⟨0, 1, n, _, _, _, rfl, rfl, by omega, HI3⟩
                case round =>
                  obtain ⟨j, m, n, xa, xl, xc, rfl, rfl, hjm, HJ⟩ := hrel
                  cases m with
                  | zero =>
                    have p9 : ¬ (j : Int) < (1 : Int) := by omega
                    obtain ⟨a, c, e, _, _⟩ := HJ.out.2.2.shape
                    injection e with e1 e2 e3
                    have e4 : xl = 0 := e2
                    subst e4
                    clear e1 e2 e3
                    go_wp2_with fail
                    go_ret
                    exact ⟨rfl, HJ.out.1.below0 (fun _ h => h.elim)⟩
                  | succ m =>
                    have p9 : (j : Int) < (1 : Int) := by omega
                    obtain ⟨a, c, e, _, _⟩ := HJ.out.2.2.shape
                    obtain ⟨g, o, ya, yl, yc, rfl, ⟨r0, r1, r2, r3, r4, r5⟩, hy, _, hg⟩ := HJ.out.2.2.at (Keeps.refl _ _) (i := 0) (Nat.succ_pos _)
                    injection e with e1 e2 e3
                    have e4 : xl = 1 := e2
                    subst e4
                    have r0' : wr.cell? ⟨g, o, none⟩ = some (.int .i64 3) := r0
                    have r2' : wr.cell? ⟨g, o + 2, none⟩ = some (.string a0) := by rw [← hcz]; exact r2
                    have r3' : wr.cell? ⟨g, o + 3, none⟩ = some (.string O) := by rw [← hcO]; exact r3
                    have r4' : wr.cell? ⟨g, o + 4, none⟩ = some (.slice ya yl yc) := r4
                    have r5' : wr.cell? ⟨g, o + 5, none⟩ = some (.bool false) := r5
                    have hcB := HJ.out.2.1
                    have HY := Lib.hid (show PtsAt wr (fun _ => True) (n - 1) (nestP a0.data.toList O.data.toList false m) (.slice ya yl yc) from hy)
                    clear r0 r1 r2 r3 r4 r5 hy e1 e2 e3
                    go_wp2_with fail
                    go_quiet (fail)
                    go_wp2_with fail
                    go_roundw
                    case rel => exact ⟨j + 1, m, n - 1, ya, yl, yc, rfl, by go_num, by omega, Lib.hid ⟨HJ.out.1.drewN _, hcB, HY.out.keep (S := fun _ => False) ((Keeps.refl _ _).drewN _) (fun _ _ _ h => h)⟩⟩
                    case measure => simp [intOf]; omega
              · omega
      · obtain ⟨s3, s4⟩ := ba_full hO0
        have HO0 := Lib.hid hO0
        clear hO0 hnil
        cases a3 with
        | true =>
          go_wp2_with fail
          go_loopw [12, 13, 14] (fun s' e' i' wr2 => ∃ (S E : ByteArray) (j : Nat), s' = .string S ∧ e' = .string E ∧ i' = .int .i64 j ∧ j ≤ D ∧ Hid (S.data.toList = preN a0.data.toList O.data.toList j) ∧ Hid (E.data.toList = List.replicate j 125) ∧ S.size ≤ 2300 ∧ E.size ≤ 50 ∧ wr2 = wr) (fun _ _ i' _ => D - (intOf i').toNat)
          case atStart => exact ⟨⟨#[]⟩, ⟨#[]⟩, 0, rfl, rfl, rfl, Nat.zero_le _, Lib.hid rfl, Lib.hid rfl, by decide, by decide, rfl⟩
          case round =>
            obtain ⟨S, E, j, rfl, rfl, rfl, hj, HS, HE, hSz, hEz, rfl⟩ := hrel
            rcases Nat.lt_or_ge j D with hlt | hge
            · have p7 : (j : Int) < (D : Int) := by omega
              have HS2 := Lib.hid (show (S ++ ⟨#[36]⟩ ++ ⟨#[123]⟩ ++ a0 ++ O).data.toList = preN a0.data.toList O.data.toList (j + 1) by
                simp only [ba_append]
                rw [HS.out]
                simp [preN])
              have HE2 := Lib.hid (show (E ++ ⟨#[125]⟩).data.toList = List.replicate (j + 1) 125 by
                rw [ba_append, HE.out, List.replicate_succ'])
              have hSz2 : (S ++ ⟨#[36]⟩ ++ ⟨#[123]⟩ ++ a0 ++ O).size ≤ 2300 := by
                rw [Lib.size_eq, HS2.out, preN_len]
                have h1 : (j + 1) * (a0.data.toList.length + O.data.toList.length + 2) ≤ 50 * 44 := Nat.mul_le_mul (by omega) (by rw [← Lib.size_eq, ← Lib.size_eq]; omega)
                omega
              have hEz2 : (E ++ ⟨#[125]⟩).size ≤ 50 := by
                rw [Lib.size_eq, HE2.out, List.length_replicate]; omega
              go_wp2_with fail
              go_roundw
              case rel => exact ⟨_, _, j + 1, rfl, rfl, by go_num, by omega, HS2, HE2, hSz2, hEz2, trivial⟩
              case measure => simp [intOf]; omega
            · obtain rfl : D = j := by omega
              have p7 : ¬ (D : Int) < (D : Int) := by omega
              obtain ⟨T, hT⟩ : ∃ T, T = (⟨#[34]⟩ : ByteArray) ++ (S ++ E) ++ ⟨#[34]⟩ := ⟨_, rfl⟩
              have hTl : T.data.toList = brText a0.data.toList O.data.toList D true := by
                rw [hT, brText_pre]
                simp only [ba_append]
                rw [HS.out, HE.out]
                simp
              have hlow2 : ∀ c ∈ a0.data.toList, (c == 0) = false := fun c hc => (low_plain (HLOW.out c hc)).2.2.2.2.2.2
              have hTz : T.size ≤ 2300 := by rw [Lib.size_eq, hTl]; exact brText_len (by rw [← Lib.size_eq]; omega) (by rw [← Lib.size_eq]; omega) (by omega) _
              have hTm : mayF T.data.toList = 0 := may_low (by rw [← Lib.size_eq]; omega) (fun c hc => by rw [hTl] at hc; exact brText_zero hlow2 HOZ.out _ _ c hc)
              have HW := Lib.hid (show ∀ W, Calls Try.prog 22 #[.string T] W (WordPost W (wholeW (brText a0.data.toList O.data.toList D true))) from fun W => by
                have h := word_any T W (by omega)
                rw [wholeF_W _ hTm, hTl] at h
                exact h)
              have HT := Lib.hid hT
              have HTL := Lib.hid hTl
              have HTM := Lib.hid hTm
              have HLZ := Lib.hid hlow2
              have hT1 : 1 ≤ T.size := by rw [Lib.size_eq, hTl, brText_open _ _ _ _ (by omega)]; simp
              have hUl : (T.extract 0 (T.size - 1)).data.toList = brOpen a0.data.toList O.data.toList D true := by
                have h := brText_open a0.data.toList O.data.toList D true (by omega)
                rw [← hTl] at h
                have hz : T.size - 1 = (brOpen a0.data.toList O.data.toList D true).length := by rw [Lib.size_eq, h]; simp
                rw [ByteArray.data_extract, Array.toList_extract, hz]
                simp only [List.extract, Nat.sub_zero, List.drop_zero]
                rw [h, List.take_left]
              have hUm : mayF (T.extract 0 (T.size - 1)).data.toList = 0 := may_low (by rw [← Lib.size_eq, ByteArray.size_extract]; omega) (fun c hc => by
                rw [hUl] at hc
                exact brText_zero hlow2 HOZ.out D true c (by rw [brText_open _ _ _ _ (by omega)]; exact List.mem_append_left _ hc))
              have HW2 := Lib.hid (show ∀ W, Calls Try.prog 22 #[.string (T.extract 0 (T.size - 1))] W (WordPost W (wholeW (brOpen a0.data.toList O.data.toList D true))) from fun W => by
                have h := word_any (T.extract 0 (T.size - 1)) W (by rw [ByteArray.size_extract]; omega)
                rw [wholeF_W _ hUm, hUl] at h
                exact h)
              have hlaw := br_law (name := a0.data.toList) (o := O.data.toList) HLOW.out HNE.out HOM.out (D - 1) (fun h => absurd h HO0.out) true
              rw [show D - 1 + 1 = D by omega] at hlaw
              have HLAW := Lib.hid hlaw
              have hcz : strV a0.data.toList = .string a0 := strV_of rfl
              have hcO : strV O.data.toList = .string O := strV_of rfl
              clear hT hTl hTm hlow2 hUl hUm hlaw
              by_cases h40 : D ≤ 40
              · have p8 : ¬ (40 : Int) < (D : Int) := by omega
                have hw1 := (HLAW.out.1 (by omega)).1
                have hw2 := (HLAW.out.1 (by omega)).2
                rw [hw1] at HW
                rw [hw2] at HW2
                clear hw1 hw2 h40
                go_wp2_with fail
                rw [← HT.out]
                refine (HW.out _).mono ?_
                rintro e w2 ⟨v, n, rfl, hv, hk2⟩
                obtain ⟨va, vc, rfl, _, _⟩ := hv.shape
                obtain ⟨vn, hvn⟩ : ∃ vn, vn = (nestP a0.data.toList O.data.toList true D).length := ⟨_, rfl⟩
                rw [← hvn] at hv ⊢
                have HV := Lib.hid hv
                have HK2 := Lib.hid hk2
                clear hv hk2 hvn
                go_wp2_with fail
                refine (HW2.out _).mono ?_
                rintro e w3 ⟨rfl, hk3⟩
                have HI3 := Lib.hid (show Keeps (fun _ => False) w w3 ∧ w3.cell? ⟨w1.heap.size, k1, none⟩ = some (.string O) ∧ PtsAt w3 (fun _ => True) n (nestP a0.data.toList O.data.toList true D) (.slice va vn vc) by
                  have hk := HK2.out.trans hk3 (fun _ _ h => h)
                  exact ⟨HI.out.1.trans hk (fun _ _ h => h), (World.cell?_of_block (a := ⟨w1.heap.size, k1, none⟩) (hk.block _ HI.out.2.2 (fun h => h))).trans HI.out.2.1, (HV.out.keep hk3 (fun _ _ _ h => h)).mono (fun _ _ _ => trivial)⟩)
                clear hk3 hcB
                go_wp2_with fail
                refine (num_any 0 _).mono ?_
                rintro e w4 ⟨rfl, hw4⟩
                subst hw4
                go_wp2_with fail
                refine (num_any 2 _).mono ?_
                rintro e w5 ⟨rfl, hw5⟩
                subst hw5
                go_wp2_with fail
                go_loopw [15, 19] (fun v' i' wx => ∃ (j m n : Nat) (xa : Option Addr) (xl xc : Nat), v' = .slice xa xl xc ∧ i' = .int .i64 j ∧ j + m = D ∧ Hid (Keeps (fun _ => False) w wx ∧ wx.cell? ⟨w1.heap.size, k1, none⟩ = some (.string O) ∧ PtsAt wx (fun _ => True) n (nestP a0.data.toList O.data.toList true m) (.slice xa xl xc))) (fun _ i' _ => D - (intOf i').toNat)
                case atStart => exact ⟨0, D, n, _, _, _, rfl, rfl, by omega, HI3⟩
                case round =>
                  obtain ⟨j, m, n, xa, xl, xc, rfl, rfl, hjm, HJ⟩ := hrel
                  cases m with
                  | zero =>
                    have p9 : ¬ (j : Int) < (D : Int) := by omega
                    obtain ⟨a, c, e, _, _⟩ := HJ.out.2.2.shape
                    injection e with e1 e2 e3
                    have e4 : xl = 0 := e2
                    subst e4
                    clear e1 e2 e3
                    go_wp2_with fail
                    go_ret
                    exact ⟨rfl, HJ.out.1.below0 (fun _ h => h.elim)⟩
                  | succ m =>
                    have p9 : (j : Int) < (D : Int) := by omega
                    obtain ⟨a, c, e, _, _⟩ := HJ.out.2.2.shape
                    obtain ⟨g, o, ya, yl, yc, rfl, ⟨r0, r1, r2, r3, r4, r5⟩, hy, _, hg⟩ := HJ.out.2.2.at (Keeps.refl _ _) (i := 0) (Nat.succ_pos _)
                    injection e with e1 e2 e3
                    have e4 : xl = 1 := e2
                    subst e4
                    have r0' : wr.cell? ⟨g, o, none⟩ = some (.int .i64 3) := r0
                    have r2' : wr.cell? ⟨g, o + 2, none⟩ = some (.string a0) := by rw [← hcz]; exact r2
                    have r3' : wr.cell? ⟨g, o + 3, none⟩ = some (.string O) := by rw [← hcO]; exact r3
                    have r4' : wr.cell? ⟨g, o + 4, none⟩ = some (.slice ya yl yc) := r4
                    have r5' : wr.cell? ⟨g, o + 5, none⟩ = some (.bool true) := r5
                    have hcB := HJ.out.2.1
                    have HY := Lib.hid (show PtsAt wr (fun _ => True) (n - 1) (nestP a0.data.toList O.data.toList true m) (.slice ya yl yc) from hy)
                    clear r0 r1 r2 r3 r4 r5 hy e1 e2 e3
                    go_wp2_with fail
                    go_quiet (fail)
                    go_wp2_with fail
                    go_roundw
                    case rel => exact ⟨j + 1, m, n - 1, ya, yl, yc, rfl, by go_num, by omega, Lib.hid ⟨HJ.out.1.drewN _, hcB, HY.out.keep (S := fun _ => False) ((Keeps.refl _ _).drewN _) (fun _ _ _ h => h)⟩⟩
                    case measure => simp [intOf]; omega
              · have p8 : (40 : Int) < (D : Int) := by omega
                have hw1 := HLAW.out.2 (by omega)
                rw [hw1] at HW
                clear hw1 h40
                go_wp2_with fail
                rw [← HT.out]
                refine (HW.out _).mono ?_
                rintro e w2 ⟨rfl, hk2⟩
                have HK2 := Lib.hid hk2
                clear hk2
                go_wp2_with fail
                obtain ⟨res, hres⟩ : ∃ res, res = wholeW (brOpen a0.data.toList O.data.toList D true) := ⟨_, rfl⟩
                refine (HW2.out _).mono ?_
                rw [← hres]
                clear hres
                intro e w3 hp
                obtain ⟨va, vn, vc, ec, he, hk3⟩ : ∃ va vn vc, ∃ ec : Nat, e = .returned (.tuple #[.slice va vn vc, .int .i64 ec]) ∧ Keeps (fun _ => False) w2 w3 := by
                  cases res with
                  | error x => exact ⟨none, 0, 0, x, hp⟩
                  | ok l =>
                    obtain ⟨v, n, he, hv, hk⟩ := hp
                    obtain ⟨a, c, rfl, _, _⟩ := hv.shape
                    exact ⟨a, _, c, 0, he, hk⟩
                subst he
                have HK3 := Lib.hid ((HI.out.1.trans HK2.out (fun _ _ h => h)).trans hk3 (fun _ _ h => h))
                clear hp hk3
                go_wp2_with fail
                refine (num_any 3 _).mono ?_
                rintro e w4 ⟨rfl, hw4⟩
                subst hw4
                go_wp2_with fail
                go_ret
                exact ⟨rfl, HK3.out.below0 (fun _ h => h.elim)⟩
        | false =>
          go_wp2_with fail
          go_loopw [12, 13, 14] (fun s' e' i' wr2 => ∃ (S E : ByteArray) (j : Nat), s' = .string S ∧ e' = .string E ∧ i' = .int .i64 j ∧ j ≤ D ∧ Hid (S.data.toList = preN a0.data.toList O.data.toList j) ∧ Hid (E.data.toList = List.replicate j 125) ∧ S.size ≤ 2300 ∧ E.size ≤ 50 ∧ wr2 = wr) (fun _ _ i' _ => D - (intOf i').toNat)
          case atStart => exact ⟨⟨#[]⟩, ⟨#[]⟩, 0, rfl, rfl, rfl, Nat.zero_le _, Lib.hid rfl, Lib.hid rfl, by decide, by decide, rfl⟩
          case round =>
            obtain ⟨S, E, j, rfl, rfl, rfl, hj, HS, HE, hSz, hEz, rfl⟩ := hrel
            rcases Nat.lt_or_ge j D with hlt | hge
            · have p7 : (j : Int) < (D : Int) := by omega
              have HS2 := Lib.hid (show (S ++ ⟨#[36]⟩ ++ ⟨#[123]⟩ ++ a0 ++ O).data.toList = preN a0.data.toList O.data.toList (j + 1) by
                simp only [ba_append]
                rw [HS.out]
                simp [preN])
              have HE2 := Lib.hid (show (E ++ ⟨#[125]⟩).data.toList = List.replicate (j + 1) 125 by
                rw [ba_append, HE.out, List.replicate_succ'])
              have hSz2 : (S ++ ⟨#[36]⟩ ++ ⟨#[123]⟩ ++ a0 ++ O).size ≤ 2300 := by
                rw [Lib.size_eq, HS2.out, preN_len]
                have h1 : (j + 1) * (a0.data.toList.length + O.data.toList.length + 2) ≤ 50 * 44 := Nat.mul_le_mul (by omega) (by rw [← Lib.size_eq, ← Lib.size_eq]; omega)
                omega
              have hEz2 : (E ++ ⟨#[125]⟩).size ≤ 50 := by
                rw [Lib.size_eq, HE2.out, List.length_replicate]; omega
              go_wp2_with fail
              go_roundw
              case rel => exact ⟨_, _, j + 1, rfl, rfl, by go_num, by omega, HS2, HE2, hSz2, hEz2, trivial⟩
              case measure => simp [intOf]; omega
            · obtain rfl : D = j := by omega
              have p7 : ¬ (D : Int) < (D : Int) := by omega
              obtain ⟨T, hT⟩ : ∃ T, T = S ++ E := ⟨_, rfl⟩
              have hTl : T.data.toList = brText a0.data.toList O.data.toList D false := by
                rw [hT, brText_pre]
                simp only [ba_append]
                rw [HS.out, HE.out]
                simp
              have hlow2 : ∀ c ∈ a0.data.toList, (c == 0) = false := fun c hc => (low_plain (HLOW.out c hc)).2.2.2.2.2.2
              have hTz : T.size ≤ 2300 := by rw [Lib.size_eq, hTl]; exact brText_len (by rw [← Lib.size_eq]; omega) (by rw [← Lib.size_eq]; omega) (by omega) _
              have hTm : mayF T.data.toList = 0 := may_low (by rw [← Lib.size_eq]; omega) (fun c hc => by rw [hTl] at hc; exact brText_zero hlow2 HOZ.out _ _ c hc)
              have HW := Lib.hid (show ∀ W, Calls Try.prog 22 #[.string T] W (WordPost W (wholeW (brText a0.data.toList O.data.toList D false))) from fun W => by
                have h := word_any T W (by omega)
                rw [wholeF_W _ hTm, hTl] at h
                exact h)
              have HT := Lib.hid hT
              have HTL := Lib.hid hTl
              have HTM := Lib.hid hTm
              have HLZ := Lib.hid hlow2
              have hT1 : 1 ≤ T.size := by rw [Lib.size_eq, hTl, brText_open _ _ _ _ (by omega)]; simp
              have hUl : (T.extract 0 (T.size - 1)).data.toList = brOpen a0.data.toList O.data.toList D false := by
                have h := brText_open a0.data.toList O.data.toList D false (by omega)
                rw [← hTl] at h
                have hz : T.size - 1 = (brOpen a0.data.toList O.data.toList D false).length := by rw [Lib.size_eq, h]; simp
                rw [ByteArray.data_extract, Array.toList_extract, hz]
                simp only [List.extract, Nat.sub_zero, List.drop_zero]
                rw [h, List.take_left]
              have hUm : mayF (T.extract 0 (T.size - 1)).data.toList = 0 := may_low (by rw [← Lib.size_eq, ByteArray.size_extract]; omega) (fun c hc => by
                rw [hUl] at hc
                exact brText_zero hlow2 HOZ.out D false c (by rw [brText_open _ _ _ _ (by omega)]; exact List.mem_append_left _ hc))
              have HW2 := Lib.hid (show ∀ W, Calls Try.prog 22 #[.string (T.extract 0 (T.size - 1))] W (WordPost W (wholeW (brOpen a0.data.toList O.data.toList D false))) from fun W => by
                have h := word_any (T.extract 0 (T.size - 1)) W (by rw [ByteArray.size_extract]; omega)
                rw [wholeF_W _ hUm, hUl] at h
                exact h)
              have hlaw := br_law (name := a0.data.toList) (o := O.data.toList) HLOW.out HNE.out HOM.out (D - 1) (fun h => absurd h HO0.out) false
              rw [show D - 1 + 1 = D by omega] at hlaw
              have HLAW := Lib.hid hlaw
              have hcz : strV a0.data.toList = .string a0 := strV_of rfl
              have hcO : strV O.data.toList = .string O := strV_of rfl
              clear hT hTl hTm hlow2 hUl hUm hlaw
              by_cases h40 : D ≤ 40
              · have p8 : ¬ (40 : Int) < (D : Int) := by omega
                have hw1 := (HLAW.out.1 (by omega)).1
                have hw2 := (HLAW.out.1 (by omega)).2
                rw [hw1] at HW
                rw [hw2] at HW2
                clear hw1 hw2 h40
                go_wp2_with fail
                rw [← HT.out]
                refine (HW.out _).mono ?_
                rintro e w2 ⟨v, n, rfl, hv, hk2⟩
                obtain ⟨va, vc, rfl, _, _⟩ := hv.shape
                obtain ⟨vn, hvn⟩ : ∃ vn, vn = (nestP a0.data.toList O.data.toList false D).length := ⟨_, rfl⟩
                rw [← hvn] at hv ⊢
                have HV := Lib.hid hv
                have HK2 := Lib.hid hk2
                clear hv hk2 hvn
                go_wp2_with fail
                refine (HW2.out _).mono ?_
                rintro e w3 ⟨rfl, hk3⟩
                have HI3 := Lib.hid (show Keeps (fun _ => False) w w3 ∧ w3.cell? ⟨w1.heap.size, k1, none⟩ = some (.string O) ∧ PtsAt w3 (fun _ => True) n (nestP a0.data.toList O.data.toList false D) (.slice va vn vc) by
                  have hk := HK2.out.trans hk3 (fun _ _ h => h)
                  exact ⟨HI.out.1.trans hk (fun _ _ h => h), (World.cell?_of_block (a := ⟨w1.heap.size, k1, none⟩) (hk.block _ HI.out.2.2 (fun h => h))).trans HI.out.2.1, (HV.out.keep hk3 (fun _ _ _ h => h)).mono (fun _ _ _ => trivial)⟩)
                clear hk3 hcB
                go_wp2_with fail
                refine (num_any 0 _).mono ?_
                rintro e w4 ⟨rfl, hw4⟩
                subst hw4
                go_wp2_with fail
                refine (num_any 2 _).mono ?_
                rintro e w5 ⟨rfl, hw5⟩
                subst hw5
                go_wp2_with fail
                go_loopw [15, 19] (fun v' i' wx => ∃ (j m n : Nat) (xa : Option Addr) (xl xc : Nat), v' = .slice xa xl xc ∧ i' = .int .i64 j ∧ j + m = D ∧ Hid (Keeps (fun _ => False) w wx ∧ wx.cell? ⟨w1.heap.size, k1, none⟩ = some (.string O) ∧ PtsAt wx (fun _ => True) n (nestP a0.data.toList O.data.toList false m) (.slice xa xl xc))) (fun _ i' _ => D - (intOf i').toNat)
                case atStart => exact ⟨0, D, n, _, _, _, rfl, rfl, by omega, HI3⟩
                case round =>
                  obtain ⟨j, m, n, xa, xl, xc, rfl, rfl, hjm, HJ⟩ := hrel
                  cases m with
                  | zero =>
                    have p9 : ¬ (j : Int) < (D : Int) := by omega
                    obtain ⟨a, c, e, _, _⟩ := HJ.out.2.2.shape
                    injection e with e1 e2 e3
                    have e4 : xl = 0 := e2
                    subst e4
                    clear e1 e2 e3
                    go_wp2_with fail
                    go_ret
                    exact ⟨rfl, HJ.out.1.below0 (fun _ h => h.elim)⟩
                  | succ m =>
                    have p9 : (j : Int) < (D : Int) := by omega
                    obtain ⟨a, c, e, _, _⟩ := HJ.out.2.2.shape
                    obtain ⟨g, o, ya, yl, yc, rfl, ⟨r0, r1, r2, r3, r4, r5⟩, hy, _, hg⟩ := HJ.out.2.2.at (Keeps.refl _ _) (i := 0) (Nat.succ_pos _)
                    injection e with e1 e2 e3
                    have e4 : xl = 1 := e2
                    subst e4
                    have r0' : wr.cell? ⟨g, o, none⟩ = some (.int .i64 3) := r0
                    have r2' : wr.cell? ⟨g, o + 2, none⟩ = some (.string a0) := by rw [← hcz]; exact r2
                    have r3' : wr.cell? ⟨g, o + 3, none⟩ = some (.string O) := by rw [← hcO]; exact r3
                    have r4' : wr.cell? ⟨g, o + 4, none⟩ = some (.slice ya yl yc) := r4
                    have r5' : wr.cell? ⟨g, o + 5, none⟩ = some (.bool false) := r5
                    have hcB := HJ.out.2.1
                    have HY := Lib.hid (show PtsAt wr (fun _ => True) (n - 1) (nestP a0.data.toList O.data.toList false m) (.slice ya yl yc) from hy)
                    clear r0 r1 r2 r3 r4 r5 hy e1 e2 e3
                    go_wp2_with fail
                    go_quiet (fail)
                    go_wp2_with fail
                    go_roundw
                    case rel => exact ⟨j + 1, m, n - 1, ya, yl, yc, rfl, by go_num, by omega, Lib.hid ⟨HJ.out.1.drewN _, hcB, HY.out.keep (S := fun _ => False) ((Keeps.refl _ _).drewN _) (fun _ _ _ h => h)⟩⟩
                    case measure => simp [intOf]; omega
              · have p8 : (40 : Int) < (D : Int) := by omega
                have hw1 := HLAW.out.2 (by omega)
                rw [hw1] at HW
                clear hw1 h40
                go_wp2_with fail
                rw [← HT.out]
                refine (HW.out _).mono ?_
                rintro e w2 ⟨rfl, hk2⟩
                have HK2 := Lib.hid hk2
                clear hk2
                go_wp2_with fail
                obtain ⟨res, hres⟩ : ∃ res, res = wholeW (brOpen a0.data.toList O.data.toList D false) := ⟨_, rfl⟩
                refine (HW2.out _).mono ?_
                rw [← hres]
                clear hres
                intro e w3 hp
                obtain ⟨va, vn, vc, ec, he, hk3⟩ : ∃ va vn vc, ∃ ec : Nat, e = .returned (.tuple #[.slice va vn vc, .int .i64 ec]) ∧ Keeps (fun _ => False) w2 w3 := by
                  cases res with
                  | error x => exact ⟨none, 0, 0, x, hp⟩
                  | ok l =>
                    obtain ⟨v, n, he, hv, hk⟩ := hp
                    obtain ⟨a, c, rfl, _, _⟩ := hv.shape
                    exact ⟨a, _, c, 0, he, hk⟩
                subst he
                have HK3 := Lib.hid ((HI.out.1.trans HK2.out (fun _ _ h => h)).trans hk3 (fun _ _ h => h))
                clear hp hk3
                go_wp2_with fail
                refine (num_any 3 _).mono ?_
                rintro e w4 ⟨rfl, hw4⟩
                subst hw4
                go_wp2_with fail
                go_ret
                exact ⟨rfl, HK3.out.below0 (fun _ h => h.elim)⟩
end Go.Proofs.Ytnndnldpbdhkgaa
