/-
  MacroMany's walk.
-/
import Derived.Test.YtglppnpllpfaeaaMacPB
namespace Go.Proofs.Ytglppnpllpfaeaa
open Go.RowKit
set_option linter.unusedVariables false

set_option maxRecDepth 100000 in
set_option maxHeartbeats 16000000 in
theorem macroMany_walk (a0 : Int) (w : World) (h0 : (Lit.int .i64 a0).wf = true) (hsh : w.ShapedOpen Try.prog) :
    Calls Try.prog 7 #[.int .i64 a0] w fun e w' => e = .returned (.bool true) ∧ Below w.heap.size w w' := by
  have gl := gl_of hsh
  obtain ⟨i0, hi0, hz0, hz1, hz2⟩ := info_parts info_pair
  have hc2 : Try.prog.cellsOf 35 = 2 := by kernel_rfl
  by_cases c1 : a0 < 1
  · go_enter Try.func7, Try.ntmps7
    go_wp2_with fail
    refine (alive_any w gl).mono ?_
    rintro e w1 ⟨rfl, hk⟩
    have HK1 := Lib.hid hk
    clear hk
    go_wp2_with fail
    go_ret
    exact ⟨rfl, HK1.out.below0 (fun _ h => h.elim)⟩
  by_cases c2 : 13 < a0
  · go_enter Try.func7, Try.ntmps7
    go_wp2_with fail
    refine (alive_any w gl).mono ?_
    rintro e w1 ⟨rfl, hk⟩
    have HK1 := Lib.hid hk
    clear hk
    go_wp2_with fail
    go_ret
    exact ⟨rfl, HK1.out.below0 (fun _ h => h.elim)⟩
  obtain ⟨n, rfl⟩ : ∃ n : Nat, a0 = n := ⟨a0.toNat, by omega⟩
  have hn : n ≤ 13 := by omega
  have hn1 : 1 ≤ n := by omega
  clear h0
  go_enter Try.func7, Try.ntmps7
  go_wp2_with fail
  refine (alive_any w gl).mono ?_
  rintro e w1 ⟨rfl, hk⟩
  have HK1 := Lib.hid hk
  clear hk
  go_wp2_with fail
  have HP0 := Lib.hid (show PrAt w1 (w1.alloc (.cells #[.string ⟨#[109, 48]⟩, .string ⟨#[]⟩] 35)) (.slice (some ⟨w1.heap.size, 0, none⟩) 1 1) (chainL maV 1) from ⟨by
    have h3 := World.ownsRow_lit (base := 0) (e := 35) (size := 2) w1 #[.string ⟨#[109, 48]⟩, .string ⟨#[]⟩] 1 (Nat.zero_le _) (by unfold maxLen; omega) rfl
    exact h3, fun g hg => (by obtain rfl : w1.heap.size = g := Option.some.inj hg; exact Nat.le_refl _), (Keeps.refl _ _).alloc _⟩)
  go_loopw [4, 5] (fun v' i' wr => ∃ (i : Nat) (va : Option Addr) (vn vc : Nat), v' = .slice va vn vc ∧ i' = .int .i64 i ∧ 1 ≤ i ∧ i ≤ n + 1 ∧ Hid (vn = i) ∧ Hid (PrAt w1 wr (.slice va vn vc) (chainL maV i))) (fun _ i' _ => n + 1 - (intOf i').toNat)
  case atStart => exact ⟨1, some ⟨w1.heap.size, 0, none⟩, 1, 1, rfl, rfl, Nat.le_refl _, by omega, Lib.hid rfl, HP0⟩
  case round =>
    obtain ⟨i, va, vn, vc, rfl, rfl, hi1, hi, HVI, HPR⟩ := hrel
    have HOW := Lib.hid (show wr.ownsRow 0 35 2 (.slice va vn vc) vn (cellsPr (chainL maV i)) from by
      have h := HPR.out.own
      unfold OwnPr at h
      rw [chainL_len] at h
      rw [HVI.out]
      rw [HVI.out] at h
      exact h)
    have HVN := Lib.hid (show vn = (chainL maV i).length by rw [chainL_len]; exact HVI.out)
    have hvb : vn ≤ 40 := by rw [HVI.out]; omega
    rcases Nat.lt_or_ge n i with hge | hlt
    · obtain rfl : i = n + 1 := by omega
      have p1 : ¬ ((n + 1 : Nat) : Int) ≤ (n : Int) := by omega
      have HPP := Lib.hid (HPR.out.own.pairs (by rw [chainL_len]; omega))
      have HSM := Lib.hid (show Small (chainL maV (n + 1)) ∧ Small [] from ⟨small_of fun p hp => by
        unfold chainL at hp
        obtain ⟨j, _, rfl⟩ := List.mem_map.1 hp
        have h1 := nm_len (j - 1)
        unfold maV
        split
        · simp
        · simp; omega, small_nil⟩)
      have HKW := Lib.hid (show Keeps (fun k => w.heap.size ≤ k) w wr from (HK1.out.mono fun _ _ h => h.elim).trans HPR.out.kp fun k hk h => by have := HK1.out.size; omega)
      have HGL := Lib.hid (show Gl wr by
        obtain ⟨m, hm⟩ := gl
        exact ⟨m, by rw [World.cell?_of_block (HKW.out.block 0 (cellx_lt hm) (fun h => by have := cellx_lt hm; omega))]; exact hm⟩)
      go_wp2_with fail
      refine (digits_any n (by omega) _).mono ?_
      rintro e wd ⟨D, rfl, hD, hwd⟩
      rw [hwd]
      have hDs : D.size ≤ 2 := by rw [Lib.size_eq, hD]; exact dig_len _
      obtain ⟨S, hS⟩ : ∃ S, S = (⟨#[36, 40, 109]⟩ : ByteArray) ++ D ++ ⟨#[41]⟩ := ⟨_, rfl⟩
      have hx := expand_any S (.slice va vn vc) (.slice none 0 0) (chainL maV (n + 1)) [] wr (by rw [hS, ba_size, ba_size]; show 3 + D.size + 1 ≤ _; omega) HPP.out (PairsAt.nil _ _) HSM.out HGL.out
      rw [show expandF (chainL maV (n + 1)) [] S.data.toList = if cnt n ≤ 10000 then .ok [] else .error 3 by
        rw [← many_text (by omega), hS, ba_append, ba_append, hD]; rfl] at hx
      have HX := Lib.hid hx
      have HS := Lib.hid hS
      clear hx hS hD hwd HPR HOW HVN HVI HPP HSM
      go_wp2_with fail
      rw [← HS.out]
      refine HX.out.mono ?_
      have hn12 : n = 1 ∨ n = 2 ∨ n = 3 ∨ n = 4 ∨ n = 5 ∨ n = 6 ∨ n = 7 ∨ n = 8 ∨ n = 9 ∨ n = 10 ∨ n = 11 ∨ n = 12 ∨ n = 13 := by omega
      clear HX HS
      rcases hn12 with rfl | rfl | rfl | rfl | rfl | rfl | rfl | rfl | rfl | rfl | rfl | rfl | rfl
      · rw [if_pos (show cnt 1 ≤ 10000 by decide)]
        rintro e w4 ⟨rfl, hk4⟩
        have HK4 := Lib.hid (HKW.out.trans hk4 (fun _ _ h => h.elim))
        clear hk4
        rw [show strV ([] : Bs) = .string ⟨#[]⟩ from rfl]
        go_wp2_with fail
        refine (num_any 0 _).mono ?_
        rintro e w5 ⟨rfl, hwn⟩
        rw [hwn]
        clear hwn
        go_wp2_with fail
        refine (num_any 0 _).mono ?_
        rintro e w6 ⟨rfl, hwn⟩
        rw [hwn]
        clear hwn
        go_wp2_with fail
        go_ret
        exact ⟨rfl, HK4.out.below0 (fun _ h => h)⟩
      · rw [if_pos (show cnt 2 ≤ 10000 by decide)]
        rintro e w4 ⟨rfl, hk4⟩
        have HK4 := Lib.hid (HKW.out.trans hk4 (fun _ _ h => h.elim))
        clear hk4
        rw [show strV ([] : Bs) = .string ⟨#[]⟩ from rfl]
        go_wp2_with fail
        refine (num_any 0 _).mono ?_
        rintro e w5 ⟨rfl, hwn⟩
        rw [hwn]
        clear hwn
        go_wp2_with fail
        refine (num_any 0 _).mono ?_
        rintro e w6 ⟨rfl, hwn⟩
        rw [hwn]
        clear hwn
        go_wp2_with fail
        go_ret
        exact ⟨rfl, HK4.out.below0 (fun _ h => h)⟩
      · rw [if_pos (show cnt 3 ≤ 10000 by decide)]
        rintro e w4 ⟨rfl, hk4⟩
        have HK4 := Lib.hid (HKW.out.trans hk4 (fun _ _ h => h.elim))
        clear hk4
        rw [show strV ([] : Bs) = .string ⟨#[]⟩ from rfl]
        go_wp2_with fail
        refine (num_any 0 _).mono ?_
        rintro e w5 ⟨rfl, hwn⟩
        rw [hwn]
        clear hwn
        go_wp2_with fail
        refine (num_any 0 _).mono ?_
        rintro e w6 ⟨rfl, hwn⟩
        rw [hwn]
        clear hwn
        go_wp2_with fail
        go_ret
        exact ⟨rfl, HK4.out.below0 (fun _ h => h)⟩
      · rw [if_pos (show cnt 4 ≤ 10000 by decide)]
        rintro e w4 ⟨rfl, hk4⟩
        have HK4 := Lib.hid (HKW.out.trans hk4 (fun _ _ h => h.elim))
        clear hk4
        rw [show strV ([] : Bs) = .string ⟨#[]⟩ from rfl]
        go_wp2_with fail
        refine (num_any 0 _).mono ?_
        rintro e w5 ⟨rfl, hwn⟩
        rw [hwn]
        clear hwn
        go_wp2_with fail
        refine (num_any 0 _).mono ?_
        rintro e w6 ⟨rfl, hwn⟩
        rw [hwn]
        clear hwn
        go_wp2_with fail
        go_ret
        exact ⟨rfl, HK4.out.below0 (fun _ h => h)⟩
      · rw [if_pos (show cnt 5 ≤ 10000 by decide)]
        rintro e w4 ⟨rfl, hk4⟩
        have HK4 := Lib.hid (HKW.out.trans hk4 (fun _ _ h => h.elim))
        clear hk4
        rw [show strV ([] : Bs) = .string ⟨#[]⟩ from rfl]
        go_wp2_with fail
        refine (num_any 0 _).mono ?_
        rintro e w5 ⟨rfl, hwn⟩
        rw [hwn]
        clear hwn
        go_wp2_with fail
        refine (num_any 0 _).mono ?_
        rintro e w6 ⟨rfl, hwn⟩
        rw [hwn]
        clear hwn
        go_wp2_with fail
        go_ret
        exact ⟨rfl, HK4.out.below0 (fun _ h => h)⟩
      · rw [if_pos (show cnt 6 ≤ 10000 by decide)]
        rintro e w4 ⟨rfl, hk4⟩
        have HK4 := Lib.hid (HKW.out.trans hk4 (fun _ _ h => h.elim))
        clear hk4
        rw [show strV ([] : Bs) = .string ⟨#[]⟩ from rfl]
        go_wp2_with fail
        refine (num_any 0 _).mono ?_
        rintro e w5 ⟨rfl, hwn⟩
        rw [hwn]
        clear hwn
        go_wp2_with fail
        refine (num_any 0 _).mono ?_
        rintro e w6 ⟨rfl, hwn⟩
        rw [hwn]
        clear hwn
        go_wp2_with fail
        go_ret
        exact ⟨rfl, HK4.out.below0 (fun _ h => h)⟩
      · rw [if_pos (show cnt 7 ≤ 10000 by decide)]
        rintro e w4 ⟨rfl, hk4⟩
        have HK4 := Lib.hid (HKW.out.trans hk4 (fun _ _ h => h.elim))
        clear hk4
        rw [show strV ([] : Bs) = .string ⟨#[]⟩ from rfl]
        go_wp2_with fail
        refine (num_any 0 _).mono ?_
        rintro e w5 ⟨rfl, hwn⟩
        rw [hwn]
        clear hwn
        go_wp2_with fail
        refine (num_any 0 _).mono ?_
        rintro e w6 ⟨rfl, hwn⟩
        rw [hwn]
        clear hwn
        go_wp2_with fail
        go_ret
        exact ⟨rfl, HK4.out.below0 (fun _ h => h)⟩
      · rw [if_pos (show cnt 8 ≤ 10000 by decide)]
        rintro e w4 ⟨rfl, hk4⟩
        have HK4 := Lib.hid (HKW.out.trans hk4 (fun _ _ h => h.elim))
        clear hk4
        rw [show strV ([] : Bs) = .string ⟨#[]⟩ from rfl]
        go_wp2_with fail
        refine (num_any 0 _).mono ?_
        rintro e w5 ⟨rfl, hwn⟩
        rw [hwn]
        clear hwn
        go_wp2_with fail
        refine (num_any 0 _).mono ?_
        rintro e w6 ⟨rfl, hwn⟩
        rw [hwn]
        clear hwn
        go_wp2_with fail
        go_ret
        exact ⟨rfl, HK4.out.below0 (fun _ h => h)⟩
      · rw [if_pos (show cnt 9 ≤ 10000 by decide)]
        rintro e w4 ⟨rfl, hk4⟩
        have HK4 := Lib.hid (HKW.out.trans hk4 (fun _ _ h => h.elim))
        clear hk4
        rw [show strV ([] : Bs) = .string ⟨#[]⟩ from rfl]
        go_wp2_with fail
        refine (num_any 0 _).mono ?_
        rintro e w5 ⟨rfl, hwn⟩
        rw [hwn]
        clear hwn
        go_wp2_with fail
        refine (num_any 0 _).mono ?_
        rintro e w6 ⟨rfl, hwn⟩
        rw [hwn]
        clear hwn
        go_wp2_with fail
        go_ret
        exact ⟨rfl, HK4.out.below0 (fun _ h => h)⟩
      · rw [if_pos (show cnt 10 ≤ 10000 by decide)]
        rintro e w4 ⟨rfl, hk4⟩
        have HK4 := Lib.hid (HKW.out.trans hk4 (fun _ _ h => h.elim))
        clear hk4
        rw [show strV ([] : Bs) = .string ⟨#[]⟩ from rfl]
        go_wp2_with fail
        refine (num_any 0 _).mono ?_
        rintro e w5 ⟨rfl, hwn⟩
        rw [hwn]
        clear hwn
        go_wp2_with fail
        refine (num_any 0 _).mono ?_
        rintro e w6 ⟨rfl, hwn⟩
        rw [hwn]
        clear hwn
        go_wp2_with fail
        go_ret
        exact ⟨rfl, HK4.out.below0 (fun _ h => h)⟩
      · rw [if_pos (show cnt 11 ≤ 10000 by decide)]
        rintro e w4 ⟨rfl, hk4⟩
        have HK4 := Lib.hid (HKW.out.trans hk4 (fun _ _ h => h.elim))
        clear hk4
        rw [show strV ([] : Bs) = .string ⟨#[]⟩ from rfl]
        go_wp2_with fail
        refine (num_any 0 _).mono ?_
        rintro e w5 ⟨rfl, hwn⟩
        rw [hwn]
        clear hwn
        go_wp2_with fail
        refine (num_any 0 _).mono ?_
        rintro e w6 ⟨rfl, hwn⟩
        rw [hwn]
        clear hwn
        go_wp2_with fail
        go_ret
        exact ⟨rfl, HK4.out.below0 (fun _ h => h)⟩
      · rw [if_pos (show cnt 12 ≤ 10000 by decide)]
        rintro e w4 ⟨rfl, hk4⟩
        have HK4 := Lib.hid (HKW.out.trans hk4 (fun _ _ h => h.elim))
        clear hk4
        rw [show strV ([] : Bs) = .string ⟨#[]⟩ from rfl]
        go_wp2_with fail
        refine (num_any 0 _).mono ?_
        rintro e w5 ⟨rfl, hwn⟩
        rw [hwn]
        clear hwn
        go_wp2_with fail
        refine (num_any 0 _).mono ?_
        rintro e w6 ⟨rfl, hwn⟩
        rw [hwn]
        clear hwn
        go_wp2_with fail
        go_ret
        exact ⟨rfl, HK4.out.below0 (fun _ h => h)⟩
      · rw [if_neg (show ¬ cnt 13 ≤ 10000 by decide)]
        rintro e w4 ⟨rfl, hk4⟩
        have HK4 := Lib.hid (HKW.out.trans hk4 (fun _ _ h => h.elim))
        clear hk4
        go_wp2_with fail
        refine (num_any 3 _).mono ?_
        rintro e w5 ⟨rfl, hwn⟩
        rw [hwn]
        clear hwn
        go_wp2_with fail
        refine (num_any 3 _).mono ?_
        rintro e w6 ⟨rfl, hwn⟩
        rw [hwn]
        clear hwn
        go_wp2_with fail
        refine (num_any 3 _).mono ?_
        rintro e w7 ⟨rfl, hwn⟩
        rw [hwn]
        clear hwn
        go_wp2_with fail
        go_ret
        exact ⟨rfl, HK4.out.below0 (fun _ h => h)⟩
    · have p1 : (i : Int) ≤ (n : Int) := by omega
      obtain ⟨j, rfl⟩ : ∃ j, i = j + 1 := ⟨i - 1, by omega⟩
      have ewi : IntKind.i64.wrap (((j + 1 : Nat) : Int) - 1) = (j : Int) := by rw [IntWalk.i64_in _ (by omega)]; omega
      go_wp2_with fail
      refine (digits_any j (by omega) _).mono ?_
      rintro e wd ⟨D1, rfl, hD1, hwd⟩
      rw [hwd]
      have hD1s : D1.size ≤ 2 := by rw [Lib.size_eq, hD1]; exact dig_len _
      have HD1 := Lib.hid hD1
      clear hD1 hwd
      go_wp2_with fail
      refine (digits_any (j + 1) (by omega) _).mono ?_
      rintro e wd ⟨D2, rfl, hD2, hwd⟩
      rw [hwd]
      have hD2s : D2.size ≤ 2 := by rw [Lib.size_eq, hD2]; exact dig_len _
      have HD2 := Lib.hid hD2
      clear hD2 hwd
      obtain ⟨EA, hEA⟩ : ∃ EA, EA = ⟨#[109]⟩ ++ D2 := ⟨_, rfl⟩
      obtain ⟨EB, hEB⟩ : ∃ EB, EB = ((⟨#[36, 40, 109]⟩ : ByteArray) ++ D1 ++ ⟨#[41]⟩) ++ (⟨#[36, 40, 109]⟩ ++ D1 ++ ⟨#[41]⟩) := ⟨_, rfl⟩
      have HEA := Lib.hid (show EA.data.toList = nm (j + 1) by rw [hEA]; rw [ba_append, HD2.out]; rfl)
      have HEB := Lib.hid (show EB.data.toList = maV (j + 1) by rw [hEB]; simp only [ba_append, HD1.out]; rfl)
      have HAA := Lib.hid hEA
      have HBB := Lib.hid hEB
      clear hEA hEB
      go_wp2_with (at_builtin; rw [← HAA.out, ← HBB.out]; refine wpList_append_lies _ rfl (.tmp 34) (.tmp 42) _ rfl 0 35 i0 _ 2 32 Try.underlying22 hi0 hz0 hz1 hz2 rfl (by omega) (.slice va vn vc) vn (cellsPr (chainL maV (j + 1))) rfl (HOW.out.alloc _) ⟨wr.heap.size, 0, none⟩ 1 1 [.string EA, .string EB] rfl rfl (World.news_of_block (cs := #[.string EA, .string EB]) (t := 35) (fr := (0, 0)) (heap_alloc_new wr _)) (by simp [Value.oneCell']) (by omega) (by unfold maxLen; omega) (by omega) (by simp) (wr.heap.size + 1) (by simp) ?_; intro g cap w6 hown6 hgrow6 hat6 hlt6; have HP2 := Lib.hid (HPR.out.more HVN.out hown6 hgrow6 hat6))
      go_roundw
      case rel => exact ⟨j + 1 + 1, some ⟨g, 0, none⟩, vn + 1, cap, rfl, by go_num, by omega, by omega, Lib.hid (by rw [HVI.out]), Lib.hid (by rw [chainL_succ, ← HEA.out, ← HEB.out]; exact HP2.out)⟩
      case measure => simp [intOf]; omega
end Go.Proofs.Ytglppnpllpfaeaa
