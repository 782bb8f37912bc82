/-
  MacroCycles' walk.
-/
import Derived.Test.YtglppnpllpfaeaaMacPB
namespace Go.Proofs.Ytglppnpllpfaeaa
open Go.RowKit
set_option linter.unusedVariables false

set_option maxRecDepth 100000 in
set_option maxHeartbeats 16000000 in
theorem macroCycles_walk (a0 a1 : Int) (w : World) (h0 : (Lit.int .i64 a0).wf = true) (h1 : (Lit.int .i64 a1).wf = true) (hsh : w.ShapedOpen Try.prog) :
    Calls Try.prog 5 #[.int .i64 a0, .int .i64 a1] w fun e w' => e = .returned (.bool true) ∧ Below w.heap.size w w' := by
  have gl := gl_of hsh
  obtain ⟨i0, hi0, hz0, hz1, hz2⟩ := info_parts info_pair
  have hc2 : Try.prog.cellsOf 35 = 2 := by kernel_rfl
  by_cases c1 : a0 < 1
  · go_enter Try.func5, Try.ntmps5
    go_wp2_with fail
    refine (alive_any w gl).mono ?_
    rintro e w1 ⟨rfl, hk⟩
    have HK1 := Lib.hid hk
    clear hk
    go_wp2_with fail
    go_ret
    exact ⟨rfl, HK1.out.below0 (fun _ h => h.elim)⟩
  by_cases c2 : 30 < a0
  · go_enter Try.func5, Try.ntmps5
    go_wp2_with fail
    refine (alive_any w gl).mono ?_
    rintro e w1 ⟨rfl, hk⟩
    have HK1 := Lib.hid hk
    clear hk
    go_wp2_with fail
    go_ret
    exact ⟨rfl, HK1.out.below0 (fun _ h => h.elim)⟩
  by_cases c3 : a1 < 0
  · go_enter Try.func5, Try.ntmps5
    go_wp2_with fail
    refine (alive_any w gl).mono ?_
    rintro e w1 ⟨rfl, hk⟩
    have HK1 := Lib.hid hk
    clear hk
    go_wp2_with fail
    go_ret
    exact ⟨rfl, HK1.out.below0 (fun _ h => h.elim)⟩
  by_cases c4 : a0 < a1
  · go_enter Try.func5, Try.ntmps5
    go_wp2_with fail
    refine (alive_any w gl).mono ?_
    rintro e w1 ⟨rfl, hk⟩
    have HK1 := Lib.hid hk
    clear hk
    go_wp2_with fail
    go_ret
    exact ⟨rfl, HK1.out.below0 (fun _ h => h.elim)⟩
  obtain ⟨n, rfl⟩ : ∃ n : Nat, a0 = n := ⟨a0.toNat, by omega⟩
  obtain ⟨b, rfl⟩ : ∃ b : Nat, a1 = b := ⟨a1.toNat, by omega⟩
  have hn : n ≤ 30 := by omega
  have hn1 : 1 ≤ n := by omega
  have hbn0 : b ≤ n := by omega
  clear h0 h1
  go_enter Try.func5, Try.ntmps5
  go_wp2_with fail
  refine (alive_any w gl).mono ?_
  rintro e w1 ⟨rfl, hk⟩
  have HK1 := Lib.hid hk
  clear hk
  go_wp2_with fail
  generalize decide (n < b) = q31
  go_loopw [6, 7] (fun v' i' wr => ∃ (i : Nat) (va : Option Addr) (vn vc : Nat), v' = .slice va vn vc ∧ i' = .int .i64 i ∧ i ≤ n ∧ Hid (vn = i) ∧ Hid (PrAt w1 wr (.slice va vn vc) (chainL (cyV n b) i))) (fun _ i' _ => n - (intOf i').toNat)
  case atStart => exact ⟨0, none, 0, 0, rfl, rfl, Nat.zero_le _, Lib.hid rfl, Lib.hid ⟨World.ownsRow_nil _ _ _ _, fun g hg => (by cases hg), Keeps.refl _ _⟩⟩
  case round =>
    obtain ⟨i, va, vn, vc, rfl, rfl, hi, HVI, HPR⟩ := hrel
    have HOW := Lib.hid (show wr.ownsRow 0 35 2 (.slice va vn vc) vn (cellsPr (chainL (cyV n b) i)) from by
      have h := HPR.out.own
      unfold OwnPr at h
      rw [chainL_len] at h
      rw [HVI.out]
      rw [HVI.out] at h
      exact h)
    have HVN := Lib.hid (show vn = (chainL (cyV n b) i).length by rw [chainL_len]; exact HVI.out)
    have hvb : vn ≤ 40 := by rw [HVI.out]; omega
    rcases Nat.lt_or_ge i n with hlt | hge
    · have p1 : (i : Int) < (n : Int) := by omega
      have ewi : IntKind.i64.wrap ((i : Int) + 1) = ((i + 1 : Nat) : Int) := by rw [IntWalk.i64_in _ (by omega)]; rfl
      by_cases hlast : i + 1 = n
      · have t1 : (((i + 1 : Nat) : Int) == (n : Int)) = true := by rw [beq_iff_eq]; omega
        by_cases hbn : b < n
        · have t2 : (b : Int) < (n : Int) := by omega
          have HC := Lib.hid (And.intro hlast hbn)
          clear hlast hbn
          go_wp2_with fail
          refine (digits_any (i + 1) (by omega) _).mono ?_
          rintro e wd ⟨D1, rfl, hD1, hwd⟩
          rw [hwd]
          have hD1s : D1.size ≤ 2 := by rw [Lib.size_eq, hD1]; exact dig_len _
          have HD1 := Lib.hid hD1
          clear hD1 hwd
          go_wp2_with fail
          refine (digits_any b (by omega) _).mono ?_
          rintro e wd ⟨D2, rfl, hD2, hwd⟩
          rw [hwd]
          have hD2s : D2.size ≤ 2 := by rw [Lib.size_eq, hD2]; exact dig_len _
          have HD2 := Lib.hid hD2
          clear hD2 hwd
          go_wp2_with fail
          refine (digits_any i (by omega) _).mono ?_
          rintro e wd ⟨D3, rfl, hD3, hwd⟩
          rw [hwd]
          have hD3s : D3.size ≤ 2 := by rw [Lib.size_eq, hD3]; exact dig_len _
          have HD3 := Lib.hid hD3
          clear hD3 hwd
          obtain ⟨EA, hEA⟩ : ∃ EA, EA = ⟨#[109]⟩ ++ D3 := ⟨_, rfl⟩
          obtain ⟨EB, hEB⟩ : ∃ EB, EB = (⟨#[120]⟩ : ByteArray) ++ (⟨#[36, 123, 109]⟩ ++ D2 ++ ⟨#[125]⟩) := ⟨_, rfl⟩
          have HEA := Lib.hid (show EA.data.toList = nm i by rw [hEA]; rw [ba_append, HD3.out]; rfl)
          have HEB := Lib.hid (show EB.data.toList = cyV n b i by rw [hEB]; rw [ba_append, ba_append, ba_append, HD2.out]; unfold cyV; rw [if_pos HC.out.1, if_pos HC.out.2]; rfl)
          have HAA := Lib.hid hEA
          have HBB := Lib.hid hEB
          clear hEA hEB
          go_wp2_with (at_builtin; rw [← HAA.out, ← HBB.out]; refine wpList_append_lies _ rfl (.tmp 55) (.tmp 62) _ rfl 0 35 i0 _ 2 32 Try.underlying22 hi0 hz0 hz1 hz2 rfl (by omega) (.slice va vn vc) vn (cellsPr (chainL (cyV n b) i)) rfl (HOW.out.alloc _) ⟨wr.heap.size, 0, none⟩ 1 1 [.string EA, .string EB] rfl rfl (World.news_of_block (cs := #[.string EA, .string EB]) (t := 35) (fr := (0, 0)) (heap_alloc_new wr _)) (by simp [Value.oneCell']) (by omega) (by unfold maxLen; omega) (by omega) (by simp) (wr.heap.size + 1) (by simp) ?_; intro g cap w6 hown6 hgrow6 hat6 hlt6; have HP2 := Lib.hid (HPR.out.more HVN.out hown6 hgrow6 hat6))
          go_roundw
          case rel => exact ⟨i + 1, some ⟨g, 0, none⟩, vn + 1, cap, rfl, by go_num, by omega, Lib.hid (by rw [HVI.out]), Lib.hid (by rw [chainL_succ, ← HEA.out, ← HEB.out]; exact HP2.out)⟩
          case measure => simp [intOf]; omega
        · have t2 : ¬ (b : Int) < (n : Int) := by omega
          have HC := Lib.hid (And.intro hlast hbn)
          clear hlast hbn
          go_wp2_with fail
          refine (digits_any (i + 1) (by omega) _).mono ?_
          rintro e wd ⟨D1, rfl, hD1, hwd⟩
          rw [hwd]
          have hD1s : D1.size ≤ 2 := by rw [Lib.size_eq, hD1]; exact dig_len _
          have HD1 := Lib.hid hD1
          clear hD1 hwd
          go_wp2_with fail
          refine (digits_any i (by omega) _).mono ?_
          rintro e wd ⟨D3, rfl, hD3, hwd⟩
          rw [hwd]
          have hD3s : D3.size ≤ 2 := by rw [Lib.size_eq, hD3]; exact dig_len _
          have HD3 := Lib.hid hD3
          clear hD3 hwd
          obtain ⟨EA, hEA⟩ : ∃ EA, EA = ⟨#[109]⟩ ++ D3 := ⟨_, rfl⟩
          obtain ⟨EB, hEB⟩ : ∃ EB, EB = (⟨#[120]⟩ : ByteArray) ++ ⟨#[101, 110, 100]⟩ := ⟨_, rfl⟩
          have HEA := Lib.hid (show EA.data.toList = nm i by rw [hEA]; rw [ba_append, HD3.out]; rfl)
          have HEB := Lib.hid (show EB.data.toList = cyV n b i by rw [hEB]; rw [ba_append]; unfold cyV; rw [if_pos HC.out.1, if_neg HC.out.2]; rfl)
          have HAA := Lib.hid hEA
          have HBB := Lib.hid hEB
          clear hEA hEB
          go_wp2_with (at_builtin; rw [← HAA.out, ← HBB.out]; refine wpList_append_lies _ rfl (.tmp 55) (.tmp 62) _ rfl 0 35 i0 _ 2 32 Try.underlying22 hi0 hz0 hz1 hz2 rfl (by omega) (.slice va vn vc) vn (cellsPr (chainL (cyV n b) i)) rfl (HOW.out.alloc _) ⟨wr.heap.size, 0, none⟩ 1 1 [.string EA, .string EB] rfl rfl (World.news_of_block (cs := #[.string EA, .string EB]) (t := 35) (fr := (0, 0)) (heap_alloc_new wr _)) (by simp [Value.oneCell']) (by omega) (by unfold maxLen; omega) (by omega) (by simp) (wr.heap.size + 1) (by simp) ?_; intro g cap w6 hown6 hgrow6 hat6 hlt6; have HP2 := Lib.hid (HPR.out.more HVN.out hown6 hgrow6 hat6))
          go_roundw
          case rel => exact ⟨i + 1, some ⟨g, 0, none⟩, vn + 1, cap, rfl, by go_num, by omega, Lib.hid (by rw [HVI.out]), Lib.hid (by rw [chainL_succ, ← HEA.out, ← HEB.out]; exact HP2.out)⟩
          case measure => simp [intOf]; omega
      · have t1 : (((i + 1 : Nat) : Int) == (n : Int)) = false := beq_eq_false_iff_ne.2 (by omega)
        have HC := Lib.hid hlast
        clear hlast
        go_wp2_with fail
        refine (digits_any (i + 1) (by omega) _).mono ?_
        rintro e wd ⟨D1, rfl, hD1, hwd⟩
        rw [hwd]
        have hD1s : D1.size ≤ 2 := by rw [Lib.size_eq, hD1]; exact dig_len _
        have HD1 := Lib.hid hD1
        clear hD1 hwd
        go_wp2_with fail
        refine (digits_any i (by omega) _).mono ?_
        rintro e wd ⟨D3, rfl, hD3, hwd⟩
        rw [hwd]
        have hD3s : D3.size ≤ 2 := by rw [Lib.size_eq, hD3]; exact dig_len _
        have HD3 := Lib.hid hD3
        clear hD3 hwd
        obtain ⟨EA, hEA⟩ : ∃ EA, EA = ⟨#[109]⟩ ++ D3 := ⟨_, rfl⟩
        obtain ⟨EB, hEB⟩ : ∃ EB, EB = (⟨#[120]⟩ : ByteArray) ++ (⟨#[36, 40, 109]⟩ ++ D1 ++ ⟨#[41]⟩) := ⟨_, rfl⟩
        have HEA := Lib.hid (show EA.data.toList = nm i by rw [hEA]; rw [ba_append, HD3.out]; rfl)
        have HEB := Lib.hid (show EB.data.toList = cyV n b i by rw [hEB]; rw [ba_append, ba_append, ba_append, HD1.out]; unfold cyV; rw [if_neg HC.out]; rfl)
        have HAA := Lib.hid hEA
        have HBB := Lib.hid hEB
        clear hEA hEB
        go_wp2_with (at_builtin; rw [← HAA.out, ← HBB.out]; refine wpList_append_lies _ rfl (.tmp 55) (.tmp 62) _ rfl 0 35 i0 _ 2 32 Try.underlying22 hi0 hz0 hz1 hz2 rfl (by omega) (.slice va vn vc) vn (cellsPr (chainL (cyV n b) i)) rfl (HOW.out.alloc _) ⟨wr.heap.size, 0, none⟩ 1 1 [.string EA, .string EB] rfl rfl (World.news_of_block (cs := #[.string EA, .string EB]) (t := 35) (fr := (0, 0)) (heap_alloc_new wr _)) (by simp [Value.oneCell']) (by omega) (by unfold maxLen; omega) (by omega) (by simp) (wr.heap.size + 1) (by simp) ?_; intro g cap w6 hown6 hgrow6 hat6 hlt6; have HP2 := Lib.hid (HPR.out.more HVN.out hown6 hgrow6 hat6))
        go_roundw
        case rel => exact ⟨i + 1, some ⟨g, 0, none⟩, vn + 1, cap, rfl, by go_num, by omega, Lib.hid (by rw [HVI.out]), Lib.hid (by rw [chainL_succ, ← HEA.out, ← HEB.out]; exact HP2.out)⟩
        case measure => simp [intOf]; omega
    · obtain rfl : i = n := by omega
      have p1 : ¬ (i : Int) < (i : Int) := by omega
      have HPP := Lib.hid (HPR.out.own.pairs (by rw [chainL_len]; omega))
      have HSM := Lib.hid (show Small (chainL (cyV i b) i) ∧ Small [] from ⟨small_of fun p hp => by
        unfold chainL at hp
        obtain ⟨j, _, rfl⟩ := List.mem_map.1 hp
        have h1 := nm_len b
        have h2 := nm_len (j + 1)
        unfold cyV
        split
        · split <;> (simp; try omega)
        · simp; omega, small_nil⟩)
      have HKW := Lib.hid (show Keeps (fun k => w.heap.size ≤ k) w wr from (HK1.out.mono fun _ _ h => h.elim).trans HPR.out.kp fun k hk h => by have := HK1.out.size; omega)
      have hx := expand_any ⟨#[36, 40, 109, 48, 41]⟩ (.slice va vn vc) (.slice none 0 0) (chainL (cyV i b) i) [] wr (by decide) HPP.out (PairsAt.nil _ _) HSM.out (by
        obtain ⟨m, hm⟩ := gl
        exact ⟨m, by rw [World.cell?_of_block (HKW.out.block 0 (cellx_lt hm) (fun h => by have := cellx_lt hm; omega))]; exact hm⟩)
      by_cases hbn : b < i
      · have t2 : (b : Int) < (i : Int) := by omega
        rw [show expandF (chainL (cyV i b) i) [] (⟨#[36, 40, 109, 48, 41]⟩ : ByteArray).data.toList = .error 18 from cycles_back (by omega) hbn] at hx
        have HX := Lib.hid hx
        clear hx hge hbn
        go_wp2_with fail
        refine HX.out.mono ?_
        rintro e w4 ⟨rfl, hk4⟩
        have HK4 := Lib.hid (HKW.out.trans hk4 (fun _ _ h => h.elim))
        clear hk4
        go_wp2_with fail
        refine (num_any 18 _).mono ?_
        rintro e w5 ⟨rfl, hwn⟩
        rw [hwn]
        clear hwn
        go_wp2_with fail
        go_ret
        exact ⟨rfl, HK4.out.below0 (fun _ h => h)⟩
      · have t2 : ¬ (b : Int) < (i : Int) := by omega
        obtain rfl : b = i := by omega
        rw [show expandF (chainL (cyV b b) b) [] (⟨#[36, 40, 109, 48, 41]⟩ : ByteArray).data.toList = .ok (List.replicate b 120 ++ [101, 110, 100]) from cycles_end (by omega) (by omega)] at hx
        obtain ⟨R, hR⟩ : ∃ R : ByteArray, R = ⟨(List.replicate b (120 : UInt8) ++ [101, 110, 100]).toArray⟩ := ⟨_, rfl⟩
        have HR := Lib.hid (show strV (List.replicate b 120 ++ [101, 110, 100]) = .string R by rw [hR]; rfl)
        have HRD := Lib.hid (show R.data.toList = List.replicate b 120 ++ [101, 110, 100] by rw [hR])
        have HX := Lib.hid hx
        clear hx hge hbn hR
        go_wp2_with fail
        refine HX.out.mono ?_
        rintro e w4 ⟨rfl, hk4⟩
        have HK4 := Lib.hid (HKW.out.trans hk4 (fun _ _ h => h.elim))
        rw [HR.out]
        clear hk4
        go_wp2_with fail
        go_loopw [11, 12] (fun s' i' wr => ∃ (i : Nat) (S : ByteArray), s' = .string S ∧ i' = .int .i64 i ∧ i ≤ b ∧ Hid (S.data.toList = List.replicate i 120 ++ [101, 110, 100]) ∧ w4 = wr) (fun _ i' _ => b - (intOf i').toNat)
        case atStart => exact ⟨0, _, rfl, rfl, Nat.zero_le _, Lib.hid rfl, rfl⟩
        case round =>
          obtain ⟨i, S, rfl, rfl, hi2, HS, hw4⟩ := hrel
          subst hw4
          have hSs : S.size ≤ 100 := by rw [Lib.size_eq, HS.out]; simp; omega
          rcases Nat.lt_or_ge i b with hlt2 | hge2
          · have p2 : (i : Int) < (b : Int) := by omega
            go_wp2_with fail
            go_roundw
            case rel => exact ⟨i + 1, _, rfl, by go_num, by omega, Lib.hid (by rw [ba_append, HS.out]; rfl), by first | rfl | trivial⟩
            case measure => simp [intOf]; omega
          · obtain rfl : i = b := by omega
            have p2 : ¬ (i : Int) < (i : Int) := by omega
            have hq : (R.toList == S.toList) = true := by rw [Lib.toList_data, Lib.toList_data, HRD.out, HS.out]; exact beq_self_eq_true _
            go_wp2_with fail
            refine (num_any 0 _).mono ?_
            rintro e w5 ⟨rfl, hwn⟩
            rw [hwn]
            clear hwn
            go_wp2_with fail
            go_ret
            exact ⟨rfl, HK4.out.below0 (fun _ h => h)⟩
end Go.Proofs.Ytglppnpllpfaeaa
