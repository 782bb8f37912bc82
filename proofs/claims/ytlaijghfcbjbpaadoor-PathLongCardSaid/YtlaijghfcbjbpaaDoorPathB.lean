/-
  The contract of path.Parts.
-/
import Derived.Test.YtlaijghfcbjbpaaDoorPathA
namespace Go.Proofs.YtlaijghfcbjbpaaDoor
open Go.RowKit

theorem fold_take {L : List Bytes} {k : Nat} (h : k < L.length) : (L.take (k + 1)).foldl seg [] = seg ((L.take k).foldl seg []) (L.getD k []) := by
  rw [List.take_succ_eq_append_getElem h, List.foldl_append]
  simp [h]

theorem seg_skip {l : List Bytes} {s : Bytes} (h : s = [] ∨ s = [46]) : seg l s = l := by unfold seg; rw [if_pos h]
theorem seg_up {l : List Bytes} {s : Bytes} (h : s = [46, 46]) : seg l s = l.dropLast := by
  unfold seg; rw [if_neg (by rw [h]; decide), if_pos h]
theorem seg_more {l : List Bytes} {s : Bytes} (h1 : s ≠ []) (h2 : s ≠ [46]) (h3 : s ≠ [46, 46]) : seg l s = l ++ [s] := by
  unfold seg; rw [if_neg (by rintro (e | e); exact h1 e; exact h2 e), if_neg h3]

theorem beq_no {a b : Bytes} (h : a ≠ b) : (a == b) = false := by simp [h]

set_option maxHeartbeats 1000000 in
theorem parts_any (cwd p : ByteArray) (m : Int) (w : World) (hc : cwd.size ≤ 10000000) (hp : p.size ≤ 10000000) (hm : w.cell? ⟨0, 0, none⟩ = some (.int .i64 m)) :
    Calls Tryd.prog 24 #[.string cwd, .string p] w (RetOwnL w.heap.size (partsL cwd.data.toList p.data.toList) w) := by
  obtain ⟨i0, hi, hz0, hz1, hz2⟩ := info_parts infoStr
  have hlen : (splitL p.data.toList).length ≤ 10000001 := by have := splitL_length p.data.toList; rw [← Lib.size_eq] at this; omega
  have hlen2 : (splitL cwd.data.toList).length ≤ 10000001 := by have := splitL_length cwd.data.toList; rw [← Lib.size_eq] at this; omega
  have hml : 0 < w.heap.size := cell_lt hm
  have HM := Lib.hid hm; clear hm
  cases hb : Lib.hasPrefix p.data.toList [47]
  · have hpl : partsL cwd.data.toList p.data.toList = (splitL cwd.data.toList ++ splitL p.data.toList).foldl seg [] := by rw [partsL_rel _ hb]; unfold namesL; rw [List.foldl_append]
    have HP := Lib.hid hpl; have HBP := Lib.hid hb; clear hpl hb
    go_enter Tryd.func24, Tryd.ntmps24
    go_wp2_with fail
    refine (split_any p m _ (by omega) HM.out).mono ?_
    rintro e w1 ⟨g1, cap1, rfl, hown1, hb1⟩
    have HO1 := Lib.hid hown1; have HB1 := Lib.hid hb1
    have hm1 := (hb1.cell (p := ⟨0, 0, none⟩) hml).trans HM.out
    have HM1 := Lib.hid hm1
    clear hown1 hb1 hm1
    go_wp2_with (go_at_call 46; refine (hasPrefix_any _ _ _).mono ?_; rintro e w' ⟨rfl, rfl⟩; rw [HBP.out])
    refine (split_any cwd m _ (by omega) HM1.out).mono ?_
    rintro e w2 ⟨g2, cap2, rfl, hown2, hb2⟩
    have hs1 := HB1.out.size
    have hs2 := hb2.size
    have hg1 := (HO1.out.lt g1 rfl).2
    have hcells : ∀ j u, (strs (splitL p.data.toList))[j]? = some u → w2.cell? ((⟨g1, 0, none⟩ : Addr).add j) = some u := by
      intro j u hj
      have h := HO1.out.cells (g := g1) rfl j u hj
      rw [← h]
      exact hb2.cell (by rw [Go.WideShapes.add_plain]; exact hg1)
    have HC := Lib.hid hcells; have HO2 := Lib.hid hown2
    have hbw2 : Below w.heap.size w w2 := HB1.out.trans (hb2.mono HB1.out.size)
    have HBW2 := Lib.hid hbw2
    clear hown2 hcells hbw2 hb2
    go_wp2_with (at_builtin; go_loud (refine wpList_append_own _ rfl _ _ 37 rfl w1.heap.size 9 i0 (.string ⟨#[]⟩) 1 16 Tryd.underlying37 hi hz0 hz1 hz2 rfl (by decide) _ _ _ rfl HO2.out ⟨g1, 0, none⟩ (splitL p.data.toList).length cap1 (strs (splitL p.data.toList)) rfl (by rw [strs_length, Nat.mul_one]) HC.out (strs_oneCell _) (by unfold maxLen; omega) (by omega) (by omega) ?_; intro v3 w3 hown3 hg3' _; rw [← strs_append, ← List.length_append] at hown3; obtain ⟨AL, hAL⟩ : ∃ AL, AL = splitL cwd.data.toList ++ splitL p.data.toList := ⟨_, rfl⟩; have hal2 : AL.length ≤ 20000002 := (by rw [hAL, List.length_append]; omega); have hpos : 0 < AL.length := (by rw [hAL, List.length_append]; have := List.length_pos_iff.2 (splitL_ne p.data.toList); omega); rw [← hAL] at hown3; have HP2 := Lib.hid (HP.out.trans (congrArg (fun l => List.foldl seg [] l) hAL.symm)); clear hAL; obtain ⟨g3, cap3, rfl, _, hg3⟩ := World.ownsRow.form hown3 hpos; have hal : ∀ k, k < AL.length → w3.cell? ⟨g3, k, none⟩ = some (.string ⟨(AL.getD k []).toArray⟩) := fun k hk => own_cell hown3 rfl hk; have hbw3 : Below w.heap.size w w3 := HBW2.out.grown hg3' HBW2.out.size (fun g hg => by have := (HO2.out.lt g hg).1; omega); have HAL := Lib.hid hal; have HBW3 := Lib.hid hbw3; clear hown3 hg3' hal hbw3))
    go_loopw [6, 20] (fun v i wr => ∃ k : Nat, k ≤ AL.length ∧ i = .int .i64 k ∧ wr.ownsRow w3.heap.size 9 1 v ((AL.take k).foldl seg []).length (strs ((AL.take k).foldl seg [])) ∧ Below w3.heap.size w3 wr) (fun _ i _ => AL.length - (intOf i).toNat)
    case atStart => exact ⟨0, Nat.zero_le _, rfl, World.ownsRow_nil _ _ _ _, Below.refl _ _⟩
    case round =>
      obtain ⟨k, hk, rfl, hown, hb⟩ := hrel
      have hll : ((AL.take k).foldl seg []).length ≤ k := by
        have := @fold_length (AL.take k) []
        have := List.length_take_le k AL
        simp at *; omega
      by_cases hlt : k < AL.length
      · have hc0 := HAL.out k hlt
        have hft := fold_take (L := AL) hlt
        obtain ⟨s, hs⟩ : ∃ s, s = AL.getD k [] := ⟨_, rfl⟩
        obtain ⟨Lk, hLk⟩ : ∃ Lk, Lk = (AL.take k).foldl seg [] := ⟨_, rfl⟩
        rw [← hs, ← hLk] at hft
        rw [← hLk] at hown hll
        obtain ⟨X, hX⟩ : ∃ X : ByteArray, X = ⟨s.toArray⟩ := ⟨_, rfl⟩
        have hc : wr.cell? ⟨g3, k, none⟩ = some (.string X) := by rw [hb.cell (p := ⟨g3, k, none⟩) (by exact hg3), hc0, hX, hs]
        have hXs : X.toList = s := by rw [hX, Lib.toList_data]
        have HXL := Lib.hid hXs; have HX := Lib.hid hX; have HF := Lib.hid hft
        clear hs hLk hX hc0 hft hXs
        have HO := Lib.hid hown; have HB2 := Lib.hid hb
        clear hown hb
        by_cases c0 : s = []
        · have e0 : X.toList.isEmpty = true := by rw [HXL.out, c0]; rfl
          have HS := Lib.hid (seg_skip (l := Lk) (Or.inl c0)); clear c0
          go_wp2
          go_roundw
          case rel => exact ⟨k + 1, by omega, by go_num, by rw [HF.out, HS.out]; exact HO.out, HB2.out⟩
          case measure => simp [intOf]; omega
        by_cases c1 : s = [46]
        · have e0 : X.toList.isEmpty = false := by rw [HXL.out, c1]; rfl
          have e1 : (X.toList == [46]) = true := by rw [HXL.out, c1]; rfl
          have HS := Lib.hid (seg_skip (l := Lk) (Or.inr c1)); clear c1 c0
          go_wp2
          go_roundw
          case rel => exact ⟨k + 1, by omega, by go_num, by rw [HF.out, HS.out]; exact HO.out, HB2.out⟩
          case measure => simp [intOf]; omega
        by_cases c2 : s = [46, 46]
        · have e0 : X.toList.isEmpty = false := by rw [HXL.out, c2]; rfl
          have e1 : (X.toList == [46]) = false := by rw [HXL.out, c2]; rfl
          have e2 : (X.toList == [46, 46]) = true := by rw [HXL.out, c2]; rfl
          have HS := Lib.hid (seg_up (l := Lk) c2); clear c0 c1 c2
          rcases own_forms HO.out with ⟨rfl, hz⟩ | ⟨g, cap, rfl⟩
          · have hd : Lk.dropLast = Lk := by rw [List.eq_nil_of_length_eq_zero hz]; rfl
            have HD := Lib.hid hd; clear hd hz
            go_wp2
            go_roundw
            case rel => exact ⟨k + 1, by omega, by go_num, by rw [HF.out, HS.out, HD.out]; exact HO.out, HB2.out⟩
            case measure => simp [intOf]; omega
          · obtain ⟨n, hn⟩ : ∃ n, n = Lk.length := ⟨_, rfl⟩
            have hown := HO.out
            rw [← hn] at hll hown ⊢
            have hncap : n ≤ cap ∧ cap ≤ 9223372036854775807 := by
              rcases hown.2 with ⟨h', _⟩ | ⟨g', cap', cur, hv, _, _, h1, h2, _⟩
              · simp at h'
              · simp only [Value.slice.injEq, true_and] at hv
                rw [hv.2]; unfold maxLen at h2; exact ⟨h1, h2⟩
            have HO2 := Lib.hid hown; have HN := Lib.hid hn
            clear hown hn HO
            by_cases hn0 : n = 0
            · subst hn0
              go_wp2
              go_roundw
              case rel => exact ⟨k + 1, by omega, by go_num, by rw [HF.out, HS.out, List.length_dropLast, ← HN.out]; exact own_pop HO2.out HN.out, HB2.out⟩
              case measure => simp [intOf]; omega
            · obtain ⟨n1, rfl⟩ : ∃ n1, n = n1 + 1 := ⟨n - 1, by omega⟩
              clear hn0
              go_wp2
              go_roundw
              case rel => exact ⟨k + 1, by omega, by go_num, by rw [HF.out, HS.out, List.length_dropLast, ← HN.out]; exact own_pop HO2.out HN.out, HB2.out⟩
              case measure => simp [intOf]; omega
        · have e0 : X.toList.isEmpty = false := by rw [HXL.out]; cases s with | nil => exact absurd rfl c0 | cons a b => rfl
          have e1 : (X.toList == [46]) = false := by rw [HXL.out]; exact beq_no c1
          have e2 : (X.toList == [46, 46]) = false := by rw [HXL.out]; exact beq_no c2
          have HS := Lib.hid (seg_more (l := Lk) c0 c1 c2); clear c0 c1 c2
          go_wp2_with (at_builtin; go_loud (refine wpList_append_own _ rfl _ _ 37 rfl w3.heap.size 9 i0 (.string ⟨#[]⟩) 1 16 Tryd.underlying37 hi hz0 hz1 hz2 rfl (by decide) _ _ _ rfl (HO.out.alloc _) ⟨_, 0, none⟩ 1 1 [.string X] rfl rfl (cell_one_new _ _ _) (by simp [Value.oneCell']) (by unfold maxLen; omega) (by omega) (by have := HB2.out.size; simp; omega) ?_; intro v' w1 hown1 hg1 _; have HO1 := Lib.hid hown1; have HG1 := Lib.hid hg1; clear hown1 hg1))
          go_roundw
          case rel => exact ⟨k + 1, by omega, by go_num, by rw [HF.out, HS.out, strs_append, List.length_append]; have h := HO1.out; rw [HX.out] at h; exact h, (HB2.out.alloc (HB2.out.size) _).grown HG1.out (by have := HB2.out.size; simp; omega) (fun g hg => (HO.out.lt g hg).1)⟩
          case measure => simp [intOf]; omega
      · obtain rfl : k = AL.length := by omega
        rw [List.take_length] at hown
        rcases own_forms hown with ⟨rfl, hz⟩ | ⟨g, cap, rfl⟩
        all_goals
          have HO := Lib.hid hown; have HB2 := Lib.hid hb
          clear hown hb
          go_wp2
          go_ret
          exact ⟨_, rfl, by rw [HP2.out]; exact Joins.ownsRow_le HO.out HBW3.out.size, HBW3.out.trans (HB2.out.mono HBW3.out.size)⟩
  · have hpl : partsL cwd.data.toList p.data.toList = (splitL p.data.toList).foldl seg [] := by unfold partsL; rw [if_pos hb]; rfl
    have HP := Lib.hid hpl; have HBP := Lib.hid hb; clear hpl hb
    go_enter Tryd.func24, Tryd.ntmps24
    go_wp2_with fail
    refine (split_any p m _ (by omega) HM.out).mono ?_
    rintro e w3 ⟨g3, cap3, rfl, hown3, hbw3⟩
    have hg3 := (hown3.lt g3 rfl).2
    obtain ⟨AL, hAL⟩ : ∃ AL, AL = splitL p.data.toList := ⟨_, rfl⟩
    have hal2 : AL.length ≤ 20000002 := by rw [hAL]; omega
    have HP2 := Lib.hid (HP.out.trans (congrArg (fun l => List.foldl seg [] l) hAL.symm))
    rw [← hAL] at hown3 ⊢
    clear hAL
    have hal : ∀ k, k < AL.length → w3.cell? ⟨g3, k, none⟩ = some (.string ⟨(AL.getD k []).toArray⟩) := fun k hk => own_cell hown3 rfl hk
    have HAL := Lib.hid hal; have HBW3 := Lib.hid hbw3; clear hown3 hal hbw3
    go_wp2_with (go_at_call 46; refine (hasPrefix_any _ _ _).mono ?_; rintro e w' ⟨rfl, rfl⟩; rw [HBP.out])
    go_loopw [6, 20] (fun v i wr => ∃ k : Nat, k ≤ AL.length ∧ i = .int .i64 k ∧ wr.ownsRow w3.heap.size 9 1 v ((AL.take k).foldl seg []).length (strs ((AL.take k).foldl seg [])) ∧ Below w3.heap.size w3 wr) (fun _ i _ => AL.length - (intOf i).toNat)
    case atStart => exact ⟨0, Nat.zero_le _, rfl, World.ownsRow_nil _ _ _ _, Below.refl _ _⟩
    case round =>
      obtain ⟨k, hk, rfl, hown, hb⟩ := hrel
      have hll : ((AL.take k).foldl seg []).length ≤ k := by
        have := @fold_length (AL.take k) []
        have := List.length_take_le k AL
        simp at *; omega
      by_cases hlt : k < AL.length
      · have hc0 := HAL.out k hlt
        have hft := fold_take (L := AL) hlt
        obtain ⟨s, hs⟩ : ∃ s, s = AL.getD k [] := ⟨_, rfl⟩
        obtain ⟨Lk, hLk⟩ : ∃ Lk, Lk = (AL.take k).foldl seg [] := ⟨_, rfl⟩
        rw [← hs, ← hLk] at hft
        rw [← hLk] at hown hll
        obtain ⟨X, hX⟩ : ∃ X : ByteArray, X = ⟨s.toArray⟩ := ⟨_, rfl⟩
        have hc : wr.cell? ⟨g3, k, none⟩ = some (.string X) := by rw [hb.cell (p := ⟨g3, k, none⟩) (by exact hg3), hc0, hX, hs]
        have hXs : X.toList = s := by rw [hX, Lib.toList_data]
        have HXL := Lib.hid hXs; have HX := Lib.hid hX; have HF := Lib.hid hft
        clear hs hLk hX hc0 hft hXs
        have HO := Lib.hid hown; have HB2 := Lib.hid hb
        clear hown hb
        by_cases c0 : s = []
        · have e0 : X.toList.isEmpty = true := by rw [HXL.out, c0]; rfl
          have HS := Lib.hid (seg_skip (l := Lk) (Or.inl c0)); clear c0
          go_wp2
          go_roundw
          case rel => exact ⟨k + 1, by omega, by go_num, by rw [HF.out, HS.out]; exact HO.out, HB2.out⟩
          case measure => simp [intOf]; omega
        by_cases c1 : s = [46]
        · have e0 : X.toList.isEmpty = false := by rw [HXL.out, c1]; rfl
          have e1 : (X.toList == [46]) = true := by rw [HXL.out, c1]; rfl
          have HS := Lib.hid (seg_skip (l := Lk) (Or.inr c1)); clear c1 c0
          go_wp2
          go_roundw
          case rel => exact ⟨k + 1, by omega, by go_num, by rw [HF.out, HS.out]; exact HO.out, HB2.out⟩
          case measure => simp [intOf]; omega
        by_cases c2 : s = [46, 46]
        · have e0 : X.toList.isEmpty = false := by rw [HXL.out, c2]; rfl
          have e1 : (X.toList == [46]) = false := by rw [HXL.out, c2]; rfl
          have e2 : (X.toList == [46, 46]) = true := by rw [HXL.out, c2]; rfl
          have HS := Lib.hid (seg_up (l := Lk) c2); clear c0 c1 c2
          rcases own_forms HO.out with ⟨rfl, hz⟩ | ⟨g, cap, rfl⟩
          · have hd : Lk.dropLast = Lk := by rw [List.eq_nil_of_length_eq_zero hz]; rfl
            have HD := Lib.hid hd; clear hd hz
            go_wp2
            go_roundw
            case rel => exact ⟨k + 1, by omega, by go_num, by rw [HF.out, HS.out, HD.out]; exact HO.out, HB2.out⟩
            case measure => simp [intOf]; omega
          · obtain ⟨n, hn⟩ : ∃ n, n = Lk.length := ⟨_, rfl⟩
            have hown := HO.out
            rw [← hn] at hll hown ⊢
            have hncap : n ≤ cap ∧ cap ≤ 9223372036854775807 := by
              rcases hown.2 with ⟨h', _⟩ | ⟨g', cap', cur, hv, _, _, h1, h2, _⟩
              · simp at h'
              · simp only [Value.slice.injEq, true_and] at hv
                rw [hv.2]; unfold maxLen at h2; exact ⟨h1, h2⟩
            have HO2 := Lib.hid hown; have HN := Lib.hid hn
            clear hown hn HO
            by_cases hn0 : n = 0
            · subst hn0
              go_wp2
              go_roundw
              case rel => exact ⟨k + 1, by omega, by go_num, by rw [HF.out, HS.out, List.length_dropLast, ← HN.out]; exact own_pop HO2.out HN.out, HB2.out⟩
              case measure => simp [intOf]; omega
            · obtain ⟨n1, rfl⟩ : ∃ n1, n = n1 + 1 := ⟨n - 1, by omega⟩
              clear hn0
              go_wp2
              go_roundw
              case rel => exact ⟨k + 1, by omega, by go_num, by rw [HF.out, HS.out, List.length_dropLast, ← HN.out]; exact own_pop HO2.out HN.out, HB2.out⟩
              case measure => simp [intOf]; omega
        · have e0 : X.toList.isEmpty = false := by rw [HXL.out]; cases s with | nil => exact absurd rfl c0 | cons a b => rfl
          have e1 : (X.toList == [46]) = false := by rw [HXL.out]; exact beq_no c1
          have e2 : (X.toList == [46, 46]) = false := by rw [HXL.out]; exact beq_no c2
          have HS := Lib.hid (seg_more (l := Lk) c0 c1 c2); clear c0 c1 c2
          go_wp2_with (at_builtin; go_loud (refine wpList_append_own _ rfl _ _ 37 rfl w3.heap.size 9 i0 (.string ⟨#[]⟩) 1 16 Tryd.underlying37 hi hz0 hz1 hz2 rfl (by decide) _ _ _ rfl (HO.out.alloc _) ⟨_, 0, none⟩ 1 1 [.string X] rfl rfl (cell_one_new _ _ _) (by simp [Value.oneCell']) (by unfold maxLen; omega) (by omega) (by have := HB2.out.size; simp; omega) ?_; intro v' w1 hown1 hg1 _; have HO1 := Lib.hid hown1; have HG1 := Lib.hid hg1; clear hown1 hg1))
          go_roundw
          case rel => exact ⟨k + 1, by omega, by go_num, by rw [HF.out, HS.out, strs_append, List.length_append]; have h := HO1.out; rw [HX.out] at h; exact h, (HB2.out.alloc (HB2.out.size) _).grown HG1.out (by have := HB2.out.size; simp; omega) (fun g hg => (HO.out.lt g hg).1)⟩
          case measure => simp [intOf]; omega
      · obtain rfl : k = AL.length := by omega
        rw [List.take_length] at hown
        rcases own_forms hown with ⟨rfl, hz⟩ | ⟨g, cap, rfl⟩
        all_goals
          have HO := Lib.hid hown; have HB2 := Lib.hid hb
          clear hown hb
          go_wp2
          go_ret
          exact ⟨_, rfl, by rw [HP2.out]; exact Joins.ownsRow_le HO.out HBW3.out.size, HBW3.out.trans (HB2.out.mono HBW3.out.size)⟩
end Go.Proofs.YtlaijghfcbjbpaaDoor
