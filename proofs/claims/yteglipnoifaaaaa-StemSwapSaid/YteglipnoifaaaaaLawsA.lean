/-
  The walks of the laws StemMatches and StemBack, out of the contracts.
-/
import Derived.Test.YteglipnoifaaaaaStemA
namespace Go.Proofs.Yteglipnoifaaaaa
open Go.RowKit

theorem beq_self (a : ByteArray) : (a.toList == a.toList) = true := by simp

theorem alive_any (m : Int) (w : World) (hm : w.cell? ⟨0, 0, none⟩ = some (.int .i64 m)) :
    Calls Try.prog 7 #[] w fun e w' => e = .returned (.bool true) ∧ ∃ n, w' = w.drewN n := by
  have hF : stemF (⟨#[37, 46, 111]⟩ : ByteArray).data.toList (⟨#[97, 46, 111]⟩ : ByteArray).data.toList = ([97], true) := by decide +kernel
  have HF := Lib.hid hF; clear hF
  have HM := Lib.hid hm; clear hm
  go_enter Try.func7, Try.ntmps7
  go_wp2_with (go_at_call 11; refine (match_any _ _ m _ (by decide) (by decide) HM.out).mono ?_; rintro e w' ⟨rfl, n, rfl⟩; rw [HF.out])
  go_ret
  exact ⟨rfl, _, rfl⟩

set_option maxHeartbeats 400000 in
theorem stemMatches_walk0 (p s : ByteArray) (m : Int) (w : World) (hm : w.cell? ⟨0, 0, none⟩ = some (.int .i64 m)) (wp : p.size ≤ maxLen) (ws : s.size ≤ maxLen) :
    Calls Try.prog 4 #[.string p, .string s] w fun e w' => e = .returned (.bool true) ∧ ∃ n, w' = w.drewN n := by
  unfold maxLen at wp ws
  have HM := Lib.hid hm; clear hm
  by_cases h1 : 100 < p.size
  · go_enter Try.func4, Try.ntmps4
    go_wp2_with (go_at_call 7; refine (alive_any m _ HM.out).mono ?_; rintro e w' ⟨rfl, n, rfl⟩)
    go_ret
    exact ⟨rfl, _, rfl⟩
  · by_cases h2 : 100 < s.size
    · go_enter Try.func4, Try.ntmps4
      go_wp2_with (go_at_call 7; refine (alive_any m _ HM.out).mono ?_; rintro e w' ⟨rfl, n, rfl⟩)
      go_ret
      exact ⟨rfl, _, rfl⟩
    · go_enter Try.func4, Try.ntmps4
      go_wp2_with (first
        | (go_at_call 7; refine (alive_any m _ HM.out).mono ?_; rintro e w' ⟨rfl, n, rfl⟩)
        | (go_at_call 11; refine (match_any _ _ m _ (by omega) (by omega) (by simpa using HM.out)).mono ?_; rintro e w' ⟨rfl, n, rfl⟩)
        | (go_at_call 12; refine (refStem_any _ _ _ (by omega) (by omega)).mono ?_; rintro e w' ⟨rfl, rfl⟩)
        | (go_at_call 13; refine (is_any _ m _ (by omega) (by simpa using HM.out)).mono ?_; rintro e w' ⟨rfl, rfl⟩)
        | (go_at_call 14; refine (at_pct _ _ (by omega)).mono ?_; rintro e w' ⟨rfl, rfl⟩)
        | (go_at_call 15; refine (fill_any _ _ m _ (by omega) (by omega) (by simpa using HM.out)).mono ?_; rintro e w' ⟨rfl, n, rfl⟩)
        | (go_at_call 16; refine (refFill_any _ _ _ (by omega) (by omega)).mono ?_; rintro e w' ⟨rfl, n, rfl⟩))
      go_ret
      exact ⟨rfl, _, rfl⟩
set_option maxHeartbeats 400000 in
theorem stemBack_walk0 (p s : ByteArray) (m : Int) (w : World) (hm : w.cell? ⟨0, 0, none⟩ = some (.int .i64 m)) (wp : p.size ≤ maxLen) (ws : s.size ≤ maxLen) :
    Calls Try.prog 5 #[.string p, .string s] w fun e w' => e = .returned (.bool true) ∧ ∃ n, w' = w.drewN n := by
  unfold maxLen at wp ws
  have HM := Lib.hid hm; clear hm
  by_cases h1 : 100 < p.size
  · go_enter Try.func5, Try.ntmps5
    go_wp2_with (go_at_call 7; refine (alive_any m _ HM.out).mono ?_; rintro e w' ⟨rfl, n, rfl⟩)
    go_ret
    exact ⟨rfl, _, rfl⟩
  · by_cases h2 : 100 < s.size
    · go_enter Try.func5, Try.ntmps5
      go_wp2_with (go_at_call 7; refine (alive_any m _ HM.out).mono ?_; rintro e w' ⟨rfl, n, rfl⟩)
      go_ret
      exact ⟨rfl, _, rfl⟩
    · have hz : (⟨(fillF p.data.toList s.data.toList).toArray⟩ : ByteArray).size ≤ 1000000000 := by
        have := fillF_len p.data.toList s.data.toList
        rw [Lib.size_eq]
        rw [← Lib.size_eq, ← Lib.size_eq] at this
        show (fillF p.data.toList s.data.toList).length ≤ _
        omega
      by_cases h3 : pct p.data.toList < 0
      · have h4 : decide (0 ≤ pct p.data.toList) = false := by simp; omega
        have H4 := Lib.hid h4
        have h5 := stemF_fill_none p.data.toList s.data.toList h3
        have H5 := Lib.hid h5
        have h6 := fillF_none p s h3
        have H6 := Lib.hid h6
        clear h4 h5 h6 h3
        go_enter Try.func5, Try.ntmps5
        go_wp2_with (first
          | (go_at_call 7; refine (alive_any m _ HM.out).mono ?_; rintro e w' ⟨rfl, n, rfl⟩)
          | (go_at_call 15; refine (fill_any _ _ m _ (by omega) (by omega) (by simpa using HM.out)).mono ?_; rintro e w' ⟨rfl, n, rfl⟩)
          | (go_at_call 11; refine (match_any _ _ m _ (by omega) hz (by simpa using HM.out)).mono ?_; rintro e w' ⟨rfl, n, rfl⟩; dsimp only; rw [H5.out])
          | (go_at_call 13; refine (is_any _ m _ (by omega) (by simpa using HM.out)).mono ?_; rintro e w' ⟨rfl, rfl⟩; rw [H4.out]))
        go_ret
        exact ⟨ret_bool (by rw [H6.out, Lib.toList_data]; simp), _, rfl⟩
      · have h4 : decide (0 ≤ pct p.data.toList) = true := by simp; omega
        have H4 := Lib.hid h4
        by_cases h7 : s.data.toList = []
        · have h5 : stemF p.data.toList (fillF p.data.toList s.data.toList) = ([], false) := by rw [h7]; exact stemF_fill_empty _ h3
          have H5 := Lib.hid h5
          have h8 : s.toList = [] := by rw [Lib.toList_data, h7]
          clear h4 h5 h3 h7
          go_enter Try.func5, Try.ntmps5
          go_wp2_with (first
            | (go_at_call 7; refine (alive_any m _ HM.out).mono ?_; rintro e w' ⟨rfl, n, rfl⟩)
            | (go_at_call 15; refine (fill_any _ _ m _ (by omega) (by omega) (by simpa using HM.out)).mono ?_; rintro e w' ⟨rfl, n, rfl⟩)
            | (go_at_call 11; refine (match_any _ _ m _ (by omega) hz (by simpa using HM.out)).mono ?_; rintro e w' ⟨rfl, n, rfl⟩; dsimp only; rw [H5.out])
            | (go_at_call 13; refine (is_any _ m _ (by omega) (by simpa using HM.out)).mono ?_; rintro e w' ⟨rfl, rfl⟩; rw [H4.out]))
          go_ret
          exact ⟨rfl, _, rfl⟩
        · have h5 := stemF_fill_some p.data.toList s.data.toList h3 h7
          have H5 := Lib.hid h5
          have h8 : s.toList.isEmpty = false := by rw [Lib.toList_data]; cases e : s.data.toList with | nil => exact absurd e h7 | cons a l => rfl
          clear h4 h5 h3 h7
          go_enter Try.func5, Try.ntmps5
          go_wp2_with (first
            | (go_at_call 7; refine (alive_any m _ HM.out).mono ?_; rintro e w' ⟨rfl, n, rfl⟩)
            | (go_at_call 15; refine (fill_any _ _ m _ (by omega) (by omega) (by simpa using HM.out)).mono ?_; rintro e w' ⟨rfl, n, rfl⟩)
            | (go_at_call 11; refine (match_any _ _ m _ (by omega) hz (by simpa using HM.out)).mono ?_; rintro e w' ⟨rfl, n, rfl⟩; dsimp only; rw [H5.out])
            | (go_at_call 13; refine (is_any _ m _ (by omega) (by simpa using HM.out)).mono ?_; rintro e w' ⟨rfl, rfl⟩; rw [H4.out]))
          go_ret
          exact ⟨rfl, _, rfl⟩
theorem drewN_below (w : World) (n : Nat) : Below w.heap.size w (w.drewN n) := by
  induction n with
  | zero => exact Below.refl _ _
  | succ n ih => exact ih.drew

theorem stemMatches_walk (p s : ByteArray) (w : World) (wp : p.size ≤ 140737488351232) (ws : s.size ≤ 140737488351232) (hsh : w.ShapedOpen Try.prog) :
    Calls Try.prog 4 #[.string p, .string s] w fun e w' => e = .returned (.bool true) ∧ Below w.heap.size w w' := by
  obtain ⟨m, hm⟩ := Try.laysM145.s1_3 w hsh
  refine (stemMatches_walk0 p s m w hm (by unfold maxLen; omega) (by unfold maxLen; omega)).mono ?_
  rintro e w' ⟨he, n, rfl⟩
  exact ⟨he, drewN_below w n⟩

theorem stemBack_walk (p s : ByteArray) (w : World) (wp : p.size ≤ 140737488351232) (ws : s.size ≤ 140737488351232) (hsh : w.ShapedOpen Try.prog) :
    Calls Try.prog 5 #[.string p, .string s] w fun e w' => e = .returned (.bool true) ∧ Below w.heap.size w w' := by
  obtain ⟨m, hm⟩ := Try.laysM145.s1_3 w hsh
  refine (stemBack_walk0 p s m w hm (by unfold maxLen; omega) (by unfold maxLen; omega)).mono ?_
  rintro e w' ⟨he, n, rfl⟩
  exact ⟨he, drewN_below w n⟩
end Go.Proofs.Yteglipnoifaaaaa
