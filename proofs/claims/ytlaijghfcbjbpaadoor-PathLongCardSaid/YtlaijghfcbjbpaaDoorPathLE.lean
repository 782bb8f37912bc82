/-
  The law PathLong.
-/
import Derived.Test.YtlaijghfcbjbpaaDoorPathLD
namespace Go.Proofs.YtlaijghfcbjbpaaDoor
open Go.RowKit

/-- n names of z letters each. -/
def manyL (n z : Nat) : List Bytes := List.replicate n (List.replicate z 97)

theorem many_plain {n z : Nat} (hz : 1 ≤ z) : ∀ x ∈ manyL n z, Plain x := by
  intro x hx
  rw [List.eq_of_mem_replicate hx]
  obtain ⟨k, rfl⟩ : ∃ k, z = k + 1 := ⟨z - 1, by omega⟩
  refine ⟨by simp, ?_, ?_, fun h => ?_⟩
  · rw [List.replicate_succ]; intro h; injection h with h _; cases h
  · rw [List.replicate_succ]; intro h; injection h with h _; cases h
  · have := List.eq_of_mem_replicate h; cases this

theorem many_zero {n z : Nat} : (0 : UInt8) ∉ flat (manyL n z) := by
  intro h
  unfold flat at h
  rw [List.mem_flatten] at h
  obtain ⟨l, hl, h0⟩ := h
  rw [List.mem_map] at hl
  obtain ⟨x, hx, rfl⟩ := hl
  rw [List.eq_of_mem_replicate hx] at h0
  rcases List.mem_append.1 h0 with h0 | h0
  · cases List.mem_singleton.1 h0
  · have := List.eq_of_mem_replicate h0; cases this

theorem many_long {n z : Nat} (hn : 1 ≤ n) : longB (manyL n z) = decide (60 < z) := by
  obtain ⟨k, rfl⟩ : ∃ k, n = k + 1 := ⟨n - 1, by omega⟩
  unfold longB manyL
  cases h : decide (60 < z)
  · rw [List.any_eq_false]
    intro x hx
    rw [List.eq_of_mem_replicate hx, List.length_replicate, h]; decide
  · rw [List.any_eq_true]
    exact ⟨List.replicate z 97, by rw [List.replicate_succ]; simp, by rw [List.length_replicate]; exact h⟩

theorem many_abs {n z : Nat} (hn : 1 ≤ n) (hz : 1 ≤ z) : absF [47] (flat (manyL n z)) = if z ≤ 60 ∧ n ≤ 20 ∧ (flat (manyL n z)).length ≤ 200 then (flat (manyL n z), 0) else ([], 3) := by
  have hne : manyL n z ≠ [] := by
    intro h
    have := congrArg List.length h
    simp [manyL] at this
    omega
  have hw : writeL (manyL n z) = flat (manyL n z) := by unfold writeL; rw [if_neg hne]
  have hp : partsL [47] (flat (manyL n z)) = manyL n z := by rw [← hw]; exact partsL_write (many_plain hz) _
  have h0 : ¬ (flat (manyL n z) = [] ∨ (0 : UInt8) ∈ flat (manyL n z) ∨ (0 : UInt8) ∈ ([47] : Bytes)) := by
    rintro (h | h | h)
    · exact flat_ne hne h
    · exact many_zero h
    · revert h; decide
  unfold absF
  rw [if_neg h0, hp, hw, many_long hn]
  have hl : (manyL n z).length = n := by simp [manyL]
  rw [hl]
  by_cases h : z ≤ 60 ∧ n ≤ 20 ∧ (flat (manyL n z)).length ≤ 200
  · rw [if_pos h, if_neg (by rintro (x | x | x); have := of_decide_eq_true x; omega; omega; omega)]
  · rw [if_neg h, if_pos]
    by_cases h1 : 60 < z
    · exact Or.inl (decide_eq_true h1)
    · by_cases h2 : 20 < n
      · exact Or.inr (Or.inl h2)
      · exact Or.inr (Or.inr (by omega))

theorem many_flat (k z : Nat) : flat (manyL (k + 1) z) = flat (manyL k z) ++ 47 :: List.replicate z 97 := by
  unfold flat manyL
  rw [List.replicate_succ', List.map_append, List.flatten_append]
  simp

theorem many_len (k z : Nat) : (flat (manyL k z)).length = k + k * z := by
  rw [flat_length]
  have : lens (manyL k z) = k * z := by simp [lens, manyL]
  rw [this]; simp [manyL]

theorem int_bounds {a : Int} (h : (Lit.int .i64 a).wf = true) : -9223372036854775808 ≤ a ∧ a ≤ 9223372036854775807 := by
  simpa [Lit.wf, IntKind.min, IntKind.max, IntKind.signed, IntKind.bits] using h

set_option maxHeartbeats 2000000 in
theorem pathLong_walk (a0 a1 : Int) (w : World) (h0w : (Lit.int .i64 a0).wf = true) (h1w : (Lit.int .i64 a1).wf = true) (hsh : w.ShapedOpen Tryd.prog) :
    Calls Tryd.prog 6 #[.int .i64 a0, .int .i64 a1] w fun e w' => e = .returned (.bool true) ∧ Below w.heap.size w w' := by
  obtain ⟨m, hm⟩ := maxLen_any w hsh
  have hml := cell_lt hm
  have HM := Lib.hid hm; clear hm hsh
  have b0 := int_bounds h0w
  have b1 := int_bounds h1w
  clear h0w h1w
  by_cases h0 : a0 < 1
  · go_enter Tryd.func6, Tryd.ntmps6
    go_wp2_with (first | (go_at_call 21; refine (alive_any m _ HM.out).mono ?_; rintro e w1 ⟨rfl, hb⟩; have HB := Lib.hid hb; clear hb))
    go_ret
    exact ⟨rfl, HB.out⟩
  by_cases h1 : 30 < a0
  · go_enter Tryd.func6, Tryd.ntmps6
    go_wp2_with (first | (go_at_call 21; refine (alive_any m _ HM.out).mono ?_; rintro e w1 ⟨rfl, hb⟩; have HB := Lib.hid hb; clear hb))
    go_ret
    exact ⟨rfl, HB.out⟩
  by_cases h2 : a1 < 1
  · go_enter Tryd.func6, Tryd.ntmps6
    go_wp2_with (first | (go_at_call 21; refine (alive_any m _ HM.out).mono ?_; rintro e w1 ⟨rfl, hb⟩; have HB := Lib.hid hb; clear hb))
    go_ret
    exact ⟨rfl, HB.out⟩
  by_cases h3 : 80 < a1
  · go_enter Tryd.func6, Tryd.ntmps6
    go_wp2_with (first | (go_at_call 21; refine (alive_any m _ HM.out).mono ?_; rintro e w1 ⟨rfl, hb⟩; have HB := Lib.hid hb; clear hb))
    go_ret
    exact ⟨rfl, HB.out⟩
  obtain ⟨n, rfl⟩ := Int.eq_ofNat_of_zero_le (show 0 ≤ a0 by omega)
  obtain ⟨z, rfl⟩ := Int.eq_ofNat_of_zero_le (show 0 ≤ a1 by omega)
  have hn1 : 1 ≤ n := by omega
  have hn2 : n ≤ 30 := by omega
  have hz1 : 1 ≤ z := by omega
  have hz2 : z ≤ 80 := by omega
  go_enter Tryd.func6, Tryd.ntmps6
  go_wp2_with (first | (go_at_call 21; refine (alive_any m _ HM.out).mono ?_; rintro e w1 ⟨rfl, hb⟩; have HB := Lib.hid hb; clear hb))
  go_loop [7, 8] (fun o i => ∃ (k : Nat) (O : ByteArray), k ≤ z ∧ i = .int .i64 k ∧ o = .string O ∧ O.size ≤ 80 ∧ O.data.toList = List.replicate k 97) (fun _ i => z - (intOf i).toNat)
  case atStart => exact ⟨0, ByteArray.empty, Nat.zero_le _, rfl, rfl, by decide, rfl⟩
  case round =>
    obtain ⟨k, O, hk, rfl, rfl, hO, hOd⟩ := hrel
    have HO := Lib.hid hOd; clear hOd
    by_cases hlt : k < z
    · go_wp2
      go_round
      case rel =>
        have hd : (O ++ ⟨#[97]⟩).data.toList = List.replicate (k + 1) 97 := by rw [List.replicate_succ', ← HO.out]; simp
        refine ⟨k + 1, O ++ ⟨#[97]⟩, by omega, by go_num, rfl, ?_, hd⟩
        rw [Lib.size_eq, hd, List.length_replicate]; omega
      case measure => simp [intOf]; omega
    · obtain rfl : k = z := by omega
      go_wp2
      go_loop [6, 9] (fun s i => ∃ (j : Nat) (S : ByteArray), j ≤ n ∧ i = .int .i64 j ∧ s = .string S ∧ S.size ≤ 2430 ∧ S.data.toList = flat (manyL j k)) (fun _ i => n - (intOf i).toNat)
      case atStart => exact ⟨0, ByteArray.empty, Nat.zero_le _, rfl, rfl, by decide, rfl⟩
      case round =>
        obtain ⟨j, S, hj, rfl, rfl, hS, hSd⟩ := hrel
        have HS := Lib.hid hSd; clear hSd
        by_cases hlt2 : j < n
        · go_wp2
          go_round
          case rel =>
            have hd : (S ++ ⟨#[47]⟩ ++ O).data.toList = flat (manyL (j + 1) k) := by rw [many_flat, ← HS.out, ← HO.out]; simp
            refine ⟨j + 1, S ++ ⟨#[47]⟩ ++ O, by omega, by go_num, rfl, ?_, hd⟩
            rw [Lib.size_eq, hd, many_len]
            have h1 : (j + 1) * k ≤ 30 * 80 := Nat.mul_le_mul (by omega) (by omega)
            omega
          case measure => simp [intOf]; omega
        · obtain rfl : j = n := by omega
          have hab := many_abs hn1 hz1
          rw [← HS.out, ← Lib.size_eq] at hab
          have HAB := Lib.hid hab; clear hab
          by_cases c1 : k ≤ 60
          all_goals
            by_cases c2 : j ≤ 20
            all_goals
              by_cases c3 : S.size ≤ 200
              all_goals
                have hres : absF (⟨#[47]⟩ : ByteArray).data.toList S.data.toList = (S.data.toList, 0) ∨ absF (⟨#[47]⟩ : ByteArray).data.toList S.data.toList = ([], 3) := by
                  have h := HAB.out
                  split at h
                  · exact Or.inl h
                  · exact Or.inr h
                have hr1 : k ≤ 60 → j ≤ 20 → S.size ≤ 200 → absF (⟨#[47]⟩ : ByteArray).data.toList S.data.toList = (S.data.toList, 0) := fun a b c => HAB.out.trans (if_pos ⟨a, b, c⟩)
                have hr2 : ¬ (k ≤ 60 ∧ j ≤ 20 ∧ S.size ≤ 200) → absF (⟨#[47]⟩ : ByteArray).data.toList S.data.toList = ([], 3) := fun h => HAB.out.trans (if_neg h)
                have HR1 := Lib.hid hr1; have HR2 := Lib.hid hr2
                clear hr1 hr2 hres
                have hcell := ((HB.out.cell (p := ⟨0, 0, none⟩) hml).trans HM.out)
                have HCELL := Lib.hid hcell; clear hcell
                have hcall : ∀ W : World, W.cell? ⟨0, 0, none⟩ = some (.int .i64 m) → Calls Tryd.prog 26 #[.string ⟨#[47]⟩, .string S] W (RetAbs (absF (⟨#[47]⟩ : ByteArray).data.toList S.data.toList) W) := fun W hW => abs_any ⟨#[47]⟩ S m W (by decide) (by omega) hW
                first
                  | (rw [HR1.out c1 c2 c3] at hcall
                     have HC := Lib.hid hcall; clear hcall
                     go_wp2_with fail
                     refine (HC.out _ HCELL.out).mono ?_
                     rintro e w2 ⟨rfl, hb⟩
                     replace HB := Lib.hid (HB.out.trans (hb.mono HB.out.size)); clear hb
                     go_wp2_with (first | (go_at_call 27; go_in))
                     go_ret
                     exact ⟨rfl, HB.out⟩)
                  | (rw [HR2.out (by omega)] at hcall
                     have HC := Lib.hid hcall; clear hcall
                     go_wp2_with fail
                     refine (HC.out _ HCELL.out).mono ?_
                     rintro e w2 ⟨rfl, hb⟩
                     replace HB := Lib.hid (HB.out.trans (hb.mono HB.out.size)); clear hb
                     go_wp2_with (first | (go_at_call 27; go_in))
                     go_ret
                     exact ⟨rfl, HB.out⟩)

end Go.Proofs.YtlaijghfcbjbpaaDoor
