/-
  The walk of the law StemSuffix, out of the contracts.
-/
import Derived.Test.YteglipnoifaaaaaSufA
import Derived.Test.YteglipnoifaaaaaLawsA
namespace Go.Proofs.Yteglipnoifaaaaa
open Go.RowKit

theorem isEmpty_size {b : ByteArray} : b.toList.isEmpty = false ↔ 0 < b.size := by
  rw [Lib.toList_data, Lib.size_eq]
  cases b.data.toList <;> simp

theorem isEmpty_true {b : ByteArray} (h : b.toList.isEmpty = true) : b = ByteArray.empty := by
  rw [Lib.toList_data] at h
  rw [← Lib.mk_data b, List.isEmpty_iff.1 h]; rfl

set_option maxHeartbeats 800000 in
theorem stemSuffix_walk0 (s : ByteArray) (a : Option Addr) (n c : Nat) (z : Nat → ByteArray) (m : Int) (w : World) (hm : w.cell? ⟨0, 0, none⟩ = some (.int .i64 m)) (hs : s.size ≤ 9223372036854775807) (hn : n ≤ 9223372036854775807) (hz : ∀ k, (z k).size ≤ 9223372036854775807) (hr : Reads w a n (fun k => .string (z k))) :
    Calls Try.prog 3 #[.string s, .slice a n c] w fun e w' => e = .returned (.bool true) ∧ ∃ n, w' = w.drewN n := by
  have HM := Lib.hid hm; clear hm
  by_cases h1 : 100 < s.size
  · go_enter Try.func3, Try.ntmps3
    go_wp2_with (go_at_call 7; refine (alive_any m _ HM.out).mono ?_; rintro e w' ⟨rfl, n, rfl⟩)
    go_ret
    exact ⟨rfl, _, rfl⟩
  · by_cases h2 : 30 < n
    · go_enter Try.func3, Try.ntmps3
      go_wp2_with (go_at_call 7; refine (alive_any m _ HM.out).mono ?_; rintro e w' ⟨rfl, n, rfl⟩)
      go_ret
      exact ⟨rfl, _, rfl⟩
    · have HZ := Lib.hid hz; clear hz
      obtain ⟨y, hy⟩ : ∃ y, y = sufB s z n := ⟨_, rfl⟩
      have HY := Lib.hid hy
      have hys := sufB_size s z n
      have hmax := sufB_max s z n
      have hfit := sufB_fits s z n
      rw [← hy] at hys hmax hfit
      clear hy
      have HMX := Lib.hid hmax; clear hmax
      have HFT := Lib.hid hfit; clear hfit
      have HR := Lib.hid hr; clear hr
      cases e5 : y.toList.isEmpty
      · go_enter Try.func3, Try.ntmps3
        go_wp2_with (first
          | (go_at_call 7; refine (alive_any m _ HM.out).mono ?_; rintro e w' ⟨rfl, nq, rfl⟩)
          | (go_at_call 8; refine (suffix_any _ _ _ _ z _ hs (by omega) HZ.out (reads_drewN HR.out)).mono ?_; rintro e w' ⟨rfl, rfl⟩; rw [← HY.out])
          | (go_at_call 9; refine (refSuffix_any _ _ _ _ z _ hs (by omega) HZ.out (reads_drewN HR.out)).mono ?_; rintro e w' ⟨rfl, rfl⟩; rw [← HY.out]))
        go_loop [10] (fun i => ∃ k : Nat, k ≤ n ∧ i = .int .i64 k) (fun i => n - (intOf i).toNat)
        case atStart => exact ⟨0, Nat.zero_le _, rfl⟩
        case round =>
          obtain ⟨k, hk, rfl⟩ := hrel
          by_cases hlt : k < n
          · obtain ⟨b, off, rfl, _, hc0⟩ := reads_drewN (m := nq) HR.out k hlt
            have hx := HZ.out k
            have hmx := HMX.out k hlt
            obtain ⟨x, hxe⟩ : ∃ x, x = z k := ⟨_, rfl⟩
            have hc : (w.drewN nq).cell? ⟨b, off + k, none⟩ = some (.string x) := by rw [hxe]; exact hc0
            rw [← hxe] at hx hmx
            clear hc0 hxe
            have HMX2 := Lib.hid hmx; clear hmx
            have hend : ∀ W : World, Calls Try.prog 10 #[.string s, .string x] W fun e w' => e = .returned (.bool (Lib.hasSuffix s.data.toList x.data.toList)) ∧ W = w' := fun W => ends_any s x W hs
            have HE := Lib.hid hend; clear hend
            cases e1 : x.toList.isEmpty
            · by_cases e2 : x.size < s.size
              · cases e3 : Lib.hasSuffix s.data.toList x.data.toList
                · have E3 := Lib.hid e3; clear e3
                  go_wp2_with (go_at_call 10; refine (HE.out _).mono ?_; rintro e w' ⟨rfl, rfl⟩; rw [E3.out])
                  go_round
                  case rel => exact ⟨k + 1, by omega, by go_num⟩
                  case measure => simp [intOf]; omega
                · have e4 := HMX2.out e2 e3
                  have E3 := Lib.hid e3; clear e3
                  go_wp2_with (go_at_call 10; refine (HE.out _).mono ?_; rintro e w' ⟨rfl, rfl⟩; rw [E3.out])
                  go_round
                  case rel => exact ⟨k + 1, by omega, by go_num⟩
                  case measure => simp [intOf]; omega
              · go_wp2
                go_round
                case rel => exact ⟨k + 1, by omega, by go_num⟩
                case measure => simp [intOf]; omega
            · go_wp2
              go_round
              case rel => exact ⟨k + 1, by omega, by go_num⟩
              case measure => simp [intOf]; omega
          · rcases HFT.out with e2 | ⟨e2, e3⟩
            · rw [e2] at e5; simp at e5
            · have E2 := Lib.hid e2; clear e2
              go_wp2_with (go_at_call 10; refine (ends_any _ _ _ hs).mono ?_; rintro e w' ⟨rfl, rfl⟩; rw [E2.out])
              go_ret
              exact ⟨rfl, _, rfl⟩
      · go_enter Try.func3, Try.ntmps3
        go_wp2_with (first
          | (go_at_call 7; refine (alive_any m _ HM.out).mono ?_; rintro e w' ⟨rfl, nq, rfl⟩)
          | (go_at_call 8; refine (suffix_any _ _ _ _ z _ hs (by omega) HZ.out (reads_drewN HR.out)).mono ?_; rintro e w' ⟨rfl, rfl⟩; rw [← HY.out])
          | (go_at_call 9; refine (refSuffix_any _ _ _ _ z _ hs (by omega) HZ.out (reads_drewN HR.out)).mono ?_; rintro e w' ⟨rfl, rfl⟩; rw [← HY.out]))
        go_loop [10] (fun i => ∃ k : Nat, k ≤ n ∧ i = .int .i64 k) (fun i => n - (intOf i).toNat)
        case atStart => exact ⟨0, Nat.zero_le _, rfl⟩
        case round =>
          obtain ⟨k, hk, rfl⟩ := hrel
          by_cases hlt : k < n
          · obtain ⟨b, off, rfl, _, hc0⟩ := reads_drewN (m := nq) HR.out k hlt
            have hx := HZ.out k
            have hmx := HMX.out k hlt
            obtain ⟨x, hxe⟩ : ∃ x, x = z k := ⟨_, rfl⟩
            have hc : (w.drewN nq).cell? ⟨b, off + k, none⟩ = some (.string x) := by rw [hxe]; exact hc0
            rw [← hxe] at hx hmx
            clear hc0 hxe
            have HMX2 := Lib.hid hmx; clear hmx
            have hend : ∀ W : World, Calls Try.prog 10 #[.string s, .string x] W fun e w' => e = .returned (.bool (Lib.hasSuffix s.data.toList x.data.toList)) ∧ W = w' := fun W => ends_any s x W hs
            have HE := Lib.hid hend; clear hend
            cases e1 : x.toList.isEmpty
            · by_cases e2 : x.size < s.size
              · cases e3 : Lib.hasSuffix s.data.toList x.data.toList
                · have E3 := Lib.hid e3; clear e3
                  go_wp2_with (go_at_call 10; refine (HE.out _).mono ?_; rintro e w' ⟨rfl, rfl⟩; rw [E3.out])
                  go_round
                  case rel => exact ⟨k + 1, by omega, by go_num⟩
                  case measure => simp [intOf]; omega
                · have e4 := HMX2.out e2 e3
                  have h0 : y.size = 0 := by rw [isEmpty_true e5]; rfl
                  exact absurd (isEmpty_size.1 e1) (by omega)
              · go_wp2
                go_round
                case rel => exact ⟨k + 1, by omega, by go_num⟩
                case measure => simp [intOf]; omega
            · go_wp2
              go_round
              case rel => exact ⟨k + 1, by omega, by go_num⟩
              case measure => simp [intOf]; omega
          · go_wp2
            go_ret
            exact ⟨rfl, _, rfl⟩

theorem stemSuffix_walk (s : ByteArray) (a : Option Addr) (n c : Nat) (zs : List ByteArray) (w : World) (ws : s.size ≤ 140737488351232) (hz : IsStrs w a n c zs) (hsh : w.ShapedOpen Try.prog) :
    Calls Try.prog 3 #[.string s, .slice a n c] w fun e w' => e = .returned (.bool true) ∧ Below w.heap.size w w' := by
  obtain ⟨m, hm⟩ := Try.laysM145.s1_3 w hsh
  refine (stemSuffix_walk0 s a n c (fun k => zs.getD k ByteArray.empty) m w hm (by omega) (by have := isStrs_cap hz; omega) (fun k => by have := isStrs_size hz k; omega) (isStrs_reads hz)).mono ?_
  rintro e w' ⟨he, n, rfl⟩
  exact ⟨he, drewN_below w n⟩
end Go.Proofs.Yteglipnoifaaaaa
