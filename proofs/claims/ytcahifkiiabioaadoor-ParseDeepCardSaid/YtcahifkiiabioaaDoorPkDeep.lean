/-
  ParseDeep's walk.
-/
import Derived.Test.YtcahifkiiabioaaDoorPkJ
namespace Go.Proofs.YtcahifkiiabioaaDoor
open Go.RowKit
set_option linter.unusedVariables false

set_option maxRecDepth 100000 in
set_option maxHeartbeats 8000000 in
/-- Behind the loop. -/
theorem deep_size (k n : Nat) (hn : n ≤ 60) : (deepS k n).length ≤ 1600 := by
  have := (deepS_bytes k n).1
  omega

set_option maxRecDepth 100000 in
set_option maxHeartbeats 8000000 in
theorem parseDeep_walk (z y : Int) (w : World) (hz : (Lit.int .i64 z).wf = true) (hy : (Lit.int .i64 y).wf = true) (hsh : w.ShapedOpen Tryd.prog) (hL : laidMetH Tryd.prog Rows.parseDeepRow.laid w) :
    Calls Tryd.prog 4 #[.int .i64 z, .int .i64 y] w fun e w' => e = .returned (.bool true) ∧ Below w.heap.size w w' := by
  have HEV := Lib.hid (ev_of rfl hL hsh)
  clear hL hsh hz hy
  have hc8 := cells_node
  by_cases h0 : z < 0
  · go_enter Tryd.func4, Tryd.ntmps4
    go_wp2_with fail
    refine (palive_any w _ HEV.out).mono ?_
    rintro e w1 ⟨rfl, hk⟩
    have HK := Lib.hid hk
    clear hk
    go_wp2_with fail
    go_ret
    exact ⟨rfl, HK.out.below0 (fun _ h => h.elim)⟩
  by_cases h1 : 60 < z
  · go_enter Tryd.func4, Tryd.ntmps4
    go_wp2_with fail
    refine (palive_any w _ HEV.out).mono ?_
    rintro e w1 ⟨rfl, hk⟩
    have HK := Lib.hid hk
    clear hk
    go_wp2_with fail
    go_ret
    exact ⟨rfl, HK.out.below0 (fun _ h => h.elim)⟩
  obtain ⟨n, rfl⟩ : ∃ n : Nat, z = (n : Int) := ⟨z.toNat, by omega⟩
  have hn6 : n ≤ 60 := by omega
  have p0 : ¬ (n : Int) < 0 := h0
  have p1 : ¬ (60 : Int) < (n : Int) := h1
  clear h0 h1
  by_cases hother : y ≠ 0 ∧ y ≠ 1 ∧ y ≠ 2 ∧ y ≠ 3 ∧ 0 < n
  · obtain ⟨y0, y1, y2, y3, hn0⟩ := hother
    have q0 : (y == 0) = false := beq_eq_false_iff_ne.2 y0
    have q1 : (y == 1) = false := beq_eq_false_iff_ne.2 y1
    have q2 : (y == 2) = false := beq_eq_false_iff_ne.2 y2
    have q3 : (y == 3) = false := beq_eq_false_iff_ne.2 y3
    have p2 : (0 : Int) < (n : Int) := by omega
    clear y0 y1 y2 y3
    go_enter Tryd.func4, Tryd.ntmps4
    go_wp2_with fail
    refine (palive_any w _ HEV.out).mono ?_
    rintro e w1 ⟨rfl, hk⟩
    have HK := Lib.hid hk
    clear hk
    go_wp2_with fail
    go_loopw [6, 7] (fun s' i' wr => s' = .string ⟨#[97]⟩ ∧ i' = .int .i64 0 ∧ wr = w1) (fun _ _ _ => 0)
    case atStart => exact ⟨rfl, rfl, rfl⟩
    case round =>
      obtain ⟨rfl, rfl, rfl⟩ := hrel
      go_wp2_with fail
      go_ret
      exact ⟨rfl, HK.out.below0 (fun _ h => h.elim)⟩
  obtain ⟨k, hk4, hky⟩ : ∃ k : Nat, k < 4 ∧ (0 < n → y = (k : Int)) := by
    by_cases h : 0 < n
    · have : y = 0 ∨ y = 1 ∨ y = 2 ∨ y = 3 := by
        by_cases y0 : y = 0
        · exact .inl y0
        by_cases y1 : y = 1
        · exact .inr (.inl y1)
        by_cases y2 : y = 2
        · exact .inr (.inr (.inl y2))
        by_cases y3 : y = 3
        · exact .inr (.inr (.inr y3))
        exact absurd ⟨y0, y1, y2, y3, h⟩ hother
      rcases this with rfl | rfl | rfl | rfl
      · exact ⟨0, by decide, fun _ => rfl⟩
      · exact ⟨1, by decide, fun _ => rfl⟩
      · exact ⟨2, by decide, fun _ => rfl⟩
      · exact ⟨3, by decide, fun _ => rfl⟩
    · exact ⟨0, by decide, fun h' => absurd h' h⟩
  have HKY := Lib.hid hky
  clear hother hky
  go_enter Tryd.func4, Tryd.ntmps4
  go_wp2_with fail
  refine (palive_any w _ HEV.out).mono ?_
  rintro e w1 ⟨rfl, hk⟩
  have HK := Lib.hid hk
  clear hk
  go_wp2_with fail
  go_loopw [6, 7] (fun s' i' wr => ∃ (i : Nat) (S : ByteArray), s' = .string S ∧ i' = .int .i64 i ∧ i ≤ n ∧ Hid (S.data.toList = deepS k i) ∧ wr = w1) (fun _ i' _ => n - (intOf i').toNat)
  case atStart => exact ⟨0, ⟨#[97]⟩, rfl, rfl, Nat.zero_le _, Lib.hid rfl, rfl⟩
  case round =>
    obtain ⟨i, S, rfl, rfl, hi, HS, rfl⟩ := hrel
    have hS7 : S.size ≤ 1600 := by
      rw [Lib.size_eq, HS.out]
      exact deep_size k i (by omega)
    rcases Nat.lt_or_ge i n with hlt | hge
    · have p2 : (i : Int) < (n : Int) := by omega
      obtain rfl := HKY.out (by omega)
      have hk4' : k = 0 ∨ k = 1 ∨ k = 2 ∨ k = 3 := by omega
      clear HKY
      rcases hk4' with rfl | rfl | rfl | rfl
      · have HN := Lib.hid (show (⟨#[123, 32]⟩ ++ S ++ ⟨#[59, 32, 125]⟩ : ByteArray).data.toList = deepS 0 (i + 1) by
          show _ = deepL 0 ++ deepS 0 i ++ deepR 0
          rw [← HS.out]; simp [deepL, deepR])
        go_wp2_with fail
        go_roundw
        case rel => exact ⟨i + 1, _, rfl, rfl, by omega, HN, trivial⟩
        case measure => simp [intOf]; omega
      · have HN := Lib.hid (show (⟨#[40, 32]⟩ ++ S ++ ⟨#[32, 41]⟩ : ByteArray).data.toList = deepS 1 (i + 1) by
          show _ = deepL 1 ++ deepS 1 i ++ deepR 1
          rw [← HS.out]; simp [deepL, deepR])
        go_wp2_with fail
        go_roundw
        case rel => exact ⟨i + 1, _, rfl, rfl, by omega, HN, trivial⟩
        case measure => simp [intOf]; omega
      · have HN := Lib.hid (show (⟨#[119, 104, 105, 108, 101, 32, 97, 59, 32, 100, 111, 32]⟩ ++ S ++ ⟨#[59, 32, 100, 111, 110, 101]⟩ : ByteArray).data.toList = deepS 2 (i + 1) by
          show _ = deepL 2 ++ deepS 2 i ++ deepR 2
          rw [← HS.out]; simp [deepL, deepR])
        go_wp2_with fail
        go_roundw
        case rel => exact ⟨i + 1, _, rfl, rfl, by omega, HN, trivial⟩
        case measure => simp [intOf]; omega
      · have HN := Lib.hid (show (⟨#[105, 102, 32, 97, 59, 32, 116, 104, 101, 110, 32, 98, 59, 32, 101, 108, 115, 101, 32]⟩ ++ S ++ ⟨#[59, 32, 102, 105]⟩ : ByteArray).data.toList = deepS 3 (i + 1) by
          show _ = deepL 3 ++ deepS 3 i ++ deepR 3
          rw [← HS.out]; simp [deepL, deepR])
        go_wp2_with fail
        go_roundw
        case rel => exact ⟨i + 1, _, rfl, rfl, by omega, HN, trivial⟩
        case measure => simp [intOf]; omega
    · obtain rfl : i = n := by omega
      have p2 : ¬ (i : Int) < (i : Int) := by omega
      obtain ⟨herr, hok⟩ := deep_parse k i hn6
      rw [← HS.out] at herr hok
      have HV1 := Lib.hid (HEV.out.keep HK.out (fun _ _ h => h))
      clear HKY HS
      by_cases hd : 39 < i
      · have HE := Lib.hid (herr hd)
        have p3 : (39 : Int) < (i : Int) := by omega
        clear herr hok
        go_wp2_with fail
        refine (parse_any wr _ S HV1.out (by omega)).mono ?_
        rw [HE.out]
        rintro e w2 ⟨rfl, hk⟩
        have HK2 := Lib.hid (HK.out.trans hk (fun _ _ h => h))
        clear hk
        go_wp2_with fail
        refine (pnum_any 3 _).mono ?_
        rintro e w3 ⟨rfl, hw3⟩
        subst hw3
        go_wp2_with fail
        go_ret
        exact ⟨rfl, HK2.out.below0 (fun _ h => h.elim)⟩
      · obtain ⟨ds, hds, hpe⟩ := hok (by omega)
        have HE := Lib.hid hpe
        have p3 : ¬ (39 : Int) < (i : Int) := by omega
        clear herr hok hpe
        go_wp2_with fail
        refine (parse_any wr _ S HV1.out (by omega)).mono ?_
        rw [HE.out]
        rintro e w2 ⟨a, m, c, rfl, hrd, hk⟩
        obtain ⟨hlm, _⟩ := hrd.len8
        obtain rfl : m = 1 := by omega
        have HK2 := Lib.hid (HK.out.trans hk (fun _ _ h => h))
        clear hk hrd hlm
        go_wp2_with fail
        refine (pnum_any 0 _).mono ?_
        rintro e w3 ⟨rfl, hw3⟩
        subst hw3
        go_wp2_with fail
        go_ret
        exact ⟨rfl, HK2.out.below0 (fun _ h => h.elim)⟩
end Go.Proofs.YtcahifkiiabioaaDoor
