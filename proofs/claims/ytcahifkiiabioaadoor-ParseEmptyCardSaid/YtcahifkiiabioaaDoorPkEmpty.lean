/-
  ParseEmpty's walk.
-/
import Derived.Test.YtcahifkiiabioaaDoorPkJ
namespace Go.Proofs.YtcahifkiiabioaaDoor
open Go.RowKit
set_option linter.unusedVariables false

theorem low_three (x : Int) : ∃ m : Nat, bits .and .i64 x 3 = (m : Int) ∧ m < 4 := by
  have h : (BitVec.ofInt 64 x &&& BitVec.ofInt 64 3).toNat < 4 := by
    rw [BitVec.toNat_and]
    exact Nat.lt_of_le_of_lt Nat.and_le_right (by decide)
  refine ⟨(BitVec.ofInt 64 x &&& BitVec.ofInt 64 3).toNat, ?_, h⟩
  show IntKind.i64.wrap (((BitVec.ofInt 64 x &&& BitVec.ofInt 64 3).toNat : Nat) : Int) = _
  exact IntWalk.i64_in _ (by omega)
def emOf (z : Int) : Nat := (bits .and .i64 z 3).toNat
def emAt (z : List Int) (i : Nat) : List Nat := (z.take i).map emOf
theorem emAt_succ {z : List Int} {i : Nat} (h : i < z.length) : emptyS (emAt z (i + 1)) = emptyS (emAt z i) ++ emptyT (emOf (z.getD i 0)) := by
  unfold emAt
  rw [List.take_succ_eq_append_getElem h, List.map_append, List.getD_eq_getElem?_getD, List.getElem?_eq_getElem h]
  simp [emptyS]
theorem emAt_len {z : List Int} {i : Nat} (h : i ≤ z.length) : (emAt z i).length = i := by
  unfold emAt
  rw [List.length_map, List.length_take]; omega
theorem em_cell (w1 : World) (k : Nat) (hk : k < 4) : ∃ O : ByteArray, O.data.toList = emptyT k ∧ (w1.alloc (.cells #[.string ⟨#[32]⟩, .string ⟨#[9]⟩, .string ⟨#[10]⟩, .string ⟨#[35, 32, 99, 59, 39, 40, 10]⟩] 9)).cell? ⟨w1.heap.size, k, none⟩ = some (.string O) := by
  have hb := heap_alloc_new w1 (.cells #[.string ⟨#[32]⟩, .string ⟨#[9]⟩, .string ⟨#[10]⟩, .string ⟨#[35, 32, 99, 59, 39, 40, 10]⟩] 9)
  have h := cell_of_row _ _ k _ _ _ hb
  have hk2 : k = 0 ∨ k = 1 ∨ k = 2 ∨ k = 3 := by omega
  rcases hk2 with rfl | rfl | rfl | rfl <;> exact ⟨_, rfl, h⟩

set_option maxRecDepth 100000 in
set_option maxHeartbeats 8000000 in
theorem parseEmpty_walk (a0 : Option Addr) (n0 c0 : Nat) (z0 : List Int) (w : World) (hr : IsRow .i64 w a0 n0 c0 z0) (hsh : w.ShapedOpen Tryd.prog) (hL : laidMetH Tryd.prog Rows.parseEmptyRow.laid w) :
    Calls Tryd.prog 8 #[.slice a0 n0 c0] w fun e w' => e = .returned (.bool true) ∧ Below w.heap.size w w' := by
  have HEV := Lib.hid (ev_of rfl hL hsh)
  clear hL hsh
  have hc8 := cells_node
  have hrd := isRow_reads hr
  obtain ⟨hnz, _, _⟩ := isRow_cap hr
  have HRD := Lib.hid hrd
  clear hr hrd
  by_cases hl : 40 < n0
  · have t1 : (40 : Int) < (n0 : Int) := by omega
    go_enter Tryd.func8, Tryd.ntmps8
    go_wp2_with fail
    refine (palive_any w _ HEV.out).mono ?_
    rintro e w1 ⟨rfl, hk⟩
    have HK := Lib.hid hk
    clear hk
    go_wp2_with fail
    go_ret
    exact ⟨rfl, HK.out.below0 (fun _ h => h.elim)⟩
  have t1 : ¬ (40 : Int) < (n0 : Int) := by omega
  go_enter Tryd.func8, Tryd.ntmps8
  go_wp2_with fail
  refine (palive_any w _ HEV.out).mono ?_
  rintro e w1 ⟨rfl, hk⟩
  have HK := Lib.hid hk
  clear hk
  go_wp2_with fail
  go_loopw [4, 5] (fun s' i' wr => ∃ (i : Nat) (S : ByteArray), s' = .string S ∧ i' = .int .i64 i ∧ i ≤ n0 ∧ Hid (S.data.toList = emptyS (emAt z0 i)) ∧ Hid (Keeps (fun _ => False) w wr)) (fun _ i' _ => n0 - (intOf i').toNat)
  case atStart => exact ⟨0, ⟨#[]⟩, rfl, rfl, Nat.zero_le _, Lib.hid rfl, HK⟩
  case round =>
    obtain ⟨i, S, rfl, rfl, hi, HS, HKr⟩ := hrel
    have hS7 : S.size ≤ 280 := by
      have h1 := (emptyS_bytes (emAt z0 i)).1
      rw [emAt_len (by omega), ← HS.out, ← Lib.size_eq] at h1
      omega
    rcases Nat.lt_or_ge i n0 with hlt | hge
    · have p1 : (i : Int) < (n0 : Int) := by omega
      obtain ⟨b, off, rfl, hb, hc⟩ := HRD.out i hlt
      obtain ⟨x, hx⟩ : ∃ x, x = z0.getD i 0 := ⟨_, rfl⟩
      have hc : w.cell? ⟨b, off + i, none⟩ = some (.int .i64 x) := by rw [hx]; exact hc
      have hbr : b < wr.heap.size := Nat.lt_of_lt_of_le hb HKr.out.size
      have hcr : wr.cell? ⟨b, off + i, none⟩ = some (.int .i64 x) := (World.cell?_of_block (HKr.out.block b hb (fun h => h))).trans hc
      obtain ⟨m, hm, hm4⟩ := low_three x
      obtain ⟨O, hO, hcO⟩ := em_cell wr m hm4
      have hO7 : O.size ≤ 7 := by rw [Lib.size_eq, hO]; exact (emptyT_bytes m).1
      have p2 : (m : Int) < 4 := by omega
      have HNX := Lib.hid (show (S ++ O).data.toList = emptyS (emAt z0 (i + 1)) by
        rw [emAt_succ (by omega), ← hx, ← HS.out]
        show (S ++ O).data.toList = S.data.toList ++ emptyT (bits .and .i64 x 3).toNat
        rw [hm, Int.toNat_natCast, ← hO]
        simp)
      have HKn := Lib.hid (show Keeps (fun _ => False) w (wr.alloc (.cells #[.string ⟨#[32]⟩, .string ⟨#[9]⟩, .string ⟨#[10]⟩, .string ⟨#[35, 32, 99, 59, 39, 40, 10]⟩] 9)) from HKr.out.alloc _)
      clear hx hc hO
      go_wp2_with fail
      go_roundw
      case rel => exact ⟨i + 1, S ++ O, rfl, rfl, by omega, HNX, HKn⟩
      case measure => simp [intOf]; omega
    · obtain rfl : i = n0 := by omega
      have p1 : ¬ (i : Int) < (i : Int) := by omega
      obtain ⟨l, hl⟩ : ∃ l, l = emAt z0 i := ⟨_, rfl⟩
      have hl40 : l.length ≤ 40 := by rw [hl, emAt_len (by omega)]; omega
      rw [← hl] at HS
      have HE1 := Lib.hid (show parseF S.data.toList = .ok [] by rw [HS.out]; exact empty_none l hl40)
      obtain ⟨S2, hS2⟩ : ∃ S2 : ByteArray, S2 = S ++ ⟨#[97]⟩ ++ ⟨#[10]⟩ ++ S := ⟨_, rfl⟩
      have HE2 := Lib.hid (show parseF S2.data.toList = .ok aNode by
        rw [hS2, show (S ++ ⟨#[97]⟩ ++ ⟨#[10]⟩ ++ S : ByteArray).data.toList = S.data.toList ++ [97] ++ [10] ++ S.data.toList by simp, HS.out]
        exact empty_one l hl40)
      have HV1 := Lib.hid (HEV.out.keep HKr.out (fun _ _ h => h))
      have hsz2 : S2.size ≤ 140737488351232 := by
        rw [hS2, ByteArray.size_append, ByteArray.size_append, ByteArray.size_append]
        show S.size + 1 + 1 + S.size ≤ _
        omega
      have HS2 := Lib.hid hS2
      clear hl HS hS2
      go_wp2_with fail
      refine (parse_any wr _ S HV1.out (by omega)).mono ?_
      rw [HE1.out]
      rintro e w2 ⟨a, m, c, rfl, hrd, hk⟩
      obtain ⟨hlm, _⟩ := hrd.len8
      obtain rfl : m = 0 := by have : (0 : Nat) = m * 8 := hlm; omega
      have HV2 := Lib.hid (HV1.out.keep hk (fun _ _ h => h))
      have HK2 := Lib.hid (HKr.out.trans hk (fun _ _ h => h))
      clear hk hrd hlm
      go_wp2_with fail
      rw [← HS2.out]
      refine (parse_any w2 _ S2 HV2.out hsz2).mono ?_
      rw [HE2.out]
      rintro e w3 ⟨a3, m3, c3, rfl, hrd, hk⟩
      obtain ⟨hlm, _⟩ := hrd.len8
      obtain rfl : m3 = 1 := by have : (8 : Nat) = m3 * 8 := hlm; omega
      obtain ⟨b3, o3, rfl, hb3, _, hF⟩ := hrd.base (by decide)
      obtain ⟨u0, d0, r0⟩ := hF 0 (by decide)
      obtain rfl := Rd.int_v (n := 1) r0
      have HK3 := Lib.hid (HK2.out.trans hk (fun _ _ h => h))
      rw [Nat.add_zero] at d0
      clear hk hrd hlm hF r0
      go_wp2_with fail
      refine (pnum_any 0 _).mono ?_
      rintro e w4 ⟨rfl, hw4⟩
      subst hw4
      go_wp2_with fail
      refine (pnum_any 0 _).mono ?_
      rintro e w5 ⟨rfl, hw5⟩
      subst hw5
      go_wp2_with fail
      go_ret
      exact ⟨rfl, HK3.out.below0 (fun _ h => h.elim)⟩
end Go.Proofs.YtcahifkiiabioaaDoor
