/-
  ParseWrong's walk.
-/
import Derived.Test.YtcahifkiiabioaaDoorPkJ
namespace Go.Proofs.YtcahifkiiabioaaDoor
open Go.RowKit
set_option linter.unusedVariables false

theorem strs_cell (L : List (List UInt8)) (w1 : World) (vs : Array Value) (hvs : vs = (L.map strV).toArray) (T : TypeId) (k : Nat) (hk : k < L.length) : ∃ O : ByteArray, O.data.toList = L[k] ∧ (w1.alloc (.cells vs T)).cell? ⟨w1.heap.size, k, none⟩ = some (.string O) := by
  refine ⟨⟨L[k].toArray⟩, rfl, ?_⟩
  have hb := heap_alloc_new w1 (.cells vs T)
  have h := cell_of_row _ _ k _ _ _ hb
  rw [h, hvs]
  simp [hk, strV]
theorem wrong_len : wrongL.length = 60 := rfl
theorem wrong_short : wrongL.all (fun s => decide (s.length ≤ 100)) = true := by decide +kernel

set_option maxRecDepth 100000 in
set_option maxHeartbeats 8000000 in
theorem parseWrong_walk (z : Int) (w : World) (hz : (Lit.int .i64 z).wf = true) (hsh : w.ShapedOpen Tryd.prog) (hL : laidMetH Tryd.prog Rows.parseWrongRow.laid w) :
    Calls Tryd.prog 3 #[.int .i64 z] w fun e w' => e = .returned (.bool true) ∧ Below w.heap.size w w' := by
  have HEV := Lib.hid (ev_of rfl hL hsh)
  clear hL hsh
  have hc8 := cells_node
  by_cases h0 : z < 0
  · go_enter Tryd.func3, Tryd.ntmps3
    go_wp2_with fail
    refine (palive_any w _ HEV.out).mono ?_
    rintro e w1 ⟨rfl, hk⟩
    have HK := Lib.hid hk
    clear hk
    go_wp2_with fail
    go_ret
    exact ⟨rfl, (HK.out.alloc _).below0 (fun _ h => h.elim)⟩
  by_cases h1 : 60 ≤ z
  · go_enter Tryd.func3, Tryd.ntmps3
    go_wp2_with fail
    refine (palive_any w _ HEV.out).mono ?_
    rintro e w1 ⟨rfl, hk⟩
    have HK := Lib.hid hk
    clear hk
    go_wp2_with fail
    go_ret
    exact ⟨rfl, (HK.out.alloc _).below0 (fun _ h => h.elim)⟩
  obtain ⟨k, rfl⟩ : ∃ k : Nat, z = (k : Int) := ⟨z.toNat, by omega⟩
  have hk6 : k < 60 := by omega
  have p0 : ¬ (k : Int) < 0 := h0
  have p1 : (k : Int) < 60 := by omega
  go_enter Tryd.func3, Tryd.ntmps3
  go_wp2_with fail
  refine (palive_any w _ HEV.out).mono ?_
  rintro e w1 ⟨rfl, hk⟩
  obtain ⟨O, hO, hcO⟩ := strs_cell wrongL w1 #[.string ⟨#[38]⟩, .string ⟨#[97, 32, 38]⟩, .string ⟨#[59]⟩, .string ⟨#[97, 32, 59, 59, 32, 98]⟩, .string ⟨#[97, 59, 32, 59, 32, 98]⟩, .string ⟨#[124]⟩, .string ⟨#[97, 32, 124]⟩, .string ⟨#[97, 32, 124, 124, 32]⟩, .string ⟨#[38, 38, 32, 97]⟩, .string ⟨#[33, 32, 33, 32, 97]⟩, .string ⟨#[33]⟩, .string ⟨#[40]⟩, .string ⟨#[40, 41]⟩, .string ⟨#[40, 32, 97]⟩, .string ⟨#[97, 32, 41]⟩, .string ⟨#[123, 32, 97, 32, 125]⟩, .string ⟨#[123, 32, 125]⟩, .string ⟨#[123]⟩, .string ⟨#[125]⟩, .string ⟨#[105, 102, 32, 97]⟩, .string ⟨#[105, 102, 32, 97, 59, 32, 116, 104, 101, 110, 32, 98]⟩, .string ⟨#[105, 102, 32, 97, 59, 32, 102, 105]⟩, .string ⟨#[105, 102, 59, 32, 116, 104, 101, 110, 32, 98, 59, 32, 102, 105]⟩, .string ⟨#[116, 104, 101, 110]⟩, .string ⟨#[102, 105]⟩, .string ⟨#[100, 111]⟩, .string ⟨#[100, 111, 110, 101]⟩, .string ⟨#[119, 104, 105, 108, 101, 32, 97, 59, 32, 100, 111, 110, 101]⟩, .string ⟨#[119, 104, 105, 108, 101, 32, 97, 59, 32, 100, 111, 59, 32, 100, 111, 110, 101]⟩, .string ⟨#[102, 111, 114]⟩, .string ⟨#[102, 111, 114, 32, 49, 59, 32, 100, 111, 32, 97, 59, 32, 100, 111, 110, 101]⟩, .string ⟨#[102, 111, 114, 32, 105, 32, 105, 110, 32, 97, 32, 100, 111, 32, 98, 59, 32, 100, 111, 110, 101]⟩, .string ⟨#[102, 111, 114, 32, 105, 32, 105, 110, 59, 32, 100, 111, 110, 101]⟩, .string ⟨#[99, 97, 115, 101]⟩, .string ⟨#[99, 97, 115, 101, 32, 120]⟩, .string ⟨#[99, 97, 115, 101, 32, 120, 32, 105, 110, 32, 97]⟩, .string ⟨#[99, 97, 115, 101, 32, 120, 32, 105, 110, 32, 97, 41, 32, 98]⟩, .string ⟨#[99, 97, 115, 101, 32, 120, 32, 105, 110, 32, 41, 32, 97, 59, 59, 32, 101, 115, 97, 99]⟩, .string ⟨#[101, 115, 97, 99]⟩, .string ⟨#[105, 110]⟩, .string ⟨#[102, 40, 41]⟩, .string ⟨#[102, 40, 41, 32, 97]⟩, .string ⟨#[102, 40, 41, 32, 103, 40, 41, 32, 123, 32, 97, 59, 32, 125]⟩, .string ⟨#[102, 40, 32, 97, 32, 41]⟩, .string ⟨#[97, 32, 60]⟩, .string ⟨#[97, 32, 60, 32, 59]⟩, .string ⟨#[62, 32]⟩, .string ⟨#[39]⟩, .string ⟨#[97, 32, 34, 98]⟩, .string ⟨#[36, 123]⟩, .string ⟨#[36, 123, 97]⟩, .string ⟨#[36, 123, 97, 58, 125]⟩, .string ⟨#[36, 123, 49, 97, 125]⟩, .string ⟨#[36, 40]⟩, .string ⟨#[36, 40, 97]⟩, .string ⟨#[36, 40, 40, 49]⟩, .string ⟨#[36, 40, 40, 49, 41]⟩, .string ⟨#[36, 40, 59, 41]⟩, .string ⟨#[96, 97, 96]⟩, .string ⟨#[97, 0]⟩] (by rfl) 9 k (by rw [wrong_len]; exact hk6)
  have hO9 : O.size ≤ 100 := by
    rw [Lib.size_eq, hO]
    exact of_decide_eq_true (List.all_eq_true.1 wrong_short wrongL[k] (List.getElem_mem _))
  have HP := Lib.hid (show parseF O.data.toList = .error 2 by rw [hO]; exact wrong_parse _)
  obtain ⟨W, hW⟩ : ∃ W, W = w1.alloc (.cells #[.string ⟨#[38]⟩, .string ⟨#[97, 32, 38]⟩, .string ⟨#[59]⟩, .string ⟨#[97, 32, 59, 59, 32, 98]⟩, .string ⟨#[97, 59, 32, 59, 32, 98]⟩, .string ⟨#[124]⟩, .string ⟨#[97, 32, 124]⟩, .string ⟨#[97, 32, 124, 124, 32]⟩, .string ⟨#[38, 38, 32, 97]⟩, .string ⟨#[33, 32, 33, 32, 97]⟩, .string ⟨#[33]⟩, .string ⟨#[40]⟩, .string ⟨#[40, 41]⟩, .string ⟨#[40, 32, 97]⟩, .string ⟨#[97, 32, 41]⟩, .string ⟨#[123, 32, 97, 32, 125]⟩, .string ⟨#[123, 32, 125]⟩, .string ⟨#[123]⟩, .string ⟨#[125]⟩, .string ⟨#[105, 102, 32, 97]⟩, .string ⟨#[105, 102, 32, 97, 59, 32, 116, 104, 101, 110, 32, 98]⟩, .string ⟨#[105, 102, 32, 97, 59, 32, 102, 105]⟩, .string ⟨#[105, 102, 59, 32, 116, 104, 101, 110, 32, 98, 59, 32, 102, 105]⟩, .string ⟨#[116, 104, 101, 110]⟩, .string ⟨#[102, 105]⟩, .string ⟨#[100, 111]⟩, .string ⟨#[100, 111, 110, 101]⟩, .string ⟨#[119, 104, 105, 108, 101, 32, 97, 59, 32, 100, 111, 110, 101]⟩, .string ⟨#[119, 104, 105, 108, 101, 32, 97, 59, 32, 100, 111, 59, 32, 100, 111, 110, 101]⟩, .string ⟨#[102, 111, 114]⟩, .string ⟨#[102, 111, 114, 32, 49, 59, 32, 100, 111, 32, 97, 59, 32, 100, 111, 110, 101]⟩, .string ⟨#[102, 111, 114, 32, 105, 32, 105, 110, 32, 97, 32, 100, 111, 32, 98, 59, 32, 100, 111, 110, 101]⟩, .string ⟨#[102, 111, 114, 32, 105, 32, 105, 110, 59, 32, 100, 111, 110, 101]⟩, .string ⟨#[99, 97, 115, 101]⟩, .string ⟨#[99, 97, 115, 101, 32, 120]⟩, .string ⟨#[99, 97, 115, 101, 32, 120, 32, 105, 110, 32, 97]⟩, .string ⟨#[99, 97, 115, 101, 32, 120, 32, 105, 110, 32, 97, 41, 32, 98]⟩, .string ⟨#[99, 97, 115, 101, 32, 120, 32, 105, 110, 32, 41, 32, 97, 59, 59, 32, 101, 115, 97, 99]⟩, .string ⟨#[101, 115, 97, 99]⟩, .string ⟨#[105, 110]⟩, .string ⟨#[102, 40, 41]⟩, .string ⟨#[102, 40, 41, 32, 97]⟩, .string ⟨#[102, 40, 41, 32, 103, 40, 41, 32, 123, 32, 97, 59, 32, 125]⟩, .string ⟨#[102, 40, 32, 97, 32, 41]⟩, .string ⟨#[97, 32, 60]⟩, .string ⟨#[97, 32, 60, 32, 59]⟩, .string ⟨#[62, 32]⟩, .string ⟨#[39]⟩, .string ⟨#[97, 32, 34, 98]⟩, .string ⟨#[36, 123]⟩, .string ⟨#[36, 123, 97]⟩, .string ⟨#[36, 123, 97, 58, 125]⟩, .string ⟨#[36, 123, 49, 97, 125]⟩, .string ⟨#[36, 40]⟩, .string ⟨#[36, 40, 97]⟩, .string ⟨#[36, 40, 40, 49]⟩, .string ⟨#[36, 40, 40, 49, 41]⟩, .string ⟨#[36, 40, 59, 41]⟩, .string ⟨#[96, 97, 96]⟩, .string ⟨#[97, 0]⟩] 9) := ⟨_, rfl⟩
  rw [← hW] at hcO
  have HK := Lib.hid (show Keeps (fun _ => False) w W by rw [hW]; exact hk.alloc _)
  have HW := Lib.hid hW
  clear hk hO hW
  go_wp2_with (rw [← HW.out])
  refine (parse_any W _ O (HEV.out.keep HK.out (fun _ _ h => h)) (by omega)).mono ?_
  rw [HP.out]
  rintro e w2 ⟨rfl, hk⟩
  have HK2 := Lib.hid (HK.out.trans hk (fun _ _ h => h))
  clear hk
  go_wp2_with fail
  refine (pnum_any 2 _).mono ?_
  rintro e w3 ⟨rfl, hw3⟩
  subst hw3
  go_wp2_with fail
  go_ret
  exact ⟨rfl, HK2.out.below0 (fun _ h => h.elim)⟩
end Go.Proofs.YtcahifkiiabioaaDoor
