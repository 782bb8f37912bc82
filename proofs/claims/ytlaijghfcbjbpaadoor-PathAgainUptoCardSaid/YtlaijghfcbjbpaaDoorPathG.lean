/-
  The contracts of the reference's Abs, and of Dir, Base, Within and their references.
-/
import Derived.Test.YtlaijghfcbjbpaaDoorPathF
namespace Go.Proofs.YtlaijghfcbjbpaaDoor
open Go.RowKit

theorem any_take {L : List Bytes} {k : Nat} {X : ByteArray} (hk : k < L.length) (hX : X.size = (L.getD k []).length) (h : longB (L.take k) = false) : longB (L.take (k + 1)) = decide (60 < X.size) := by
  unfold longB at h ⊢
  rw [List.take_succ_eq_append_getElem hk, List.any_append, h, hX]
  rw [List.getD_eq_getElem?_getD, List.getElem?_eq_getElem hk]
  simp

theorem any_hit {L : List Bytes} {k : Nat} {X : ByteArray} (hk : k < L.length) (hX : X.size = (L.getD k []).length) (h : 60 < X.size) : longB L = true := by
  unfold longB
  rw [List.any_eq_true]
  exact ⟨L.getD k [], by simp [hk], by rw [decide_eq_true_eq, ← hX]; exact h⟩

set_option maxHeartbeats 2000000 in
theorem refAbs_any (cwd p : ByteArray) (w : World) (hc : cwd.size ≤ 10000000) (hp : p.size ≤ 10000000) :
    Calls Tryd.prog 31 #[.string cwd, .string p] w (RetAbs (absF cwd.data.toList p.data.toList) w) := by
  obtain ⟨r, hr⟩ : ∃ r, r = absF cwd.data.toList p.data.toList := ⟨_, rfl⟩
  rw [← hr]
  by_cases h0 : p.data.toList = []
  · have e0 : p.toList.isEmpty = true := by rw [Lib.toList_data, h0]; rfl
    rw [absF_empty _ _ (Or.inl h0)] at hr
    have HX := Lib.hid hr; clear hr h0
    go_enter Tryd.func31, Tryd.ntmps31
    go_wp2
    go_ret2
    exact retAbs_mk HX.out (Below.refl _ _)
  have e0 := isEmpty_no h0
  by_cases h2 : (0 : UInt8) ∈ p.data.toList
  · rw [absF_empty _ _ (Or.inr (Or.inl h2))] at hr
    have d2 : 0 ≤ Lib.indexByte p.data.toList 0 := (zero_iff _).2 h2
    have HX := Lib.hid hr; clear hr h0 h2
    go_enter Tryd.func31, Tryd.ntmps31
    go_wp2_with (go_at_call 28; refine (at_zero _ _ (by omega)).mono ?_; rintro e w' ⟨rfl, rfl⟩)
    go_ret2
    exact retAbs_mk HX.out (Below.refl _ _)
  have d2 : ¬ 0 ≤ Lib.indexByte p.data.toList 0 := fun h => h2 ((zero_iff _).1 h)
  by_cases h1 : (0 : UInt8) ∈ cwd.data.toList
  · rw [absF_empty _ _ (Or.inr (Or.inr h1))] at hr
    have d1 : 0 ≤ Lib.indexByte cwd.data.toList 0 := (zero_iff _).2 h1
    have HX := Lib.hid hr; clear hr h0 h1 h2
    go_enter Tryd.func31, Tryd.ntmps31
    go_wp2_with fail
    refine (at_zero _ _ (by omega)).mono ?_
    rintro e w' ⟨rfl, rfl⟩
    go_wp2_with fail
    refine (at_zero _ _ (by omega)).mono ?_
    rintro e w' ⟨rfl, rfl⟩
    go_wp2
    go_ret2
    exact retAbs_mk HX.out (Below.refl _ _)
  have d1 : ¬ 0 ≤ Lib.indexByte cwd.data.toList 0 := fun h => h1 ((zero_iff _).1 h)
  have hno : ¬ (p.data.toList = [] ∨ (0 : UInt8) ∈ p.data.toList ∨ (0 : UInt8) ∈ cwd.data.toList) := by rintro (h | h | h); exact h0 h; exact h2 h; exact h1 h
  obtain ⟨hbl, hbz⟩ := partsL_bounds cwd p hc hp
  have hP := refPartsR cwd p w hc hp
  have HNO := Lib.hid hno; clear hno h0 h1 h2
  have hlong := absF_long _ _ HNO.out
  have hok := absF_ok _ _ HNO.out
  obtain ⟨L, hL⟩ : ∃ L, L = partsL cwd.data.toList p.data.toList := ⟨_, rfl⟩
  rw [← hL] at hbl hbz hP hlong hok
  have hws := writeL_size L hbl hbz
  obtain ⟨S, hS⟩ : ∃ S : ByteArray, S = ⟨(writeL L).toArray⟩ := ⟨_, rfl⟩
  have hSd : S.data.toList = writeL L := by rw [hS]
  have hSs : S.size = (writeL L).length := by rw [Lib.size_eq, hSd]
  have hJ : ∀ (a : Option Addr) (n c : Nat) (w : World), ReadsL w a n L → Calls Tryd.prog 23 #[.slice a n c] w fun e w' => e = .returned (.string S) ∧ w = w' := by
    intro a n c w h1; rw [hS]; exact write_any a n c L w h1 (by have := h1.1; omega) hbz
  rw [← hS] at hws
  rw [← hSs] at hlong hok
  rw [← hr] at hlong hok
  have HP := Lib.hid hP; have HJ := Lib.hid hJ; have HSD := Lib.hid hSd
  have HLG := Lib.hid hlong; have HOK := Lib.hid hok; have HBZ := Lib.hid hbz
  clear hP hJ hSd hSs hS hL hr hlong hok hbz
  obtain ⟨n, hn⟩ : ∃ n, n = L.length := ⟨_, rfl⟩
  have HN := Lib.hid hn
  rw [← hn] at hbl
  have hPn : Calls Tryd.prog 32 #[.string cwd, .string p] w (fun e w' => ∃ a c, e = .returned (.slice a n c) ∧ ReadsL w' a n L ∧ Below w.heap.size w w') := by
    refine HP.out.mono ?_
    rintro e w' ⟨a, c, he, h1, _, _, h2⟩
    rw [← hn] at he h1
    exact ⟨a, c, he, h1, h2⟩
  have HPN := Lib.hid hPn
  clear hn hPn HP
  go_enter Tryd.func31, Tryd.ntmps31
  go_wp2_with fail
  refine (at_zero _ _ (by omega)).mono ?_
  rintro e w' ⟨rfl, rfl⟩
  go_wp2_with fail
  refine (at_zero _ _ (by omega)).mono ?_
  rintro e w' ⟨rfl, rfl⟩
  go_wp2_with fail
  refine HPN.out.mono ?_
  rintro e w1 ⟨a, c, rfl, hrl, hb1⟩
  have HRL := Lib.hid hrl; have HB1 := Lib.hid hb1; clear hrl hb1
  go_wp2
  go_loop [7] (fun i => ∃ k : Nat, k ≤ n ∧ i = .int .i64 k ∧ longB (L.take k) = false) (fun i => n - (intOf i).toNat)
  case atStart => exact ⟨0, Nat.zero_le _, rfl, rfl⟩
  case round =>
    obtain ⟨k, hk, rfl, hno⟩ := hrel
    have HL0 := Lib.hid hno; clear hno
    by_cases hlt : k < n
    · obtain ⟨b, off, rfl, _, hc0⟩ := HRL.out.2 k hlt
      have hkL : k < L.length := by rw [← HN.out]; exact hlt
      obtain ⟨X, hX⟩ : ∃ X : ByteArray, X = ⟨(L.getD k []).toArray⟩ := ⟨_, rfl⟩
      have hc : w1.cell? ⟨b, off + k, none⟩ = some (.string X) := by rw [hX]; exact hc0
      have hXd : X.size = (L.getD k []).length := by rw [Lib.size_eq, hX]
      have hXs : X.size ≤ 100000000 := by have := lens_le hX; have := HBZ.out; omega
      have HX := Lib.hid hXd; have HKL := Lib.hid hkL
      clear hc0 hX hXd hkL
      by_cases h60 : 60 < X.size
      · go_wp2
        go_ret2
        exact retAbs_mk (s := ⟨#[]⟩) (HLG.out (Or.inl (any_hit HKL.out HX.out h60))) HB1.out
      · go_wp2
        go_round
        case rel => exact ⟨k + 1, by omega, by go_num, by rw [any_take HKL.out HX.out HL0.out]; simpa using h60⟩
        case measure => simp [intOf]; omega
    · obtain rfl : k = n := by omega
      have hlb : longB L = false := by rw [← HL0.out, HN.out, List.take_length]
      have HLB := Lib.hid hlb; clear hlb
      by_cases h20 : 20 < k
      · have h3 := HLG.out (Or.inr (Or.inl (by rw [← HN.out]; exact h20)))
        have H3 := Lib.hid h3; clear h3
        go_wp2_with (go_at_call 23; refine (HJ.out _ _ _ _ HRL.out).mono ?_; rintro e w' ⟨rfl, rfl⟩)
        go_ret2
        exact retAbs_mk (s := ⟨#[]⟩) H3.out HB1.out
      · by_cases h200 : 200 < S.size
        · have H3 := Lib.hid (HLG.out (Or.inr (Or.inr h200)))
          go_wp2_with (go_at_call 23; refine (HJ.out _ _ _ _ HRL.out).mono ?_; rintro e w' ⟨rfl, rfl⟩)
          go_ret2
          exact retAbs_mk (s := ⟨#[]⟩) H3.out HB1.out
        · have h3 := HOK.out (by rintro (h | h | h); rw [HLB.out] at h; cases h; rw [← HN.out] at h; omega; omega)
          have H3 := Lib.hid h3; clear h3
          go_wp2_with (go_at_call 23; refine (HJ.out _ _ _ _ HRL.out).mono ?_; rintro e w' ⟨rfl, rfl⟩)
          go_ret2
          exact retAbs_mk (H3.out.trans (by rw [HSD.out])) HB1.out
end Go.Proofs.YtlaijghfcbjbpaaDoor
