/-
  The contracts of the reference's Stem and Fill.
-/
import Derived.Test.YtglppnpllpfaeaaRefB
import Derived.Test.YtglppnpllpfaeaaStemP
import Derived.Deep.QuietTactic
import Derived.BigQuiet
import Derived.Test.YtglppnpllpfaeaaShelf
namespace Go.Proofs.Ytglppnpllpfaeaa
open Go.RowKit

theorem at_pct (p : ByteArray) (w : World) (hs : p.size ≤ 9223372036854775807) :
    Calls Try.prog 39 #[.string p, .int .u8 37] w fun e w' => e = .returned (.int .i64 (pct p.data.toList)) ∧ w = w' :=
  at_any p 37 w hs

theorem ret_str {a b : ByteArray} (h : a.data.toList = b.data.toList) : Ending.returned (.string a) = .returned (.string b) := by
  rw [← Lib.mk_data a, h, Lib.mk_data b]

theorem ret_bool {a b : Bool} (h : a = b) : Ending.returned (.bool a) = .returned (.bool b) := by rw [h]

theorem ret_sb {a c : ByteArray} {b d : Bool} (h : a.data.toList = c.data.toList) (h2 : b = d) : Ending.returned (.tuple #[.string a, .bool b]) = .returned (.tuple #[.string c, .bool d]) := by
  rw [← Lib.mk_data a, h, Lib.mk_data c, h2]

set_option maxHeartbeats 400000 in
theorem refStem_any (p s : ByteArray) (w : World) (hp : p.size ≤ 1000000000) (hs : s.size ≤ 1000000000) :
    Calls Try.prog 41 #[.string p, .string s] w fun e w' =>
      e = .returned (.tuple #[.string ⟨(stemF p.data.toList s.data.toList).1.toArray⟩, .bool (stemF p.data.toList s.data.toList).2]) ∧ w = w' := by
  have hge := pct_ge p.data.toList
  have hlt := pct_lt p.data.toList
  rw [← Lib.size_eq] at hlt
  by_cases h1 : pct p.data.toList < 0
  · rw [stemF_none p s h1]
    go_enter Try.func41, Try.ntmps41
    go_wp2_with (go_at_call 39; refine (at_pct _ _ (by omega)).mono ?_; rintro e w' ⟨rfl, rfl⟩)
    go_ret2
    exact ⟨ret_sb rfl (by rw [Lib.toList_data, Lib.toList_data]), rfl⟩
  · obtain ⟨k, hk⟩ := Int.eq_ofNat_of_zero_le (show 0 ≤ pct p.data.toList by omega)
    rw [stemF_at p s k hk]
    have HK := Lib.hid hk
    rw [hk] at hlt
    clear hk hge h1
    by_cases h2 : s.size < p.size
    · rw [if_pos h2]
      go_enter Try.func41, Try.ntmps41
      go_wp2_with (first | (go_at_call 39; refine (at_pct _ _ (by omega)).mono ?_; rintro e w' ⟨rfl, rfl⟩; rw [HK.out]) | fail)
      go_ret2
      exact ⟨rfl, rfl⟩
    · rw [if_neg h2]
      cases hb1 : Lib.hasPrefix s.data.toList (p.extract 0 k).data.toList
      · have HB1 := Lib.hid hb1; clear hb1
        rw [if_pos rfl]
        go_enter Try.func41, Try.ntmps41
        go_wp2_with (first | (go_at_call 39; refine (at_pct _ _ (by omega)).mono ?_; rintro e w' ⟨rfl, rfl⟩; rw [HK.out]) | (go_at_call 50; refine (begins_any _ _ _).mono ?_; rintro e w' ⟨rfl, rfl⟩; rw [HB1.out]))
        go_ret2
        exact ⟨rfl, rfl⟩
      · have HB1 := Lib.hid hb1; clear hb1
        rw [if_neg (by decide)]
        cases hb2 : Lib.hasSuffix s.data.toList (p.extract (k + 1) p.size).data.toList
        · have HB2 := Lib.hid hb2; clear hb2
          rw [if_pos rfl]
          go_enter Try.func41, Try.ntmps41
          go_wp2_with (first | (go_at_call 39; refine (at_pct _ _ (by omega)).mono ?_; rintro e w' ⟨rfl, rfl⟩; rw [HK.out]) | (go_at_call 50; refine (begins_any _ _ _).mono ?_; rintro e w' ⟨rfl, rfl⟩; rw [HB1.out]) | (go_at_call 24; refine (ends_any _ _ _ (by omega)).mono ?_; rintro e w' ⟨rfl, rfl⟩; rw [HB2.out]))
          go_ret2
          exact ⟨rfl, rfl⟩
        · have HB2 := Lib.hid hb2; clear hb2
          rw [if_neg (by decide)]
          go_enter Try.func41, Try.ntmps41
          go_wp2_with (first | (go_at_call 39; refine (at_pct _ _ (by omega)).mono ?_; rintro e w' ⟨rfl, rfl⟩; rw [HK.out]) | (go_at_call 50; refine (begins_any _ _ _).mono ?_; rintro e w' ⟨rfl, rfl⟩; rw [HB1.out]) | (go_at_call 24; refine (ends_any _ _ _ (by omega)).mono ?_; rintro e w' ⟨rfl, rfl⟩; rw [HB2.out]))
          go_ret2
          exact ⟨ret_sb (by rw [Nat.min_eq_left (by omega)]) rfl, rfl⟩

set_option maxHeartbeats 400000 in
theorem refFill_any (p s : ByteArray) (w : World) (hp : p.size ≤ 1000000000) (hs : s.size ≤ 1000000000) :
    Calls Try.prog 42 #[.string p, .string s] w fun e w' =>
      e = .returned (.string ⟨(fillF p.data.toList s.data.toList).toArray⟩) ∧ ∃ n, w' = w.drewN n := by
  have hge := pct_ge p.data.toList
  have hlt := pct_lt p.data.toList
  rw [← Lib.size_eq] at hlt
  by_cases h1 : pct p.data.toList < 0
  · rw [fillF_none p s h1]
    go_enter Try.func42, Try.ntmps42
    go_wp2_with (go_at_call 39; refine (at_pct _ _ (by omega)).mono ?_; rintro e w' ⟨rfl, rfl⟩)
    go_ret
    exact ⟨ret_str rfl, 0, rfl⟩
  · obtain ⟨k, hk⟩ := Int.eq_ofNat_of_zero_le (show 0 ≤ pct p.data.toList by omega)
    rw [fillF_at p s k hk]
    have HK := Lib.hid hk
    rw [hk] at hlt
    clear hk hge h1
    go_enter Try.func42, Try.ntmps42
    go_wp2_with (first | (go_at_call 39; refine (at_pct _ _ (by omega)).mono ?_; rintro e w' ⟨rfl, rfl⟩; rw [HK.out]) | fail)
    go_quiet (fail)
    go_wp2
    go_ret
    exact ⟨ret_str rfl, _, rfl⟩

theorem cut_miss (p : ByteArray) (m : Int) (w : World) (hp : p.size ≤ 1000000000) (hm : w.cell? ⟨0, 0, none⟩ = some (.int .i64 m)) (h : pct p.data.toList < 0) :
    Calls Try.prog 27 #[.string p, .string ⟨#[37]⟩] w fun e w' => e = .returned (.tuple #[.string p, .string ByteArray.empty, .bool false]) ∧ ∃ n, w' = w.drewN n := by
  refine (Try.strings_Cut p ⟨#[37]⟩ m w (by omega) hm).mono ?_
  rintro e w' ⟨rfl, h'⟩
  refine ⟨?_, h'⟩
  show Ending.returned (.tuple #[.string ⟨(Lib.cut p.data.toList [37]).1.toArray⟩, .string ⟨(Lib.cut p.data.toList [37]).2.1.toArray⟩, .bool (Lib.cut p.data.toList [37]).2.2]) = _
  rw [cut_pct, if_pos h]
  rfl

theorem cut_hit (p : ByteArray) (m : Int) (w : World) (hp : p.size ≤ 1000000000) (hm : w.cell? ⟨0, 0, none⟩ = some (.int .i64 m)) (k : Nat) (h : pct p.data.toList = k) :
    Calls Try.prog 27 #[.string p, .string ⟨#[37]⟩] w fun e w' => e = .returned (.tuple #[.string (p.extract 0 k), .string (p.extract (k + 1) p.size), .bool true]) ∧ ∃ n, w' = w.drewN n := by
  refine (Try.strings_Cut p ⟨#[37]⟩ m w (by omega) hm).mono ?_
  rintro e w' ⟨rfl, h'⟩
  refine ⟨?_, h'⟩
  show Ending.returned (.tuple #[.string ⟨(Lib.cut p.data.toList [37]).1.toArray⟩, .string ⟨(Lib.cut p.data.toList [37]).2.1.toArray⟩, .bool (Lib.cut p.data.toList [37]).2.2]) = _
  rw [cut_pct, h, if_neg (by omega), Int.toNat_natCast, ← ex0, ← exEnd, Lib.mk_data, Lib.mk_data]

set_option maxHeartbeats 400000 in
theorem match_any (p s : ByteArray) (m : Int) (w : World) (hp : p.size ≤ 1000000000) (hs : s.size ≤ 1000000000) (hm : w.cell? ⟨0, 0, none⟩ = some (.int .i64 m)) :
    Calls Try.prog 61 #[.string p, .string s] w fun e w' =>
      e = .returned (.tuple #[.string ⟨(stemF p.data.toList s.data.toList).1.toArray⟩, .bool (stemF p.data.toList s.data.toList).2]) ∧ ∃ n, w' = w.drewN n := by
  have hge := pct_ge p.data.toList
  have hlt := pct_lt p.data.toList
  rw [← Lib.size_eq] at hlt
  have HM := Lib.hid hm; clear hm
  by_cases h1 : pct p.data.toList < 0
  · rw [stemF_none p s h1]
    go_enter Try.func61, Try.ntmps61
    go_wp2_with (go_at_call 27; refine (cut_miss _ m _ hp HM.out h1).mono ?_; rintro e w' ⟨rfl, n, rfl⟩)
    go_ret2
    exact ⟨ret_sb rfl (by rw [Lib.toList_data, Lib.toList_data]; exact Bool.beq_comm), _, rfl⟩
  · obtain ⟨k, hk⟩ := Int.eq_ofNat_of_zero_le (show 0 ≤ pct p.data.toList by omega)
    rw [stemF_at p s k hk]
    have HK := Lib.hid hk
    rw [hk] at hlt
    clear hk hge h1
    have hz1 : (p.extract 0 k).size = k := by rw [Lib.size_eq, ex0, List.length_take, ← Lib.size_eq]; omega
    have hz2 : (p.extract (k + 1) p.size).size = p.size - (k + 1) := by rw [Lib.size_eq, exEnd, List.length_drop, ← Lib.size_eq]
    have HZ1 := Lib.hid hz1; have HZ2 := Lib.hid hz2; clear hz1 hz2
    by_cases h2 : s.size < p.size
    · rw [if_pos h2]
      go_enter Try.func61, Try.ntmps61
      go_wp2_with (go_at_call 27; refine (cut_hit _ m _ hp HM.out k HK.out).mono ?_; rintro e w' ⟨rfl, n, rfl⟩)
      go_ret2
      exact ⟨rfl, _, rfl⟩
    · rw [if_neg h2]
      cases hb1 : Lib.hasPrefix s.data.toList (p.extract 0 k).data.toList
      · have HB1 := Lib.hid hb1; clear hb1
        rw [if_pos rfl]
        go_enter Try.func61, Try.ntmps61
        go_wp2_with (first | (go_at_call 27; refine (cut_hit _ m _ hp HM.out k HK.out).mono ?_; rintro e w' ⟨rfl, n, rfl⟩) | (go_at_call 72; refine (Try.strings_HasPrefix _ _ _).mono ?_; rintro e w' ⟨rfl, rfl⟩; rw [HB1.out]))
        go_ret2
        exact ⟨rfl, _, rfl⟩
      · have HB1 := Lib.hid hb1; clear hb1
        rw [if_neg (by decide)]
        cases hb2 : Lib.hasSuffix s.data.toList (p.extract (k + 1) p.size).data.toList
        · have HB2 := Lib.hid hb2; clear hb2
          rw [if_pos rfl]
          go_enter Try.func61, Try.ntmps61
          go_wp2_with (first | (go_at_call 27; refine (cut_hit _ m _ hp HM.out k HK.out).mono ?_; rintro e w' ⟨rfl, n, rfl⟩) | (go_at_call 72; refine (Try.strings_HasPrefix _ _ _).mono ?_; rintro e w' ⟨rfl, rfl⟩; rw [HB1.out]) | (go_at_call 71; refine (Try.strings_HasSuffix _ _ _ (by omega)).mono ?_; rintro e w' ⟨rfl, rfl⟩; rw [HB2.out]))
          go_ret2
          exact ⟨rfl, _, rfl⟩
        · have HB2 := Lib.hid hb2; clear hb2
          rw [if_neg (by decide)]
          go_enter Try.func61, Try.ntmps61
          go_wp2_with (first | (go_at_call 27; refine (cut_hit _ m _ hp HM.out k HK.out).mono ?_; rintro e w' ⟨rfl, n, rfl⟩) | (go_at_call 72; refine (Try.strings_HasPrefix _ _ _).mono ?_; rintro e w' ⟨rfl, rfl⟩; rw [HB1.out]) | (go_at_call 71; refine (Try.strings_HasSuffix _ _ _ (by omega)).mono ?_; rintro e w' ⟨rfl, rfl⟩; rw [HB2.out]))
          go_ret2
          exact ⟨ret_sb (by rw [Nat.min_eq_left (by omega)]) rfl, _, rfl⟩

set_option maxHeartbeats 400000 in
theorem fill_any (p s : ByteArray) (m : Int) (w : World) (hp : p.size ≤ 1000000000) (hs : s.size ≤ 1000000000) (hm : w.cell? ⟨0, 0, none⟩ = some (.int .i64 m)) :
    Calls Try.prog 62 #[.string p, .string s] w fun e w' =>
      e = .returned (.string ⟨(fillF p.data.toList s.data.toList).toArray⟩) ∧ ∃ n, w' = w.drewN n := by
  have hge := pct_ge p.data.toList
  have hlt := pct_lt p.data.toList
  rw [← Lib.size_eq] at hlt
  have HM := Lib.hid hm; clear hm
  by_cases h1 : pct p.data.toList < 0
  · rw [fillF_none p s h1]
    go_enter Try.func62, Try.ntmps62
    go_wp2_with (go_at_call 27; refine (cut_miss _ m _ hp HM.out h1).mono ?_; rintro e w' ⟨rfl, n, rfl⟩)
    go_ret
    exact ⟨ret_str rfl, _, rfl⟩
  · obtain ⟨k, hk⟩ := Int.eq_ofNat_of_zero_le (show 0 ≤ pct p.data.toList by omega)
    rw [fillF_at p s k hk]
    have HK := Lib.hid hk
    rw [hk] at hlt
    clear hk hge h1
    go_enter Try.func62, Try.ntmps62
    go_wp2_with (go_at_call 27; refine (cut_hit _ m _ hp HM.out k HK.out).mono ?_; rintro e w' ⟨rfl, n, rfl⟩)
    go_ret
    exact ⟨ret_str rfl, _, rfl⟩

theorem is_any (p : ByteArray) (m : Int) (w : World) (hp : p.size ≤ 1000000000) (hm : w.cell? ⟨0, 0, none⟩ = some (.int .i64 m)) :
    Calls Try.prog 58 #[.string p] w fun e w' =>
      e = .returned (.bool (decide (0 ≤ pct p.data.toList))) ∧ w = w' := by
  rw [← contains_pct]
  have HM := Lib.hid hm; clear hm
  go_enter Try.func58, Try.ntmps58
  go_wp2_with (go_at_call 68; refine (Try.strings_Contains _ _ m _ (by omega) HM.out).mono ?_; rintro e w' ⟨rfl, rfl⟩)
  go_ret
  exact ⟨rfl, rfl⟩
end Go.Proofs.Ytglppnpllpfaeaa
