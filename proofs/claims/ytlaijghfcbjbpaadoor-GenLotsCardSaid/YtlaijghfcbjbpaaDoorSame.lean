/-
  The contract of the reference's SameStrings, and small words for slices that a call makes.
-/
import Derived.Test.YtlaijghfcbjbpaaDoorBase
import Derived.Test.YtlaijghfcbjbpaaDoorSlices
import Derived.Deep.QuietTactic
import Derived.BigQuiet
import Derived.Lib.SmallJoins
namespace Go.Proofs.YtlaijghfcbjbpaaDoor
open Go.RowKit

theorem bytes_ne {x y : ByteArray} (h : x ≠ y) : (x.toList == y.toList) = false := by
  rw [Lib.toList_data, Lib.toList_data, beq_eq_false_iff_ne]
  intro e
  exact h (by rw [← Lib.mk_data x, e, Lib.mk_data y])

def RetQuiet (v : Value) (w : World) (e : Ending) (w' : World) : Prop := e = .returned v ∧ ∃ q, w' = w.drewN q

set_option maxHeartbeats 400000 in
theorem same_any (a b : Option Addr) (n ca m cb : Nat) (za zb : Nat → ByteArray) (r : Bool) (w : World) (hn : n ≤ 9223372036854775807) (hm : m ≤ 9223372036854775807)
    (hra : Reads w a n (fun k => .string (za k))) (hrb : Reads w b m (fun k => .string (zb k))) (hr : r = true ↔ n = m ∧ ∀ k, k < n → za k = zb k) :
    Calls Tryd.prog 25 #[.slice a n ca, .slice b m cb] w (RetQuiet (.bool r) w) := by
  by_cases hnm : n = m
  · subst hnm
    have HA := Lib.hid hra; have HB := Lib.hid hrb; have HR := Lib.hid hr
    clear hra hrb hr hm
    go_enter Tryd.func25, Tryd.ntmps25
    go_wp2
    go_loopw [5] (fun i wr => ∃ k q : Nat, k ≤ n ∧ i = .int .i64 k ∧ wr = w.drewN q ∧ ∀ j, j < k → za j = zb j) (fun i _ => n - (intOf i).toNat)
    case atStart => exact ⟨0, 0, Nat.zero_le _, rfl, rfl, fun j hj => absurd hj (Nat.not_lt_zero j)⟩
    case round =>
      obtain ⟨k, q, hk, rfl, rfl, hall⟩ := hrel
      have HALL := Lib.hid hall; clear hall
      by_cases hlt : k < n
      · obtain ⟨b1, o1, rfl, _, h1⟩ := HA.out k hlt
        obtain ⟨b2, o2, rfl, _, h2⟩ := HB.out k hlt
        obtain ⟨x, hx⟩ : ∃ x, x = za k := ⟨_, rfl⟩
        obtain ⟨y, hy⟩ : ∃ y, y = zb k := ⟨_, rfl⟩
        have c1 : w.cell? ⟨b1, o1 + k, none⟩ = some (.string x) := by rw [hx]; exact h1
        have c2 : w.cell? ⟨b2, o2 + k, none⟩ = some (.string y) := by rw [hy]; exact h2
        have HX := Lib.hid hx; have HY := Lib.hid hy
        clear h1 h2 hx hy
        by_cases e : x = y
        · have HE := Lib.hid e
          have e2 : (x.toList == y.toList) = true := by rw [e]; simp
          clear e
          go_wp2
          go_quiet (fail)
          go_wp2
          go_roundw
          case rel =>
            refine ⟨k + 1, _, by omega, by go_num, rfl, fun j hj => ?_⟩
            rcases Nat.lt_succ_iff_lt_or_eq.1 hj with hj' | rfl
            · exact HALL.out j hj'
            · rw [← HX.out, HE.out, HY.out]
          case measure => simp [intOf]; omega
        · have e2 := bytes_ne e
          have HE := Lib.hid e; clear e
          go_wp2
          go_quiet (fail)
          go_wp2
          have h3 : r = false := by
            cases hr' : r
            · rfl
            · exact absurd ((HR.out.1 hr').2 k hlt) (by rw [← HX.out, ← HY.out]; exact HE.out)
          rw [h3]
          go_ret
          exact ⟨rfl, _, World.drewN_drewN _ _ _⟩
      · go_wp2
        obtain rfl : k = n := by omega
        have h3 : r = true := HR.out.2 ⟨by simp, HALL.out⟩
        rw [h3]
        go_ret
        exact ⟨rfl, _, rfl⟩
  · have h1 : ((n : Int) == (m : Int)) = false := by rw [beq_eq_false_iff_ne]; omega
    have h2 : ((n : Int) != (m : Int)) = true := by rw [bne_iff_ne]; omega
    have h3 : r = false := by
      cases r
      · rfl
      · exact absurd (hr.1 rfl).1 hnm
    subst h3
    clear hr hra hrb
    go_enter Tryd.func25, Tryd.ntmps25
    go_wp2
    go_ret
    exact ⟨rfl, 0, rfl⟩
end Go.Proofs.YtlaijghfcbjbpaaDoor
