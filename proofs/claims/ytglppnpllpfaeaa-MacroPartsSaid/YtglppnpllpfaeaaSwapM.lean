/-
  The contract of Swap, its row the call's own.
-/
import Derived.Test.YtglppnpllpfaeaaSwapB
namespace Go.Proofs.Ytglppnpllpfaeaa
open Go.RowKit

set_option maxHeartbeats 400000 in
theorem swapOwn_any (a : Option Addr) (n c : Nat) (z : Nat → ByteArray) (f t : ByteArray) (w : World) (hn : n ≤ 1000000000) (hz : ∀ k, (z k).size ≤ 1000000000000000) (hf : f.size ≤ 1000000) (ht : t.size ≤ 1000000) (hr : Reads w a n (fun k => .string (z k))) :
    Calls Try.prog 60 #[.slice a n c, .string f, .string t] w (RetOwn n (fun k => swapB f t (z k)) w) := by
  have HR := Lib.hid hr; have HZ := Lib.hid hz; clear hr hz
  by_cases h0 : 0 < n
  · go_enter Try.func60, Try.ntmps60
    go_wp2_with (go_at_call 70; refine (clone_any _ _ _ z _ hn HR.out).mono ?_; rintro e w1 ⟨v, rfl, hown, hb⟩; obtain ⟨g, cap, rfl, hg, hg2⟩ := World.ownsRow.form hown h0; have HO := Lib.hid hown; clear hown; have HB := Lib.hid hb; clear hb)
    go_loopw [14] (fun i wr => ∃ k : Nat, k ≤ n ∧ i = .int .i64 k ∧ wr.ownsRow w.heap.size 9 1 (.slice (some ⟨g, 0, none⟩) n cap) n (strCells n (upto (fun k => swapB f t (z k)) z k)) ∧ Below w.heap.size w wr) (fun i _ => n - (intOf i).toNat)
    case atStart => exact ⟨0, Nat.zero_le _, rfl, by rw [upto_zero]; exact HO.out, HB.out⟩
    case round =>
      obtain ⟨k, hk, rfl, hown, hb⟩ := hrel
      by_cases hlt : k < n
      · have hfz := hown.frozenAt k
        have hc0 := hown.cellAt k (by omega)
        rw [strCells_at hlt] at hc0
        obtain ⟨x, hx⟩ : ∃ x, x = z k := ⟨_, rfl⟩
        have hc : wr.cell? ⟨g, k, none⟩ = some (.string x) := by rw [hc0, hx]; simp [upto]
        have hxs := HZ.out k
        rw [← hx] at hxs
        have HX := Lib.hid hx
        have HOWN := Lib.hid hown; have HB2 := Lib.hid hb
        clear hc0 hx hown hb
        cases hs : Lib.hasSuffix x.data.toList f.data.toList
        · have HS := Lib.hid hs; clear hs
          go_wp2_with (go_at_call 71; refine (Try.strings_HasSuffix _ _ _ (by omega)).mono ?_; rintro e w' ⟨rfl, rfl⟩; rw [HS.out])
          go_roundw
          case rel => exact ⟨k + 1, by omega, by go_num, by rw [← upto_same (by show swapB f t (z k) = z k; rw [← HX.out]; unfold swapB; rw [HS.out]; rfl)]; exact HOWN.out, HB2.out⟩
          case measure => simp [intOf]; omega
        · have hsz := hasSuffix_size hs
          have HS := Lib.hid hs; clear hs
          go_wp2_with (go_at_call 71; refine (Try.strings_HasSuffix _ _ _ (by omega)).mono ?_; rintro e w' ⟨rfl, rfl⟩; rw [HS.out])
          go_roundw
          case rel => exact ⟨k + 1, by omega, by go_num, by rw [← upto_set (x := x.extract 0 (x.size - f.size) ++ t) hlt (by show _ = swapB f t (z k); rw [← HX.out]; unfold swapB; rw [if_pos HS.out])]; exact (HOWN.out.stored k _).1, HB2.out.setCell (p := ⟨g, k, none⟩) (by exact hg) _⟩
          case measure => simp [intOf]; omega
      · obtain rfl : k = n := by omega
        have HOWN := Lib.hid hown; have HB2 := Lib.hid hb
        clear hown hb
        go_wp2
        go_ret
        exact ⟨_, rfl, by have h := HOWN.out; rw [upto_all] at h; exact h, HB2.out⟩
  · obtain rfl : n = 0 := by omega
    go_enter Try.func60, Try.ntmps60
    go_wp2_with (go_at_call 70; refine (clone_any _ _ _ z _ hn HR.out).mono ?_; rintro e w1 ⟨v, rfl, hown, hb⟩; obtain ⟨a', c', rfl⟩ : ∃ a' c', v = .slice a' 0 c' := (by rcases own_forms hown with ⟨h, _⟩ | ⟨g, cap, h⟩; exact ⟨_, _, h⟩; exact ⟨_, _, h⟩); have HB := Lib.hid hb; have HO0 := Lib.hid hown; clear hb hown)
    go_loop [14] (fun i => i = .int .i64 0) (fun _ => 0)
    case atStart => rfl
    case round =>
      obtain rfl := hrel
      go_wp2
      go_ret
      exact ⟨_, rfl, HO0.out, HB.out⟩
end Go.Proofs.Ytglppnpllpfaeaa
