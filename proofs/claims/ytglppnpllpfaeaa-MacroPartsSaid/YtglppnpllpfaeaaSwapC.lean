/-
  The contract of the reference's Swap.
-/
import Derived.Test.YtglppnpllpfaeaaSwapB
namespace Go.Proofs.Ytglppnpllpfaeaa
open Go.RowKit

theorem infoStr : (Try.prog.info? 9).map (fun i => (i.zero, i.size, i.bytes)) = some (some (.string ⟨#[]⟩), 1, 16) := by kernel_rfl

set_option maxHeartbeats 400000 in
theorem refSwap_any (a : Option Addr) (n c : Nat) (z : Nat → ByteArray) (f t : ByteArray) (w : World) (hn : n ≤ 1000000000) (hz : ∀ k, (z k).size ≤ 1000000000000000) (hf : f.size ≤ 1000000) (ht : t.size ≤ 1000000) (hr : Reads w a n (fun k => .string (z k))) :
    Calls Try.prog 17 #[.slice a n c, .string f, .string t] w (RetStrs n (fun k => swapB f t (z k)) w) := by
  have HR := Lib.hid hr; have HZ := Lib.hid hz; clear hr hz
  obtain ⟨i0, hi, hz0, hz1, hz2⟩ := info_parts infoStr
  go_enter Try.func17, Try.ntmps17
  go_wp2
  go_loopw [7, 8] (fun v i wr => ∃ k : Nat, k ≤ n ∧ i = .int .i64 k ∧ wr.ownsRow w.heap.size 9 1 v k (strCells k (fun k => swapB f t (z k))) ∧ Below w.heap.size w wr) (fun _ i _ => n - (intOf i).toNat)
  case atStart => exact ⟨0, Nat.zero_le _, rfl, World.ownsRow_nil _ _ _ _, Below.refl _ _⟩
  case round =>
    obtain ⟨k, hk, rfl, hown, hb⟩ := hrel
    by_cases hlt : k < n
    · obtain ⟨b, off, rfl, hbl, hc0⟩ := HR.out k hlt
      obtain ⟨x, hx⟩ : ∃ x, x = z k := ⟨_, rfl⟩
      have hc : wr.cell? ⟨b, off + k, none⟩ = some (.string x) := by rw [hb.cell (p := ⟨b, off + k, none⟩) hbl, hc0, hx]
      have hxs := HZ.out k
      rw [← hx] at hxs
      have HX := Lib.hid hx
      have HOWN := Lib.hid hown; have HB2 := Lib.hid hb
      clear hc0 hx hown hb
      cases hs : Lib.hasSuffix x.data.toList f.data.toList
      · have HS := Lib.hid hs; clear hs
        go_wp2_with (first
          | (go_at_call 24; refine (ends_any _ _ _ (by omega)).mono ?_; rintro e w' ⟨rfl, rfl⟩; rw [HS.out])
          | (at_builtin; refine wpList_append_own _ rfl _ _ 37 rfl w.heap.size 9 i0 (.string ⟨#[]⟩) 1 16 Try.underlying37 hi hz0 hz1 hz2 rfl (by decide) _ _ _ rfl (HOWN.out.alloc _) ⟨_, 0, none⟩ 1 1 [.string x] rfl rfl (cell_one_new _ _ _) (by simp [Value.oneCell']) (by unfold maxLen; omega) (by omega) (by have := HB2.out.size; simp; omega) ?_; intro v' w1 hown1 hg1 _; have HO1 := Lib.hid hown1; have HG1 := Lib.hid hg1; clear hown1 hg1))
        go_roundw
        case rel => exact ⟨k + 1, by omega, by go_num, by rw [← strCells_snoc k _ x (by show x = swapB f t (z k); rw [← HX.out]; unfold swapB; rw [HS.out]; rfl)]; exact HO1.out, (HB2.out.alloc (HB2.out.size) _).grown HG1.out (by have := HB2.out.size; simp; omega) (fun g hg => (HOWN.out.lt g hg).1)⟩
        case measure => simp [intOf]; omega
      · have hsz := hasSuffix_size hs
        have HS := Lib.hid hs; clear hs
        go_wp2_with (first
          | (go_at_call 24; refine (ends_any _ _ _ (by omega)).mono ?_; rintro e w' ⟨rfl, rfl⟩; rw [HS.out])
          | (at_builtin; refine wpList_append_own _ rfl _ _ 37 rfl w.heap.size 9 i0 (.string ⟨#[]⟩) 1 16 Try.underlying37 hi hz0 hz1 hz2 rfl (by decide) _ _ _ rfl (HOWN.out.alloc _) ⟨_, 0, none⟩ 1 1 [.string (x.extract 0 (x.size - f.size) ++ t)] rfl rfl (cell_one_new _ _ _) (by simp [Value.oneCell']) (by unfold maxLen; omega) (by omega) (by have := HB2.out.size; simp; omega) ?_; intro v' w1 hown1 hg1 _; have HO1 := Lib.hid hown1; have HG1 := Lib.hid hg1; clear hown1 hg1))
        go_roundw
        case rel => exact ⟨k + 1, by omega, by go_num, by rw [← strCells_snoc k _ (x.extract 0 (x.size - f.size) ++ t) (by show _ = swapB f t (z k); rw [← HX.out]; unfold swapB; rw [if_pos HS.out])]; exact HO1.out, (HB2.out.alloc (HB2.out.size) _).grown HG1.out (by have := HB2.out.size; simp; omega) (fun g hg => (HOWN.out.lt g hg).1)⟩
        case measure => simp [intOf]; omega
    · obtain rfl : k = n := by omega
      rcases own_forms hown with ⟨rfl, rfl⟩ | ⟨g, cap, rfl⟩
      · have HB2 := Lib.hid hb; clear hb hown
        go_wp2
        go_ret
        exact ⟨_, _, rfl, reads_none _, HB2.out⟩
      · have HOWN := Lib.hid hown; have HB2 := Lib.hid hb
        clear hown hb
        go_wp2
        go_ret
        exact ⟨_, _, rfl, reads_own HOWN.out, HB2.out⟩
end Go.Proofs.Ytglppnpllpfaeaa
