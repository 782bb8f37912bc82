/-
  The document's Same, whole.
-/
import Derived.Test.YtiihpbccabeoeaaGreatDoorZPsN
namespace Go.Proofs.YtiihpbccabeoeaaGreatDoor
open Go.RowKit
set_option linter.unusedVariables false
set_option maxRecDepth 100000 in
set_option maxHeartbeats 4000000 in
theorem same_allx : ∀ N, SameOKx N := by
  intro N
  induction N with
  | zero => intro n m hn; omega
  | succ N ih =>
    intro n m hn w D E ds es aa ba an ac bn bc hds hes ha hb
    obtain ⟨xs, rfl, hxs⟩ := hds.out
    obtain ⟨ys, rfl, hys⟩ := hes.out
    rw [ny_iff]
    have hc8 := cells_node
    have hmx := rdBound (by decide) ha
    have hmy := rdBound (by decide) hb
    have HLA := Lib.hid (rdRecs (k := 8) (fun _ => rfl) (by decide) ha).1
    have HLB := Lib.hid (rdRecs (k := 8) (fun _ => rfl) (by decide) hb).1
    have HA := Lib.hid ha
    have HB := Lib.hid hb
    have HXS := Lib.hid hxs
    have HYS := Lib.hid hys
    have HIH := Lib.hid ih
    clear ha hb hxs hys hds hes ih
    by_cases hl : an = bn
    · subst hl
      go_enter Tryz.func11, Tryz.ntmps11
      go_wp2_with fail
      go_loopw [5] (fun k' wr => ∃ k : Nat, k' = .int .i64 k ∧ k ≤ an ∧ Hid (xs.take k = ys.take k) ∧ Hid (Keeps (fun _ => False) w wr)) (fun k' _ => an - (intOf k').toNat)
      case atStart => exact ⟨0, rfl, Nat.zero_le _, Lib.hid rfl, Lib.hid (Keeps.refl _ _)⟩
      case round =>
        obtain ⟨k, rfl, hk, HT, HK⟩ := hrel
        by_cases hlt : k < an
        · have hlta : k < xs.length := by rw [← HLA.out]; exact hlt
          have hltb : k < ys.length := by rw [← HLB.out]; exact hlt
          obtain ⟨g, o, wa, wl, wc, ga, gl, gc, ra, rl, rcp, ka, kl, kc, aa, al, ac, h, hg, ⟨q0, q1, q2, q3, q4, q5, q6, q7⟩, hx⟩ := nodesAt2 (rdKeep0 HA.out HK.out) hlta
          obtain ⟨g', o', wa', wl', wc', ga', gl', gc', ra', rl', rcp', ka', kl', kc', aa', al', ac', h', hg', ⟨r0, r1, r2, r3, r4, r5, r6, r7⟩, hy⟩ := nodesAt2 (rdKeep0 HB.out HK.out) hltb
          subst h h'
          have HP := Lib.hid (fun W (hw : Keeps (fun _ => False) wr W) => sameN N (n - 1) (m - 1) (by have := (HXS.out _ (List.getElem_mem hlta)).1; omega) HIH.out W D E xs[k] ys[k] (HXS.out _ (List.getElem_mem hlta)).2 (HYS.out _ (List.getElem_mem hltb)).2 _ _ _ _ _ _ _ _ _ _ _ _ _ _ _ _ _ _ _ _ _ _ _ _ _ _ _ _ _ _ (hx.keep0 hw) (hy.keep0 hw))
          have HTK := Lib.hid (fun e : xs[k] = ys[k] => take_same hlta hltb HT.out e)
          have HNE := Lib.hid (show xs = ys → xs[k] = ys[k] from fun h => by simp only [h])
          obtain ⟨x, hxe⟩ : ∃ x, x = xs[k] := ⟨_, rfl⟩
          obtain ⟨y, hye⟩ : ∃ y, y = ys[k] := ⟨_, rfl⟩
          rw [← hxe, ← hye] at HP HTK HNE
          rw [← hxe] at q0 q1 q2
          rw [← hye] at r0 r1 r2
          obtain ⟨kx, hkx⟩ : ∃ l, l = x.kind := ⟨_, rfl⟩
          obtain ⟨tx, htx⟩ : ∃ l, l = x.nt := ⟨_, rfl⟩
          obtain ⟨ky, hky⟩ : ∃ l, l = y.kind := ⟨_, rfl⟩
          obtain ⟨ty, hty⟩ : ∃ l, l = y.nt := ⟨_, rfl⟩
          obtain ⟨nx, hnx⟩ : ∃ l : ByteArray, l = ⟨x.nm.toArray⟩ := ⟨_, rfl⟩
          obtain ⟨ny, hny⟩ : ∃ l : ByteArray, l = ⟨y.nm.toArray⟩ := ⟨_, rfl⟩
          rw [← hkx, ← htx, ← hnx, ← hky, ← hty, ← hny] at HP
          rw [← hkx] at q0
          rw [← htx] at q1
          rw [← hnx] at q2
          rw [← hky] at r0
          rw [← hty] at r1
          rw [← hny] at r2
          clear hx hy hxe hye hlta hltb HT hkx htx hky hty hnx hny
          have p1 : (k : Int) < (an : Int) := by omega
          go_wp2_with fail
          go_still_tail 8, (by kernel_rfl)
          change wpList _ _ _ _ _ wr.drew
          go_wp2_with fail
          refine (HP.out _ ((Keeps.refl _ _).drew)).mono ?_
          rintro e w2 ⟨r, rfl, hr, hk2⟩
          have HK2 := Lib.hid ((HK.out.trans ((Keeps.refl (fun _ => False) wr).drew) (fun _ _ h => h)).trans hk2 (fun _ _ h => h))
          cases r with
          | true =>
            have HWD := Lib.hid (hr.1 rfl)
            clear hr hk2 HP
            go_wp2_with fail
            go_roundw
            case rel => exact ⟨k + 1, by go_num, by omega, Lib.hid (HTK.out HWD.out), HK2⟩
            case measure => simp [intOf]; omega
          | false =>
            have HWD := Lib.hid (show x ≠ y from fun h => by have := hr.2 h; cases this)
            clear hr hk2 HP
            go_wp2_with fail
            go_ret
            exact ⟨false, rfl, ⟨fun h => (by cases h), fun h => absurd (HNE.out h) HWD.out⟩, HK2.out⟩
        · obtain rfl : k = an := by omega
          have HF := Lib.hid (take_all HLA.out HLB.out HT.out)
          have p1 : ¬ (k : Int) < (k : Int) := by omega
          go_wp2_with fail
          go_ret
          exact ⟨true, rfl, ⟨fun _ => HF.out, fun _ => rfl⟩, HK.out⟩
    · have e1 : ((an : Int) != (bn : Int)) = true := by rw [bne_iff_ne]; omega
      have HL := Lib.hid (show xs.length ≠ ys.length by rw [← HLA.out, ← HLB.out]; exact hl)
      clear hl
      go_enter Tryz.func11, Tryz.ntmps11
      go_wp2_with fail
      go_ret
      exact ⟨false, rfl, ⟨fun h => (by cases h), fun h => absurd (by rw [h]) HL.out⟩, Keeps.refl _ _⟩
end Go.Proofs.YtiihpbccabeoeaaGreatDoor
