/-
  The contracts of the reference's names and Parts.
-/
import Derived.Test.YtlaijghfcbjbpaaDoorPathB
import Derived.Test.YtlaijghfcbjbpaaDoorPathN
namespace Go.Proofs.YtlaijghfcbjbpaaDoor
open Go.RowKit

theorem byte_ne47 {c : UInt8} (h : c ≠ 47) : ((c.toNat : Int) == 47) = false := by
  rw [beq_eq_false_iff_ne]
  intro e
  exact h (UInt8.toNat.inj (by show c.toNat = 47; omega))

theorem own_ncap {w : World} {B g n cap : Nat} {xs : List Value} (h : w.ownsRow B 9 1 (.slice (some ⟨g, 0, none⟩) n cap) n xs) : n ≤ cap ∧ cap ≤ 9223372036854775807 := by
  rcases h.2 with ⟨h', _⟩ | ⟨g', cap', cur, hv, _, _, h1, h2, _⟩
  · simp at h'
  · simp only [Value.slice.injEq, true_and] at hv
    rw [hv.2]; unfold maxLen at h2; exact ⟨h1, h2⟩

set_option maxHeartbeats 2000000 in
theorem names_any (v0 : Value) (l0 : List Bytes) (p : ByteArray) (B : Nat) (w : World) (hp : p.size ≤ 10000000) (hl0 : l0.length ≤ 20000000) (hB : B ≤ w.heap.size) (hown0 : w.ownsRow B 9 1 v0 l0.length (strs l0)) :
    Calls Tryd.prog 52 #[v0, .string p] w (RetOwnL B (namesL l0 p.data.toList) w) := by
  obtain ⟨i0, hi, hz0, hz1, hz2⟩ := info_parts infoStr
  have HO0 := Lib.hid hown0; clear hown0
  go_enter Tryd.func52, Tryd.ntmps52
  go_wp2
  go_loopw [0, 5, 6] (fun v f i wr => ∃ (k fr : Nat) (L : List Bytes), k ≤ p.size + 1 ∧ i = .int .i64 k ∧ f = .int .i64 fr ∧ fr ≤ k ∧ NInv l0 p.data.toList fr k L ∧ wr.ownsRow B 9 1 v L.length (strs L) ∧ Below B w wr) (fun _ _ i _ => p.size + 1 - (intOf i).toNat)
  case atStart => exact ⟨0, 0, l0, Nat.zero_le _, rfl, rfl, Nat.le_refl _, NInv.start _ _, HO0.out, Below.refl _ _⟩
  case round =>
    obtain ⟨k, fr, L, hk, rfl, rfl, hfk, hinv, hown, hb⟩ := hrel
    have hll := hinv.1
    have hpl : p.data.toList.length = p.size := (Lib.size_eq p).symm
    have hbsz := hb.size
    have HO := Lib.hid hown; have HB2 := Lib.hid hb
    clear hown hb
    by_cases hend : k ≤ p.size
    · by_cases hsl : ∃ h : k < p.size, p[k] ≠ 47
      · obtain ⟨hlt, hne⟩ := hsl
        have HNX := Lib.hid (hinv.skip (by omega) (show p.data.toList[k]'(by omega) ≠ 47 from hne))
        have e0 : ((p[k].toNat : Int) == 47) = false := byte_ne47 hne
        have e1 : ((p[k].toNat : Int) != 47) = true := by rw [bne, e0]; rfl
        have HI := Lib.hid hinv; clear hinv hne hpl
        go_wp2
        go_roundw
        case rel => exact ⟨k + 1, fr, L, by omega, by go_num, rfl, by omega, HNX.out, HO.out, HB2.out⟩
        case measure => simp [intOf] <;> omega
      · -- a name ends here
        have hnx : NInv l0 p.data.toList (k + 1) (k + 1) (seg L (p.extract fr k).data.toList) := by
          rw [Lib.extract_data]
          by_cases hlt : k < p.size
          · refine hinv.cut (by omega) ?_
            by_cases h47 : p.data.toList[k]'(by omega) = 47
            · exact h47
            · exact absurd ⟨hlt, h47⟩ hsl
          · obtain rfl : k = p.data.toList.length := by omega
            exact hinv.last
        have HNX := Lib.hid hnx
        have htest : k < p.size → ∀ h : k < p.size, ((p[k].toNat : Int) == 47) = true ∧ ((p[k].toNat : Int) != 47) = false := by
          intro _ h
          have h47 : p[k] = 47 := by
            by_cases e : p[k] = 47
            · exact e
            · exact absurd ⟨h, e⟩ hsl
          rw [h47]; exact ⟨rfl, rfl⟩
        have HT := Lib.hid htest
        clear hnx htest hsl hinv hpl
        obtain ⟨s, hs⟩ : ∃ s, s = (p.extract fr k).data.toList := ⟨_, rfl⟩
        have hXs : (p.extract fr k).toList = s := by rw [hs, Lib.toList_data]
        have hXk : (⟨s.toArray⟩ : ByteArray) = p.extract fr k := by rw [hs, Lib.mk_data]
        have hnx2 := HNX.out
        rw [← hs] at hnx2
        have HXL := Lib.hid hXs; have HXK := Lib.hid hXk
        have HN2 := Lib.hid hnx2
        clear hs hXs hXk hnx2 HNX
        by_cases hlt : k < p.size
        · obtain ⟨e3, e4⟩ := HT.out hlt hlt
          clear HT
          by_cases c0 : s = []
          · have e0 : (p.extract fr k).toList.isEmpty = true := by rw [HXL.out, c0]; rfl
            have HS := Lib.hid (seg_skip (l := L) (Or.inl c0)); clear c0
            go_wp2
            go_roundw
            case rel => exact ⟨k + 1, k + 1, seg L s, by omega, by go_num, by go_num, Nat.le_refl _, HN2.out, by rw [HS.out]; exact HO.out, HB2.out⟩
            case measure => simp [intOf] <;> omega
          by_cases c1 : s = [46]
          · have e0 : (p.extract fr k).toList.isEmpty = false := by rw [HXL.out, c1]; rfl
            have e1' : ((p.extract fr k).toList == [46]) = true := by rw [HXL.out, c1]; rfl
            have HS := Lib.hid (seg_skip (l := L) (Or.inr c1)); clear c1 c0
            go_wp2
            go_roundw
            case rel => exact ⟨k + 1, k + 1, seg L s, by omega, by go_num, by go_num, Nat.le_refl _, HN2.out, by rw [HS.out]; exact HO.out, HB2.out⟩
            case measure => simp [intOf] <;> omega
          by_cases c2 : s = [46, 46]
          · have e0 : (p.extract fr k).toList.isEmpty = false := by rw [HXL.out, c2]; rfl
            have e1' : ((p.extract fr k).toList == [46]) = false := by rw [HXL.out, c2]; rfl
            have e2 : ((p.extract fr k).toList == [46, 46]) = true := by rw [HXL.out, c2]; rfl
            have HS := Lib.hid (seg_up (l := L) c2); clear c0 c1 c2
            rcases own_forms HO.out with ⟨rfl, hz⟩ | ⟨g, cap, rfl⟩
            · have hd : L.dropLast = L := by rw [List.eq_nil_of_length_eq_zero hz]; rfl
              have HD := Lib.hid hd; clear hd hz
              go_wp2
              go_roundw
              case rel => exact ⟨k + 1, k + 1, seg L s, by omega, by go_num, by go_num, Nat.le_refl _, HN2.out, by rw [HS.out, HD.out]; exact HO.out, HB2.out⟩
              case measure => simp [intOf] <;> omega
            · obtain ⟨n, hn⟩ : ∃ n, n = L.length := ⟨_, rfl⟩
              have hown := HO.out
              rw [← hn] at hll hown ⊢
              have hncap := own_ncap hown
              have HO2 := Lib.hid hown; have HN := Lib.hid hn
              clear hown hn HO
              by_cases hn0 : n = 0
              · subst hn0
                have hd : L.dropLast = L := by rw [List.eq_nil_of_length_eq_zero HN.out.symm]; rfl
                have HD := Lib.hid hd; clear hd
                go_wp2
                go_roundw
                case rel => exact ⟨k + 1, k + 1, seg L s, by omega, by go_num, by go_num, Nat.le_refl _, HN2.out, by rw [HS.out, HD.out, ← HN.out]; exact HO2.out, HB2.out⟩
                case measure => simp [intOf] <;> omega
              · obtain ⟨n1, rfl⟩ : ∃ n1, n = n1 + 1 := ⟨n - 1, by omega⟩
                clear hn0
                go_wp2
                go_roundw
                case rel => exact ⟨k + 1, k + 1, seg L s, by omega, by go_num, by go_num, Nat.le_refl _, HN2.out, by rw [HS.out, List.length_dropLast, ← HN.out]; exact own_pop HO2.out HN.out, HB2.out⟩
                case measure => simp [intOf] <;> omega
          · have e0 : (p.extract fr k).toList.isEmpty = false := by rw [HXL.out]; cases s with | nil => exact absurd rfl c0 | cons a b => rfl
            have e1' : ((p.extract fr k).toList == [46]) = false := by rw [HXL.out]; exact beq_no c1
            have e2 : ((p.extract fr k).toList == [46, 46]) = false := by rw [HXL.out]; exact beq_no c2
            have HS := Lib.hid (seg_more (l := L) c0 c1 c2); clear c0 c1 c2
            go_wp2_with (at_builtin; go_loud (refine wpList_append_own _ rfl _ _ 37 rfl B 9 i0 (.string ⟨#[]⟩) 1 16 Tryd.underlying37 hi hz0 hz1 hz2 rfl (by decide) _ _ _ rfl (HO.out.alloc _) ⟨_, 0, none⟩ 1 1 [.string (p.extract fr k)] rfl rfl (cell_one_new _ _ _) (by simp [Value.oneCell']) (by unfold maxLen; omega) (by omega) (by have := HB2.out.size; simp; omega) ?_; intro v' w1 hown1 hg1 _; have HO1 := Lib.hid hown1; have HG1 := Lib.hid hg1; clear hown1 hg1))
            go_roundw
            case rel => exact ⟨k + 1, k + 1, seg L s, by omega, by go_num, by go_num, Nat.le_refl _, HN2.out, by rw [HS.out, strs_append, List.length_append]; have h := HO1.out; rw [← HXK.out] at h; exact h, (HB2.out.alloc (by have := HB2.out.size; omega) _).grown HG1.out (by have := HB2.out.size; simp; omega) (fun g hg => (HO.out.lt g hg).1)⟩
            case measure => simp [intOf] <;> omega
        · clear HT
          obtain ⟨sz, hsz⟩ : ∃ sz, sz = p.size := ⟨_, rfl⟩
          have hks : k = p.size := by omega
          clear hsz sz
          subst hks
          by_cases c0 : s = []
          · have e0 : (p.extract fr p.size).toList.isEmpty = true := by rw [HXL.out, c0]; rfl
            have HS := Lib.hid (seg_skip (l := L) (Or.inl c0)); clear c0
            go_wp2
            go_roundw
            case rel => exact ⟨p.size + 1, p.size + 1, seg L s, by omega, by go_num, by go_num, Nat.le_refl _, HN2.out, by rw [HS.out]; exact HO.out, HB2.out⟩
            case measure => simp [intOf] <;> omega
          by_cases c1 : s = [46]
          · have e0 : (p.extract fr p.size).toList.isEmpty = false := by rw [HXL.out, c1]; rfl
            have e1' : ((p.extract fr p.size).toList == [46]) = true := by rw [HXL.out, c1]; rfl
            have HS := Lib.hid (seg_skip (l := L) (Or.inr c1)); clear c1 c0
            go_wp2
            go_roundw
            case rel => exact ⟨p.size + 1, p.size + 1, seg L s, by omega, by go_num, by go_num, Nat.le_refl _, HN2.out, by rw [HS.out]; exact HO.out, HB2.out⟩
            case measure => simp [intOf] <;> omega
          by_cases c2 : s = [46, 46]
          · have e0 : (p.extract fr p.size).toList.isEmpty = false := by rw [HXL.out, c2]; rfl
            have e1' : ((p.extract fr p.size).toList == [46]) = false := by rw [HXL.out, c2]; rfl
            have e2 : ((p.extract fr p.size).toList == [46, 46]) = true := by rw [HXL.out, c2]; rfl
            have HS := Lib.hid (seg_up (l := L) c2); clear c0 c1 c2
            rcases own_forms HO.out with ⟨rfl, hz⟩ | ⟨g, cap, rfl⟩
            · have hd : L.dropLast = L := by rw [List.eq_nil_of_length_eq_zero hz]; rfl
              have HD := Lib.hid hd; clear hd hz
              go_wp2
              go_roundw
              case rel => exact ⟨p.size + 1, p.size + 1, seg L s, by omega, by go_num, by go_num, Nat.le_refl _, HN2.out, by rw [HS.out, HD.out]; exact HO.out, HB2.out⟩
              case measure => simp [intOf] <;> omega
            · obtain ⟨n, hn⟩ : ∃ n, n = L.length := ⟨_, rfl⟩
              have hown := HO.out
              rw [← hn] at hll hown ⊢
              have hncap := own_ncap hown
              have HO2 := Lib.hid hown; have HN := Lib.hid hn
              clear hown hn HO
              by_cases hn0 : n = 0
              · subst hn0
                have hd : L.dropLast = L := by rw [List.eq_nil_of_length_eq_zero HN.out.symm]; rfl
                have HD := Lib.hid hd; clear hd
                go_wp2
                go_roundw
                case rel => exact ⟨p.size + 1, p.size + 1, seg L s, by omega, by go_num, by go_num, Nat.le_refl _, HN2.out, by rw [HS.out, HD.out, ← HN.out]; exact HO2.out, HB2.out⟩
                case measure => simp [intOf] <;> omega
              · obtain ⟨n1, rfl⟩ : ∃ n1, n = n1 + 1 := ⟨n - 1, by omega⟩
                clear hn0
                go_wp2
                go_roundw
                case rel => exact ⟨p.size + 1, p.size + 1, seg L s, by omega, by go_num, by go_num, Nat.le_refl _, HN2.out, by rw [HS.out, List.length_dropLast, ← HN.out]; exact own_pop HO2.out HN.out, HB2.out⟩
                case measure => simp [intOf] <;> omega
          · have e0 : (p.extract fr p.size).toList.isEmpty = false := by rw [HXL.out]; cases s with | nil => exact absurd rfl c0 | cons a b => rfl
            have e1' : ((p.extract fr p.size).toList == [46]) = false := by rw [HXL.out]; exact beq_no c1
            have e2 : ((p.extract fr p.size).toList == [46, 46]) = false := by rw [HXL.out]; exact beq_no c2
            have HS := Lib.hid (seg_more (l := L) c0 c1 c2); clear c0 c1 c2
            go_wp2_with (at_builtin; go_loud (refine wpList_append_own _ rfl _ _ 37 rfl B 9 i0 (.string ⟨#[]⟩) 1 16 Tryd.underlying37 hi hz0 hz1 hz2 rfl (by decide) _ _ _ rfl (HO.out.alloc _) ⟨_, 0, none⟩ 1 1 [.string (p.extract fr p.size)] rfl rfl (cell_one_new _ _ _) (by simp [Value.oneCell']) (by unfold maxLen; omega) (by omega) (by have := HB2.out.size; simp; omega) ?_; intro v' w1 hown1 hg1 _; have HO1 := Lib.hid hown1; have HG1 := Lib.hid hg1; clear hown1 hg1))
            go_roundw
            case rel => exact ⟨p.size + 1, p.size + 1, seg L s, by omega, by go_num, by go_num, Nat.le_refl _, HN2.out, by rw [HS.out, strs_append, List.length_append]; have h := HO1.out; rw [← HXK.out] at h; exact h, (HB2.out.alloc (by have := HB2.out.size; omega) _).grown HG1.out (by have := HB2.out.size; simp; omega) (fun g hg => (HO.out.lt g hg).1)⟩
            case measure => simp [intOf] <;> omega
    · have hd := hinv.done (by omega)
      have HD := Lib.hid hd
      clear hd hinv hpl
      go_wp2
      go_ret
      exact ⟨_, rfl, by rw [HD.out]; exact HO.out, HB2.out⟩

set_option maxHeartbeats 400000 in
theorem refParts_any (cwd p : ByteArray) (w : World) (hc : cwd.size ≤ 10000000) (hp : p.size ≤ 10000000) :
    Calls Tryd.prog 32 #[.string cwd, .string p] w (RetOwnL w.heap.size (partsL cwd.data.toList p.data.toList) w) := by
  have hn0 : (namesL [] cwd.data.toList).length ≤ 20000000 := by
    have := namesL_length [] cwd.data.toList
    rw [← Lib.size_eq] at this
    simp at this; omega
  cases hb : Lib.hasPrefix p.data.toList [47]
  · have hpl := partsL_rel cwd.data.toList hb
    have HP := Lib.hid hpl; have HBP := Lib.hid hb; clear hpl hb
    go_enter Tryd.func32, Tryd.ntmps32
    go_wp2_with (go_at_call 22; refine (begins_any _ _ _).mono ?_; rintro e w' ⟨rfl, rfl⟩; rw [HBP.out])
    refine (names_any _ [] cwd w.heap.size _ hc (by simp) (Nat.le_refl _) (World.ownsRow_nil _ _ _ _)).mono ?_
    rintro e w1 ⟨v1, rfl, hown1, hb1⟩
    have HO1 := Lib.hid hown1; have HB1 := Lib.hid hb1; clear hown1 hb1
    go_wp2_with fail
    refine (names_any _ _ p w.heap.size _ hp hn0 HB1.out.size HO1.out).mono ?_
    rintro e w2 ⟨v2, rfl, hown2, hb2⟩
    have HO2 := Lib.hid hown2; have HB2 := Lib.hid hb2; clear hown2 hb2
    go_wp2
    go_ret
    exact ⟨_, rfl, by rw [HP.out]; exact HO2.out, HB1.out.trans HB2.out⟩
  · have hpl : partsL cwd.data.toList p.data.toList = namesL [] p.data.toList := by unfold partsL; rw [if_pos hb]
    have HP := Lib.hid hpl; have HBP := Lib.hid hb; clear hpl hb
    go_enter Tryd.func32, Tryd.ntmps32
    go_wp2_with (go_at_call 22; refine (begins_any _ _ _).mono ?_; rintro e w' ⟨rfl, rfl⟩; rw [HBP.out])
    refine (names_any _ [] p w.heap.size _ hp (by simp) (Nat.le_refl _) (World.ownsRow_nil _ _ _ _)).mono ?_
    rintro e w1 ⟨v1, rfl, hown1, hb1⟩
    have HO1 := Lib.hid hown1; have HB1 := Lib.hid hb1; clear hown1 hb1
    go_wp2
    go_ret
    exact ⟨_, rfl, by rw [HP.out]; exact HO1.out, HB1.out⟩
end Go.Proofs.YtlaijghfcbjbpaaDoor
