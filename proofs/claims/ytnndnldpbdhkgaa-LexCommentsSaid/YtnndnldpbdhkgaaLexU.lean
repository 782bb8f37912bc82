/-
  The contract of name: a parameter's name.
-/
import Derived.Test.YtnndnldpbdhkgaaLexT
import Derived.Lib.IndexBytes
namespace Go.Proofs.Ytnndnldpbdhkgaa
open Go.RowKit
set_option linter.unusedVariables false

theorem tailRun_le (l : List UInt8) : tailRun l ≤ l.length := by
  induction l with
  | nil => exact Nat.le_refl _
  | cons c t ih => simp only [tailRun, List.length_cons]; split <;> omega
theorem digRun_le (l : List UInt8) : digRun l ≤ l.length := by
  induction l with
  | nil => exact Nat.le_refl _
  | cons c t ih => simp only [digRun, List.length_cons]; split <;> omega
theorem runF_le (l : List UInt8) : runF l ≤ l.length := by
  cases l with
  | nil => exact Nat.le_refl _
  | cons c t =>
    have := tailRun_le t
    simp only [runF, List.length_cons]; split <;> omega
theorem nameF_le (b : Bool) (l : List UInt8) : nameF b l ≤ l.length := by
  unfold nameF
  have := runF_le l
  split
  · exact this
  · cases l with
    | nil => exact Nat.le_refl _
    | cons c t =>
      have := digRun_le t
      simp only [List.length_cons]
      split
      · split <;> omega
      · split <;> omega

/-- How far digits have come. -/
def DigAt (l : List UInt8) (k : Nat) : Prop := 1 ≤ k ∧ k ≤ l.length ∧ digRun (l.drop 1) + 1 = k + digRun (l.drop k)
theorem DigAt.next {l : List UInt8} {k : Nat} {c : UInt8} (h : DigAt l k) (hk : l[k]? = some c) (hc : digitB c = true) : DigAt l (k + 1) := by
  have hlt := (List.getElem?_eq_some_iff.1 hk).1
  have hd := drop_at hk
  refine ⟨by omega, hlt, ?_⟩
  have := h.2.2
  rw [this, hd, digRun, if_pos hc]
  omega
theorem DigAt.stop {l : List UInt8} {k : Nat} {c : UInt8} (h : DigAt l k) (hk : l[k]? = some c) (hc : digitB c = false) : digRun (l.drop 1) + 1 = k := by
  rw [h.2.2, drop_at hk, digRun, hc]; simp
theorem DigAt.over {l : List UInt8} {k : Nat} (h : DigAt l k) (hk : k = l.length) : digRun (l.drop 1) + 1 = k := by
  rw [h.2.2, hk, List.drop_length]; rfl

theorem special_amid (c : UInt8) : amid ⟨#[63, 35, 64, 42]⟩ c = specialB c := by
  have h : ∀ n : Fin 256, amid ⟨#[63, 35, 64, 42]⟩ (UInt8.ofNat n.val) = specialB (UInt8.ofNat n.val) := by decide +kernel
  have := h ⟨c.toNat, c.toNat_lt⟩
  simpa using this

def NamePost (w : World) (b : Nat) (s : ByteArray) (i k : Nat) (d : Int) (e : Ending) (w' : World) : Prop :=
  ∃ r : ByteArray, e = .returned (.string r) ∧ r.data.toList = (rest s i).take k ∧ ScanAt w' b s ((i + k : Nat) : Int) d ∧ Keeps (fun k => k = b) w w'

theorem name_close {w : World} {b : Nat} {s R : ByteArray} {i k n : Nat} {d j : Int} (hR : R.data.toList = rest s i) (h : ScanAt w b s i d) (hj : j = ((i + k : Nat) : Int)) :
    NamePost w b s i k d (.returned (.string (R.extract 0 k))) ((w.drewN n).setCell ⟨b, 1, none⟩ (.int .i64 j)) := by
  refine ⟨_, rfl, ?_, scan_end h n hj.symm, keep_end _ _ _ _ _⟩
  rw [Lib.extract_data, hR, List.drop_zero, Nat.sub_zero]

theorem name_close0 {w : World} {b : Nat} {s : ByteArray} {i k n : Nat} {d : Int} (hk : k = 0) (h : ScanAt w b s i d) :
    NamePost w b s i k d (.returned (.string ByteArray.empty)) ((w.drewN n).setCell ⟨b, 1, none⟩ (.int .i64 (i : Int))) := by
  subst hk
  exact ⟨_, rfl, rfl, scan_end h n rfl, keep_end _ _ _ _ _⟩
theorem name_close1 {w : World} {b : Nat} {s R : ByteArray} {i k n : Nat} {d : Int} (hk : k = 1) (hR : R.data.toList = rest s i) (h : ScanAt w b s i d) :
    NamePost w b s i k d (.returned (.string (R.extract 0 1))) ((w.drewN n).setCell ⟨b, 1, none⟩ (.int .i64 ((i : Int) + 1))) := by
  subst hk
  exact name_close hR h (by omega)

theorem name_closej {w : World} {b : Nat} {s R : ByteArray} {i k j n : Nat} {d : Int} (hk : k = j) (hR : R.data.toList = rest s i) (h : ScanAt w b s i d) :
    NamePost w b s i k d (.returned (.string (R.extract 0 j))) ((w.drewN n).setCell ⟨b, 1, none⟩ (.int .i64 ((i : Int) + (j : Int)))) := by
  subst hk
  exact name_close hR h (by omega)

set_option maxHeartbeats 4000000 in
theorem name_any (b : Nat) (s : ByteArray) (i : Nat) (d : Int) (w : World) (br : Bool) (h : ScanAt w b s i d) (hs : s.size ≤ 140737488351232) (hi : i ≤ s.size) (k : Nat) (hk : nameF br (rest s i) = k) :
    Calls Try.prog 68 #[.pointer (some ⟨b, 0, none⟩), .bool br] w (NamePost w b s i k d) := by
  obtain ⟨c0, c1, c2, f1, f2⟩ := h.cells
  have hkl : k ≤ s.size - i := by rw [← hk, ← rest_len]; exact nameF_le _ _
  obtain ⟨R, hRe⟩ : ∃ R, R = s.extract i s.size := ⟨_, rfl⟩
  have hR : R.data.toList = rest s i := by rw [hRe, Lib.extract_to_end]; rfl
  have hRs : R.size = s.size - i := by rw [Lib.size_eq, hR, rest_len]
  have HRE := Lib.hid hRe
  have HR := Lib.hid hR
  have hle : k ≤ R.size := by omega
  have hRs2 : R.size ≤ 140737488351232 := by omega
  have HRS := Lib.hid hRs
  clear hRe hR hRs
  by_cases hrun : 0 < runF (rest s i)
  · have hkk : runF (rest s i) = k := by rw [← hk]; unfold nameF; rw [if_pos hrun]
    have HK := Lib.hid hkk
    rw [hkk] at hrun
    clear hk hkk
    go_enter Try.func68, Try.ntmps68
    go_wp2_with fail
    go_quiet (fail)
    go_wp2_with fail
    rw [← HRE.out]
    refine (run_any R _ hRs2).mono ?_
    rintro e w1 ⟨rfl, rfl⟩
    rw [HR.out, HK.out]
    go_wp2_with fail
    go_ret
    exact name_close HR.out h (by omega)
  · have h0 : runF (rest s i) = 0 := by omega
    rcases Nat.lt_or_ge i s.size with hi2 | hi2
    · obtain ⟨c, t, hrest⟩ : ∃ c t, rest s i = c :: t := by
        cases hr : rest s i with
        | nil =>
          have := rest_len s i
          rw [hr] at this
          simp at this; omega
        | cons c t => exact ⟨c, t, rfl⟩
      have hc : byteAt s i = c := by rw [byteAt_rest, hrest]; rfl
      have hR0 : R[0]'(by have := HRS.out; omega) = c := by
        have := byte_get (s := R) (k := 0) (by have := HRS.out; omega)
        rw [HR.out, hrest] at this
        simpa using this.symm
      have hpos : 0 < R.size := by have := HRS.out; omega
      have hpos2 : (0 : Int) < (R.size : Int) := by omega
      have he : decide (s.size ≤ i) = false := decide_eq_false (by omega)
      have HE := Lib.hid he; clear he
      have H0 := Lib.hid h0
      cases hdg : digitB c
      · cases hsp : specialB c
        · have hkk : k = 0 := by
            rw [← hk]; unfold nameF
            rw [h0, if_neg (by omega), hrest]
            simp [hdg, hsp]
          have HK := Lib.hid hkk
          have HD := Lib.hid hdg
          have HS := Lib.hid hsp
          have HR0 := Lib.hid hR0
          have HC := Lib.hid hc
          clear hk hkk hdg hsp hR0 hc h0 hrun hrest
          go_enter Try.func68, Try.ntmps68
          go_wp2_with fail
          go_quiet (fail)
          go_wp2_with fail
          rw [← HRE.out]
          refine (run_any R _ hRs2).mono ?_
          rintro e w1 ⟨rfl, rfl⟩
          rw [HR.out, H0.out]
          go_wp2_with fail
          refine (end_any b s i d _ (h.drewN _)).mono ?_
          rintro e w1 ⟨rfl, q, rfl⟩
          rw [HE.out]
          go_wp2_with fail
          rw [HR0.out]
          refine (digit_any c _).mono ?_
          rintro e w1 ⟨rfl, rfl⟩
          rw [HD.out]
          go_wp2_with fail
          refine (among_in b s _ i d _ ((h.drewN _)) hs hi2 false (by rw [HC.out, special_amid]; exact HS.out)).mono ?_
          rintro e w1 ⟨rfl, q2, rfl⟩
          go_wp2_with fail
          go_ret
          exact name_close0 HK.out h
        · have hkk : k = 1 := by
            rw [← hk]; unfold nameF
            rw [h0, if_neg (by omega), hrest]
            simp [hdg, hsp]
          have HK := Lib.hid hkk
          have HD := Lib.hid hdg
          have HS := Lib.hid hsp
          have HR0 := Lib.hid hR0
          have HC := Lib.hid hc
          clear hk hkk hdg hsp hR0 hc h0 hrun hrest
          go_enter Try.func68, Try.ntmps68
          go_wp2_with fail
          go_quiet (fail)
          go_wp2_with fail
          rw [← HRE.out]
          refine (run_any R _ hRs2).mono ?_
          rintro e w1 ⟨rfl, rfl⟩
          rw [HR.out, H0.out]
          go_wp2_with fail
          refine (end_any b s i d _ (h.drewN _)).mono ?_
          rintro e w1 ⟨rfl, q, rfl⟩
          rw [HE.out]
          go_wp2_with fail
          rw [HR0.out]
          refine (digit_any c _).mono ?_
          rintro e w1 ⟨rfl, rfl⟩
          rw [HD.out]
          go_wp2_with fail
          refine (among_in b s _ i d _ ((h.drewN _)) hs hi2 true (by rw [HC.out, special_amid]; exact HS.out)).mono ?_
          rintro e w1 ⟨rfl, q2, rfl⟩
          go_wp2_with fail
          go_ret
          exact name_close1 HK.out HR.out h
      · cases br
        · have hkk : k = 1 := by
            rw [← hk]; unfold nameF
            rw [h0, if_neg (by omega), hrest]
            simp [hdg]
          have HK := Lib.hid hkk
          have HD := Lib.hid hdg
          have HR0 := Lib.hid hR0
          have HC := Lib.hid hc
          clear hk hkk hdg hR0 hc h0 hrun hrest
          go_enter Try.func68, Try.ntmps68
          go_wp2_with fail
          go_quiet (fail)
          go_wp2_with fail
          rw [← HRE.out]
          refine (run_any R _ hRs2).mono ?_
          rintro e w1 ⟨rfl, rfl⟩
          rw [HR.out, H0.out]
          go_wp2_with fail
          refine (end_any b s i d _ (h.drewN _)).mono ?_
          rintro e w1 ⟨rfl, q, rfl⟩
          rw [HE.out]
          go_wp2_with fail
          rw [HR0.out]
          refine (digit_any c _).mono ?_
          rintro e w1 ⟨rfl, rfl⟩
          rw [HD.out]
          go_wp2_with fail
          go_loop [6] (fun n => n = .int .i64 1) (fun _ => 0)
          case atStart => rfl
          case round =>
            subst hrel
            go_wp2_with fail
            go_ret
            exact name_close1 HK.out HR.out h
        · have hkk : k = digRun t + 1 := by
            rw [← hk]; unfold nameF
            rw [h0, if_neg (by omega), hrest]
            simp [hdg]
          have HK := Lib.hid hkk
          have HD := Lib.hid hdg
          have HR0 := Lib.hid hR0
          have HC := Lib.hid hc
          have HT := Lib.hid hrest
          clear hk hkk hdg hR0 hc h0 hrun hrest
          go_enter Try.func68, Try.ntmps68
          go_wp2_with fail
          go_quiet (fail)
          go_wp2_with fail
          rw [← HRE.out]
          refine (run_any R _ hRs2).mono ?_
          rintro e w1 ⟨rfl, rfl⟩
          rw [HR.out, H0.out]
          go_wp2_with fail
          refine (end_any b s i d _ (h.drewN _)).mono ?_
          rintro e w1 ⟨rfl, q, rfl⟩
          rw [HE.out]
          go_wp2_with fail
          rw [HR0.out]
          refine (digit_any c _).mono ?_
          rintro e w1 ⟨rfl, rfl⟩
          rw [HD.out]
          go_wp2_with fail
          have hd1 : t.length + 1 = s.size - i := by have := rest_len s i; rw [HT.out] at this; simpa using this
          go_loop [6] (fun n => ∃ j : Nat, n = .int .i64 j ∧ Hid (DigAt (rest s i) j)) (fun n => R.size - (intOf n).toNat)
          case atStart => exact ⟨1, rfl, Lib.hid ⟨Nat.le_refl _, by rw [HT.out]; simp, by rw [HT.out]; simp; omega⟩⟩
          case round =>
            obtain ⟨j, rfl, HJ⟩ := hrel
            have hj1 := HJ.out.1
            have hj2 := HJ.out.2.1
            rw [rest_len] at hj2
            by_cases hlt : j < R.size
            · have hg := byte_get (s := R) hlt
              rw [HR.out] at hg
              have HG := Lib.hid hg; clear hg
              have p1 : (j : Int) < (R.size : Int) := by omega
              cases hdj : digitB R[j]
              · have hkj : k = j := by
                  have := HJ.out.stop HG.out hdj
                  rw [HT.out] at this
                  rw [HK.out]; simpa using this
                have HDJ := Lib.hid hdj
                have HKJ := Lib.hid hkj
                clear hdj hkj
                go_wp2_with fail
                refine (digit_any R[j] _).mono ?_
                rintro e w1 ⟨rfl, rfl⟩
                rw [HDJ.out]
                go_wp2_with fail
                go_ret
                exact name_closej HKJ.out HR.out h
              · have hn := HJ.out.next HG.out hdj
                have HN := Lib.hid hn
                have HDJ := Lib.hid hdj
                clear hdj hn
                go_wp2_with fail
                refine (digit_any R[j] _).mono ?_
                rintro e w1 ⟨rfl, rfl⟩
                rw [HDJ.out]
                go_wp2_with fail
                go_round
                case rel => exact ⟨j + 1, by go_num, HN⟩
                case measure => simp [intOf]; omega
            · have hkj : k = j := by
                have := HJ.out.over (by rw [rest_len]; have := HRS.out; omega)
                rw [HT.out] at this
                rw [HK.out]; simpa using this
              have HKJ := Lib.hid hkj
              have hj3 : j ≤ R.size := by have := HRS.out; omega
              clear hkj
              go_wp2_with fail
              go_ret
              exact name_closej HKJ.out HR.out h
    · have hrest : rest s i = [] := List.eq_nil_of_length_eq_zero (by rw [rest_len]; omega)
      have hkk : k = 0 := by
        rw [← hk]; unfold nameF
        rw [h0, if_neg (by omega), hrest]
      have he : decide (s.size ≤ i) = true := decide_eq_true (by omega)
      have HE := Lib.hid he
      have HK := Lib.hid hkk
      have H0 := Lib.hid h0
      clear hk hkk h0 hrun hrest he
      go_enter Try.func68, Try.ntmps68
      go_wp2_with fail
      go_quiet (fail)
      go_wp2_with fail
      rw [← HRE.out]
      refine (run_any R _ hRs2).mono ?_
      rintro e w1 ⟨rfl, rfl⟩
      rw [HR.out, H0.out]
      go_wp2_with fail
      refine (end_any b s i d _ (h.drewN _)).mono ?_
      rintro e w1 ⟨rfl, q, rfl⟩
      rw [HE.out]
      go_wp2_with fail
      go_ret
      exact name_close0 HK.out h
end Go.Proofs.Ytnndnldpbdhkgaa
