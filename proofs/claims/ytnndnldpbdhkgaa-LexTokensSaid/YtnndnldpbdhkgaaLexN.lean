/-
  The contracts of vars.Start, Digit, Run, and of the reference's letter, Digit, NameLen.
-/
import Derived.Test.YtnndnldpbdhkgaaLexC
namespace Go.Proofs.Ytnndnldpbdhkgaa
open Go.RowKit
set_option linter.unusedVariables false

theorem ret_bool {a b : Bool} (h : a = b) : Ending.returned (.bool a) = .returned (.bool b) := by rw [h]
theorem ret_i64 {a b : Int} (h : a = b) : Ending.returned (.int .i64 a) = .returned (.int .i64 b) := by rw [h]
theorem digit_any (c : UInt8) (w : World) :
    Calls Try.prog 80 #[.int .u8 (c.toNat : Nat)] w fun e w' => e = .returned (.bool (digitB c)) ∧ w = w' := by
  unfold digitB
  generalize c.toNat = n
  go_enter Try.func80, Try.ntmps80
  go_wp2
  all_goals (go_ret; exact ⟨ret_bool (by rw [Bool.eq_iff_iff]; simp; omega), rfl⟩)
theorem start_any (c : UInt8) (w : World) :
    Calls Try.prog 82 #[.int .u8 (c.toNat : Nat)] w fun e w' => e = .returned (.bool (letterB c)) ∧ w = w' := by
  unfold letterB
  generalize c.toNat = n
  go_enter Try.func82, Try.ntmps82
  go_wp2
  all_goals (go_ret; exact ⟨ret_bool (by rw [Bool.eq_iff_iff]; simp; omega), rfl⟩)
theorem rdigit_any (c : UInt8) (w : World) :
    Calls Try.prog 60 #[.int .u8 (c.toNat : Nat)] w fun e w' => e = .returned (.bool (digitB c)) ∧ w = w' := by
  unfold digitB
  generalize c.toNat = n
  go_enter Try.func60, Try.ntmps60
  go_wp2
  all_goals (go_ret; exact ⟨ret_bool (by rw [Bool.eq_iff_iff]; simp; omega), rfl⟩)
theorem letter_any (c : UInt8) (w : World) :
    Calls Try.prog 71 #[.int .u8 (c.toNat : Nat)] w fun e w' => e = .returned (.bool (letterB c)) ∧ w = w' := by
  unfold letterB
  generalize c.toNat = n
  go_enter Try.func71, Try.ntmps71
  go_wp2
  all_goals (go_ret; exact ⟨ret_bool (by rw [Bool.eq_iff_iff]; simp; omega), rfl⟩)

/-- How far the run has come. -/
def RunAt (l : List UInt8) (k : Nat) : Prop := k ≤ l.length ∧ (k = 0 ∨ 1 ≤ k ∧ runF l = k + tailRun (l.drop k))
theorem RunAt.start (l : List UInt8) : RunAt l 0 := ⟨Nat.zero_le _, .inl rfl⟩
theorem drop_at {l : List UInt8} {k : Nat} {c : UInt8} (hk : l[k]? = some c) : l.drop k = c :: l.drop (k + 1) := by
  have h := (List.getElem?_eq_some_iff.1 hk)
  obtain ⟨h1, h2⟩ := h
  rw [List.drop_eq_getElem_cons h1, h2]
theorem runF_cons (c : UInt8) (t : List UInt8) : runF (c :: t) = if letterB c then tailRun t + 1 else 0 := rfl
theorem RunAt.next {l : List UInt8} {k : Nat} {c : UInt8} (h : RunAt l k) (hk : l[k]? = some c) (hc : (letterB c || decide (0 < k) && digitB c) = true) : RunAt l (k + 1) := by
  have hlt := (List.getElem?_eq_some_iff.1 hk).1
  have hd := drop_at hk
  refine ⟨hlt, .inr ⟨by omega, ?_⟩⟩
  rcases h.2 with rfl | ⟨h1, h2⟩
  · have e : letterB c = true := by simpa using hc
    rw [List.drop_zero] at hd
    rw [hd, runF_cons, if_pos e]
    simp; omega
  · rw [h2, hd]
    rw [tailRun, if_pos (by cases hl : letterB c <;> rw [hl] at hc <;> simp at hc ⊢; exact hc.2)]
    omega
theorem RunAt.stop {l : List UInt8} {k : Nat} {c : UInt8} (h : RunAt l k) (hk : l[k]? = some c) (hc : (letterB c || decide (0 < k) && digitB c) = false) : runF l = k := by
  have hd := drop_at hk
  have hl : letterB c = false := by cases e : letterB c; rfl; rw [e] at hc; simp at hc
  rcases h.2 with rfl | ⟨h1, h2⟩
  · rw [List.drop_zero] at hd
    rw [hd, runF_cons, hl]; rfl
  · have hg : digitB c = false := by rw [hl, decide_eq_true (by omega : 0 < k)] at hc; simpa using hc
    rw [h2, hd, tailRun, hl, hg]; simp
theorem RunAt.over {l : List UInt8} {k : Nat} (h : RunAt l k) (hk : k = l.length) : runF l = k := by
  rcases h.2 with rfl | ⟨h1, h2⟩
  · have : l = [] := List.eq_nil_of_length_eq_zero hk.symm
    rw [this]; rfl
  · rw [h2, hk, List.drop_length]; rfl
theorem byte_get {s : ByteArray} {k : Nat} (hk : k < s.size) : s.data.toList[k]? = some s[k] := by
  have h' : k < s.data.toList.length := by simpa using hk
  rw [List.getElem?_eq_getElem h']
  simp
  rfl

set_option maxHeartbeats 1000000 in
theorem run_any (s : ByteArray) (w : World) (hs : s.size ≤ 140737488351232) :
    Calls Try.prog 79 #[.string s] w fun e w' => e = .returned (.int .i64 (runF s.data.toList)) ∧ w = w' := by
  generalize hR : runF s.data.toList = R
  have HR := Lib.hid hR; clear hR
  go_enter Try.func79, Try.ntmps79
  go_wp2_with fail
  go_loop [3] (fun i => ∃ k : Nat, i = .int .i64 k ∧ Hid (RunAt s.data.toList k)) (fun i => s.size - (intOf i).toNat)
  case atStart => exact ⟨0, rfl, Lib.hid (RunAt.start _)⟩
  case round =>
    obtain ⟨k, rfl, HK⟩ := hrel
    have hk := HK.out.1
    rw [← Lib.size_eq] at hk
    by_cases hlt : k < s.size
    · have HG := Lib.hid (byte_get hlt)
      cases hl : letterB s[k]
      · have HL := Lib.hid hl; clear hl
        by_cases h0 : 0 < k
        · cases hd : digitB s[k]
          · have hr : (k : Nat) = R := by rw [← HR.out]; exact (HK.out.stop HG.out (by rw [HL.out, hd]; simp)).symm
            have HD := Lib.hid hd; clear hd
            have HRR := Lib.hid hr; clear hr
            go_wp2_with (first | (go_at_call 82; refine (start_any _ _).mono ?_; rintro e w1 ⟨rfl, rfl⟩; rw [HL.out]) | (go_at_call 80; refine (digit_any _ _).mono ?_; rintro e w1 ⟨rfl, rfl⟩; rw [HD.out]))
            go_ret
            exact ⟨ret_i64 (by rw [HRR.out]), rfl⟩
          · have hn := HK.out.next HG.out (by rw [HL.out, hd, decide_eq_true h0]; rfl)
            have HN := Lib.hid hn; clear hn
            have HD := Lib.hid hd; clear hd
            go_wp2_with (first | (go_at_call 82; refine (start_any _ _).mono ?_; rintro e w1 ⟨rfl, rfl⟩; rw [HL.out]) | (go_at_call 80; refine (digit_any _ _).mono ?_; rintro e w1 ⟨rfl, rfl⟩; rw [HD.out]))
            go_round
            case rel => exact ⟨k + 1, by go_num, HN⟩
            case measure => simp [intOf]; omega
        · obtain rfl : k = 0 := by omega
          have hr : (0 : Nat) = R := by rw [← HR.out]; exact (HK.out.stop HG.out (by rw [HL.out]; simp)).symm
          have HRR := Lib.hid hr; clear hr
          go_wp2_with (first | (go_at_call 82; refine (start_any _ _).mono ?_; rintro e w1 ⟨rfl, rfl⟩; rw [HL.out]) | (go_at_call 80; refine (digit_any _ _).mono ?_; rintro e w1 ⟨rfl, rfl⟩; rw [HD.out]))
          go_ret
          exact ⟨ret_i64 (by rw [← HRR.out]; rfl), rfl⟩
      · have hn := HK.out.next HG.out (by rw [hl]; rfl)
        have HN := Lib.hid hn; clear hn
        have HL := Lib.hid hl; clear hl
        go_wp2_with (first | (go_at_call 82; refine (start_any _ _).mono ?_; rintro e w1 ⟨rfl, rfl⟩; rw [HL.out]))
        go_round
        case rel => exact ⟨k + 1, by go_num, HN⟩
        case measure => simp [intOf]; omega
    · have hr : (k : Nat) = R := by rw [← HR.out]; exact (HK.out.over (by rw [← Lib.size_eq]; omega)).symm
      have HRR := Lib.hid hr; clear hr
      go_wp2_with fail
      go_ret
      exact ⟨ret_i64 (by rw [HRR.out]), rfl⟩

theorem rest_get {s : ByteArray} {i k : Nat} (hk : i + k < s.size) : (rest s i)[k]? = some s[i + k] := by
  unfold rest
  rw [List.getElem?_drop, byte_get hk]

set_option maxHeartbeats 1000000 in
theorem nameLen_any (s : ByteArray) (i : Nat) (w : World) (hs : s.size ≤ 140737488351232) (hi : i ≤ s.size) :
    Calls Try.prog 59 #[.string s, .int .i64 i] w fun e w' => e = .returned (.int .i64 (runF (rest s i))) ∧ w = w' := by
  generalize hR : runF (rest s i) = R
  have HR := Lib.hid hR; clear hR
  have hlen := rest_len s i
  have HLEN := Lib.hid hlen; clear hlen
  go_enter Try.func59, Try.ntmps59
  go_wp2_with fail
  go_loop [5] (fun n => ∃ k : Nat, n = .int .i64 k ∧ Hid (RunAt (rest s i) k)) (fun n => s.size - i - (intOf n).toNat)
  case atStart => exact ⟨0, rfl, Lib.hid (RunAt.start _)⟩
  case round =>
    obtain ⟨k, rfl, HK⟩ := hrel
    have hk := HK.out.1
    rw [HLEN.out] at hk
    have e2 : ((i : Int) + (k : Int)).toNat = i + k := by omega
    have p0 : 0 ≤ (i : Int) + (k : Int) := by omega
    by_cases hlt : i + k < s.size
    · have HG := Lib.hid (rest_get hlt)
      have p1 : (i : Int) + (k : Int) < (s.size : Int) := by omega
      cases hl : letterB s[i + k]
      · have HL := Lib.hid hl; clear hl
        by_cases h0 : 0 < k
        · cases hd : digitB s[i + k]
          · have hr : (k : Nat) = R := by rw [← HR.out]; exact (HK.out.stop HG.out (by rw [HL.out, hd]; simp)).symm
            have HD := Lib.hid hd; clear hd
            have HRR := Lib.hid hr; clear hr
            go_wp2_with (first | (go_at_call 71; refine (letter_any _ _).mono ?_; rintro e w1 ⟨rfl, rfl⟩; rw [HL.out]) | (go_at_call 60; refine (rdigit_any _ _).mono ?_; rintro e w1 ⟨rfl, rfl⟩; rw [HD.out]))
            go_ret
            exact ⟨ret_i64 (by rw [HRR.out]), rfl⟩
          · have hn := HK.out.next HG.out (by rw [HL.out, hd, decide_eq_true h0]; rfl)
            have HN := Lib.hid hn; clear hn
            have HD := Lib.hid hd; clear hd
            go_wp2_with (first | (go_at_call 71; refine (letter_any _ _).mono ?_; rintro e w1 ⟨rfl, rfl⟩; rw [HL.out]) | (go_at_call 60; refine (rdigit_any _ _).mono ?_; rintro e w1 ⟨rfl, rfl⟩; rw [HD.out]))
            go_round
            case rel => exact ⟨k + 1, by go_num, HN⟩
            case measure => simp [intOf]; omega
        · obtain rfl : k = 0 := by omega
          have hr : (0 : Nat) = R := by rw [← HR.out]; exact (HK.out.stop HG.out (by rw [HL.out]; simp)).symm
          have HRR := Lib.hid hr; clear hr
          go_wp2_with (first | (go_at_call 71; refine (letter_any _ _).mono ?_; rintro e w1 ⟨rfl, rfl⟩; first | rw [HL.out] | (simp only [Nat.add_zero] at HL; rw [HL.out])))
          go_ret
          exact ⟨ret_i64 (by rw [← HRR.out]; rfl), rfl⟩
      · have hn := HK.out.next HG.out (by rw [hl]; rfl)
        have HN := Lib.hid hn; clear hn
        have HL := Lib.hid hl; clear hl
        go_wp2_with (first | (go_at_call 71; refine (letter_any _ _).mono ?_; rintro e w1 ⟨rfl, rfl⟩; rw [HL.out]))
        go_round
        case rel => exact ⟨k + 1, by go_num, HN⟩
        case measure => simp [intOf]; omega
    · have hr : (k : Nat) = R := by rw [← HR.out]; exact (HK.out.over (by rw [HLEN.out]; omega)).symm
      have HRR := Lib.hid hr; clear hr
      go_wp2_with fail
      go_ret
      exact ⟨ret_i64 (by rw [HRR.out]), rfl⟩
end Go.Proofs.Ytnndnldpbdhkgaa
