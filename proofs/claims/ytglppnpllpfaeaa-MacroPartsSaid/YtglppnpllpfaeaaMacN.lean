/-
  Names of macros: the program's Name, and the document's.
-/
import Derived.Test.YtglppnpllpfaeaaMacO
namespace Go.Proofs.Ytglppnpllpfaeaa
open Go.RowKit
set_option linter.unusedVariables false

/-- A byte of a name. -/
def nameB (c : UInt8) : Bool := (97 ≤ c.toNat && c.toNat ≤ 122) || (65 ≤ c.toNat && c.toNat ≤ 90) || (48 ≤ c.toNat && c.toNat ≤ 57) || c.toNat == 95 || c.toNat == 46 || c.toNat == 45
def digB (c : UInt8) : Bool := 48 ≤ c.toNat && c.toNat ≤ 57
def nameF (s : Bs) : Bool := !s.isEmpty && decide (s.length ≤ 60) && s.all nameB
theorem nameF_no {s : ByteArray} {i : Nat} (hi : i < s.size) (h : nameB (byteAt s i) = false) : nameF s.data.toList = false := by
  have hm : byteAt s i ∈ s.data.toList := by
    unfold byteAt
    have h' : i < s.data.toList.length := by rw [← Lib.size_eq]; exact hi
    rw [List.getD_eq_getElem?_getD, List.getElem?_eq_getElem h']
    exact List.getElem_mem _
  have : s.data.toList.all nameB = false := by
    rw [List.all_eq_false]
    exact ⟨_, hm, by rw [h]; simp⟩
  unfold nameF
  rw [this, Bool.and_false]
theorem nameF_all {s : ByteArray} (h : ∀ j, j < s.size → nameB (byteAt s j) = true) : nameF s.data.toList = (!s.data.toList.isEmpty && decide (s.size ≤ 60)) := by
  have : s.data.toList.all nameB = true := by
    rw [List.all_eq_true]
    intro c hc
    obtain ⟨j, hj⟩ := List.mem_iff_getElem?.1 hc
    have h2 := h j (by rw [Lib.size_eq]; exact (List.getElem?_eq_some_iff.1 hj).1)
    unfold byteAt at h2
    rw [List.getD_eq_getElem?_getD, hj] at h2
    exact h2
  unfold nameF
  rw [this, Bool.and_true, ← Lib.size_eq]
theorem digit_any (c : UInt8) (w : World) :
    Calls Try.prog 25 #[.int .u8 (c.toNat : Nat)] w fun e w' => e = .returned (.bool (digB c)) ∧ w' = w := by
  unfold digB
  generalize c.toNat = n
  go_enter Try.func25, Try.ntmps25
  go_wp2
  all_goals (go_ret; exact ⟨ret_bool (by rw [Bool.eq_iff_iff]; simp; omega), rfl⟩)
set_option maxRecDepth 100000 in
set_option maxHeartbeats 8000000 in
theorem refName_any (s : ByteArray) (w : World) (hs : s.size ≤ 140737488351232) :
    Calls Try.prog 20 #[.string s] w fun e w' => e = .returned (.bool (nameF s.data.toList)) ∧ w' = w := by
  obtain ⟨res, hres⟩ : ∃ res, res = nameF s.data.toList := ⟨_, rfl⟩
  rw [← hres]
  have HNO := Lib.hid (show ∀ i, i < s.size → nameB (byteAt s i) = false → res = false from fun i hi h => by rw [hres]; exact nameF_no hi h)
  have HALL := Lib.hid (show (∀ j, j < s.size → nameB (byteAt s j) = true) → res = (!s.data.toList.isEmpty && decide (s.size ≤ 60)) from fun h => by rw [hres]; exact nameF_all h)
  clear hres
  go_enter Try.func20, Try.ntmps20
  go_wp2_with fail
  go_loopw [3] (fun i' wr => ∃ i : Nat, i' = .int .i64 i ∧ i ≤ s.size ∧ Hid (∀ j, j < i → nameB (byteAt s j) = true) ∧ w = wr) (fun i' _ => s.size - (intOf i').toNat)
  case atStart => exact ⟨0, rfl, Nat.zero_le _, Lib.hid (fun j hj => absurd hj (Nat.not_lt_zero _)), rfl⟩
  case round =>
    obtain ⟨i, rfl, hi, HL, hw⟩ := hrel
    subst hw
    rcases Nat.lt_or_ge i s.size with hlt | hge
    · have p1 : (i : Int) < (s.size : Int) := by omega
      have hb := byteAt_in hlt
      obtain ⟨c, hx⟩ : ∃ c, c = byteAt s i := ⟨_, rfl⟩
      rw [← hx] at hb
      have HX := Lib.hid hx
      clear hx
      have hcl : (97 ≤ c.toNat ∧ c.toNat ≤ 122) ∨ (65 ≤ c.toNat ∧ c.toNat ≤ 90) ∨ (48 ≤ c.toNat ∧ c.toNat ≤ 57) ∨ (c.toNat = 95) ∨ (c.toNat = 46) ∨ (c.toNat = 45) ∨ (c.toNat ≤ 44) ∨ (c.toNat = 47) ∨ (58 ≤ c.toNat ∧ c.toNat ≤ 64) ∨ (91 ≤ c.toNat ∧ c.toNat ≤ 94) ∨ (c.toNat = 96) ∨ (123 ≤ c.toNat) := by omega
      rcases hcl with hc | hc | hc | hc | hc | hc | hc | hc | hc | hc | hc | hc
      · have HB := Lib.hid (show nameB c = true by unfold nameB; simp only [Bool.or_eq_true, Bool.and_eq_true, decide_eq_true_eq, beq_iff_eq]; omega)
        have HD := Lib.hid (show digB c = false by unfold digB; rw [Bool.eq_false_iff]; simp only [ne_eq, Bool.and_eq_true, decide_eq_true_eq]; omega)
        have a0 : (97 : Int) ≤ (c.toNat : Int) := by omega
        have a1 : (65 : Int) ≤ (c.toNat : Int) := by omega
        have a2 : (48 : Int) ≤ (c.toNat : Int) := by omega
        have b0 : (c.toNat : Int) ≤ 122 := by omega
        have b1 : ¬ (c.toNat : Int) ≤ 90 := by omega
        have b2 : ¬ (c.toNat : Int) ≤ 57 := by omega
        have e0 : ((c.toNat : Int) == 95) = false := beq_eq_false_iff_ne.2 (by omega)
        have e1 : ((c.toNat : Int) == 46) = false := beq_eq_false_iff_ne.2 (by omega)
        have e2 : ((c.toNat : Int) == 45) = false := beq_eq_false_iff_ne.2 (by omega)
        clear hc
        go_wp2_with fail
        go_roundw
        case rel => exact ⟨i + 1, by go_num, by omega, Lib.hid (fun j hj => by
          rcases Nat.lt_or_ge j i with h | h
          · exact HL.out j h
          · obtain rfl : j = i := by omega
            rw [← HX.out]; exact HB.out), by first | rfl | trivial⟩
        case measure => simp [intOf]; omega
      · have HB := Lib.hid (show nameB c = true by unfold nameB; simp only [Bool.or_eq_true, Bool.and_eq_true, decide_eq_true_eq, beq_iff_eq]; omega)
        have HD := Lib.hid (show digB c = false by unfold digB; rw [Bool.eq_false_iff]; simp only [ne_eq, Bool.and_eq_true, decide_eq_true_eq]; omega)
        have a0 : ¬ (97 : Int) ≤ (c.toNat : Int) := by omega
        have a1 : (65 : Int) ≤ (c.toNat : Int) := by omega
        have a2 : (48 : Int) ≤ (c.toNat : Int) := by omega
        have b0 : (c.toNat : Int) ≤ 122 := by omega
        have b1 : (c.toNat : Int) ≤ 90 := by omega
        have b2 : ¬ (c.toNat : Int) ≤ 57 := by omega
        have e0 : ((c.toNat : Int) == 95) = false := beq_eq_false_iff_ne.2 (by omega)
        have e1 : ((c.toNat : Int) == 46) = false := beq_eq_false_iff_ne.2 (by omega)
        have e2 : ((c.toNat : Int) == 45) = false := beq_eq_false_iff_ne.2 (by omega)
        clear hc
        go_wp2_with fail
        go_roundw
        case rel => exact ⟨i + 1, by go_num, by omega, Lib.hid (fun j hj => by
          rcases Nat.lt_or_ge j i with h | h
          · exact HL.out j h
          · obtain rfl : j = i := by omega
            rw [← HX.out]; exact HB.out), by first | rfl | trivial⟩
        case measure => simp [intOf]; omega
      · have HB := Lib.hid (show nameB c = true by unfold nameB; simp only [Bool.or_eq_true, Bool.and_eq_true, decide_eq_true_eq, beq_iff_eq]; omega)
        have HD := Lib.hid (show digB c = true by unfold digB; simp only [Bool.and_eq_true, decide_eq_true_eq]; omega)
        have a0 : ¬ (97 : Int) ≤ (c.toNat : Int) := by omega
        have a1 : ¬ (65 : Int) ≤ (c.toNat : Int) := by omega
        have a2 : (48 : Int) ≤ (c.toNat : Int) := by omega
        have b0 : (c.toNat : Int) ≤ 122 := by omega
        have b1 : (c.toNat : Int) ≤ 90 := by omega
        have b2 : (c.toNat : Int) ≤ 57 := by omega
        have e0 : ((c.toNat : Int) == 95) = false := beq_eq_false_iff_ne.2 (by omega)
        have e1 : ((c.toNat : Int) == 46) = false := beq_eq_false_iff_ne.2 (by omega)
        have e2 : ((c.toNat : Int) == 45) = false := beq_eq_false_iff_ne.2 (by omega)
        clear hc
        go_wp2_with fail
        refine (digit_any c _).mono ?_
        rintro e w1 ⟨rfl, hw1⟩
        rw [hw1, HD.out]
        clear hw1
        go_wp2_with fail
        go_roundw
        case rel => exact ⟨i + 1, by go_num, by omega, Lib.hid (fun j hj => by
          rcases Nat.lt_or_ge j i with h | h
          · exact HL.out j h
          · obtain rfl : j = i := by omega
            rw [← HX.out]; exact HB.out), by first | rfl | trivial⟩
        case measure => simp [intOf]; omega
      · have HB := Lib.hid (show nameB c = true by unfold nameB; simp only [Bool.or_eq_true, Bool.and_eq_true, decide_eq_true_eq, beq_iff_eq]; omega)
        have HD := Lib.hid (show digB c = false by unfold digB; rw [Bool.eq_false_iff]; simp only [ne_eq, Bool.and_eq_true, decide_eq_true_eq]; omega)
        have a0 : ¬ (97 : Int) ≤ (c.toNat : Int) := by omega
        have a1 : (65 : Int) ≤ (c.toNat : Int) := by omega
        have a2 : (48 : Int) ≤ (c.toNat : Int) := by omega
        have b0 : (c.toNat : Int) ≤ 122 := by omega
        have b1 : ¬ (c.toNat : Int) ≤ 90 := by omega
        have b2 : ¬ (c.toNat : Int) ≤ 57 := by omega
        have e0 : ((c.toNat : Int) == 95) = true := by rw [beq_iff_eq]; omega
        have e1 : ((c.toNat : Int) == 46) = false := beq_eq_false_iff_ne.2 (by omega)
        have e2 : ((c.toNat : Int) == 45) = false := beq_eq_false_iff_ne.2 (by omega)
        clear hc
        go_wp2_with fail
        refine (digit_any c _).mono ?_
        rintro e w1 ⟨rfl, hw1⟩
        rw [hw1, HD.out]
        clear hw1
        go_wp2_with fail
        go_roundw
        case rel => exact ⟨i + 1, by go_num, by omega, Lib.hid (fun j hj => by
          rcases Nat.lt_or_ge j i with h | h
          · exact HL.out j h
          · obtain rfl : j = i := by omega
            rw [← HX.out]; exact HB.out), by first | rfl | trivial⟩
        case measure => simp [intOf]; omega
      · have HB := Lib.hid (show nameB c = true by unfold nameB; simp only [Bool.or_eq_true, Bool.and_eq_true, decide_eq_true_eq, beq_iff_eq]; omega)
        have HD := Lib.hid (show digB c = false by unfold digB; rw [Bool.eq_false_iff]; simp only [ne_eq, Bool.and_eq_true, decide_eq_true_eq]; omega)
        have a0 : ¬ (97 : Int) ≤ (c.toNat : Int) := by omega
        have a1 : ¬ (65 : Int) ≤ (c.toNat : Int) := by omega
        have a2 : ¬ (48 : Int) ≤ (c.toNat : Int) := by omega
        have b0 : (c.toNat : Int) ≤ 122 := by omega
        have b1 : (c.toNat : Int) ≤ 90 := by omega
        have b2 : (c.toNat : Int) ≤ 57 := by omega
        have e0 : ((c.toNat : Int) == 95) = false := beq_eq_false_iff_ne.2 (by omega)
        have e1 : ((c.toNat : Int) == 46) = true := by rw [beq_iff_eq]; omega
        have e2 : ((c.toNat : Int) == 45) = false := beq_eq_false_iff_ne.2 (by omega)
        clear hc
        go_wp2_with fail
        refine (digit_any c _).mono ?_
        rintro e w1 ⟨rfl, hw1⟩
        rw [hw1, HD.out]
        clear hw1
        go_wp2_with fail
        go_roundw
        case rel => exact ⟨i + 1, by go_num, by omega, Lib.hid (fun j hj => by
          rcases Nat.lt_or_ge j i with h | h
          · exact HL.out j h
          · obtain rfl : j = i := by omega
            rw [← HX.out]; exact HB.out), by first | rfl | trivial⟩
        case measure => simp [intOf]; omega
      · have HB := Lib.hid (show nameB c = true by unfold nameB; simp only [Bool.or_eq_true, Bool.and_eq_true, decide_eq_true_eq, beq_iff_eq]; omega)
        have HD := Lib.hid (show digB c = false by unfold digB; rw [Bool.eq_false_iff]; simp only [ne_eq, Bool.and_eq_true, decide_eq_true_eq]; omega)
        have a0 : ¬ (97 : Int) ≤ (c.toNat : Int) := by omega
        have a1 : ¬ (65 : Int) ≤ (c.toNat : Int) := by omega
        have a2 : ¬ (48 : Int) ≤ (c.toNat : Int) := by omega
        have b0 : (c.toNat : Int) ≤ 122 := by omega
        have b1 : (c.toNat : Int) ≤ 90 := by omega
        have b2 : (c.toNat : Int) ≤ 57 := by omega
        have e0 : ((c.toNat : Int) == 95) = false := beq_eq_false_iff_ne.2 (by omega)
        have e1 : ((c.toNat : Int) == 46) = false := beq_eq_false_iff_ne.2 (by omega)
        have e2 : ((c.toNat : Int) == 45) = true := by rw [beq_iff_eq]; omega
        clear hc
        go_wp2_with fail
        refine (digit_any c _).mono ?_
        rintro e w1 ⟨rfl, hw1⟩
        rw [hw1, HD.out]
        clear hw1
        go_wp2_with fail
        go_roundw
        case rel => exact ⟨i + 1, by go_num, by omega, Lib.hid (fun j hj => by
          rcases Nat.lt_or_ge j i with h | h
          · exact HL.out j h
          · obtain rfl : j = i := by omega
            rw [← HX.out]; exact HB.out), by first | rfl | trivial⟩
        case measure => simp [intOf]; omega
      · have HB := Lib.hid (show nameB c = false by unfold nameB; rw [Bool.eq_false_iff]; simp only [ne_eq, Bool.or_eq_true, Bool.and_eq_true, decide_eq_true_eq, beq_iff_eq]; omega)
        have HD := Lib.hid (show digB c = false by unfold digB; rw [Bool.eq_false_iff]; simp only [ne_eq, Bool.and_eq_true, decide_eq_true_eq]; omega)
        have a0 : ¬ (97 : Int) ≤ (c.toNat : Int) := by omega
        have a1 : ¬ (65 : Int) ≤ (c.toNat : Int) := by omega
        have a2 : ¬ (48 : Int) ≤ (c.toNat : Int) := by omega
        have b0 : (c.toNat : Int) ≤ 122 := by omega
        have b1 : (c.toNat : Int) ≤ 90 := by omega
        have b2 : (c.toNat : Int) ≤ 57 := by omega
        have e0 : ((c.toNat : Int) == 95) = false := beq_eq_false_iff_ne.2 (by omega)
        have e1 : ((c.toNat : Int) == 46) = false := beq_eq_false_iff_ne.2 (by omega)
        have e2 : ((c.toNat : Int) == 45) = false := beq_eq_false_iff_ne.2 (by omega)
        clear hc
        go_wp2_with fail
        refine (digit_any c _).mono ?_
        rintro e w1 ⟨rfl, hw1⟩
        rw [hw1, HD.out]
        clear hw1
        go_wp2_with fail
        go_ret
        rw [show res = false from HNO.out i hlt (by rw [← HX.out]; exact HB.out)]
        exact ⟨rfl, rfl⟩
      · have HB := Lib.hid (show nameB c = false by unfold nameB; rw [Bool.eq_false_iff]; simp only [ne_eq, Bool.or_eq_true, Bool.and_eq_true, decide_eq_true_eq, beq_iff_eq]; omega)
        have HD := Lib.hid (show digB c = false by unfold digB; rw [Bool.eq_false_iff]; simp only [ne_eq, Bool.and_eq_true, decide_eq_true_eq]; omega)
        have a0 : ¬ (97 : Int) ≤ (c.toNat : Int) := by omega
        have a1 : ¬ (65 : Int) ≤ (c.toNat : Int) := by omega
        have a2 : ¬ (48 : Int) ≤ (c.toNat : Int) := by omega
        have b0 : (c.toNat : Int) ≤ 122 := by omega
        have b1 : (c.toNat : Int) ≤ 90 := by omega
        have b2 : (c.toNat : Int) ≤ 57 := by omega
        have e0 : ((c.toNat : Int) == 95) = false := beq_eq_false_iff_ne.2 (by omega)
        have e1 : ((c.toNat : Int) == 46) = false := beq_eq_false_iff_ne.2 (by omega)
        have e2 : ((c.toNat : Int) == 45) = false := beq_eq_false_iff_ne.2 (by omega)
        clear hc
        go_wp2_with fail
        refine (digit_any c _).mono ?_
        rintro e w1 ⟨rfl, hw1⟩
        rw [hw1, HD.out]
        clear hw1
        go_wp2_with fail
        go_ret
        rw [show res = false from HNO.out i hlt (by rw [← HX.out]; exact HB.out)]
        exact ⟨rfl, rfl⟩
      · have HB := Lib.hid (show nameB c = false by unfold nameB; rw [Bool.eq_false_iff]; simp only [ne_eq, Bool.or_eq_true, Bool.and_eq_true, decide_eq_true_eq, beq_iff_eq]; omega)
        have HD := Lib.hid (show digB c = false by unfold digB; rw [Bool.eq_false_iff]; simp only [ne_eq, Bool.and_eq_true, decide_eq_true_eq]; omega)
        have a0 : ¬ (97 : Int) ≤ (c.toNat : Int) := by omega
        have a1 : ¬ (65 : Int) ≤ (c.toNat : Int) := by omega
        have a2 : (48 : Int) ≤ (c.toNat : Int) := by omega
        have b0 : (c.toNat : Int) ≤ 122 := by omega
        have b1 : (c.toNat : Int) ≤ 90 := by omega
        have b2 : ¬ (c.toNat : Int) ≤ 57 := by omega
        have e0 : ((c.toNat : Int) == 95) = false := beq_eq_false_iff_ne.2 (by omega)
        have e1 : ((c.toNat : Int) == 46) = false := beq_eq_false_iff_ne.2 (by omega)
        have e2 : ((c.toNat : Int) == 45) = false := beq_eq_false_iff_ne.2 (by omega)
        clear hc
        go_wp2_with fail
        refine (digit_any c _).mono ?_
        rintro e w1 ⟨rfl, hw1⟩
        rw [hw1, HD.out]
        clear hw1
        go_wp2_with fail
        go_ret
        rw [show res = false from HNO.out i hlt (by rw [← HX.out]; exact HB.out)]
        exact ⟨rfl, rfl⟩
      · have HB := Lib.hid (show nameB c = false by unfold nameB; rw [Bool.eq_false_iff]; simp only [ne_eq, Bool.or_eq_true, Bool.and_eq_true, decide_eq_true_eq, beq_iff_eq]; omega)
        have HD := Lib.hid (show digB c = false by unfold digB; rw [Bool.eq_false_iff]; simp only [ne_eq, Bool.and_eq_true, decide_eq_true_eq]; omega)
        have a0 : ¬ (97 : Int) ≤ (c.toNat : Int) := by omega
        have a1 : (65 : Int) ≤ (c.toNat : Int) := by omega
        have a2 : (48 : Int) ≤ (c.toNat : Int) := by omega
        have b0 : (c.toNat : Int) ≤ 122 := by omega
        have b1 : ¬ (c.toNat : Int) ≤ 90 := by omega
        have b2 : ¬ (c.toNat : Int) ≤ 57 := by omega
        have e0 : ((c.toNat : Int) == 95) = false := beq_eq_false_iff_ne.2 (by omega)
        have e1 : ((c.toNat : Int) == 46) = false := beq_eq_false_iff_ne.2 (by omega)
        have e2 : ((c.toNat : Int) == 45) = false := beq_eq_false_iff_ne.2 (by omega)
        clear hc
        go_wp2_with fail
        refine (digit_any c _).mono ?_
        rintro e w1 ⟨rfl, hw1⟩
        rw [hw1, HD.out]
        clear hw1
        go_wp2_with fail
        go_ret
        rw [show res = false from HNO.out i hlt (by rw [← HX.out]; exact HB.out)]
        exact ⟨rfl, rfl⟩
      · have HB := Lib.hid (show nameB c = false by unfold nameB; rw [Bool.eq_false_iff]; simp only [ne_eq, Bool.or_eq_true, Bool.and_eq_true, decide_eq_true_eq, beq_iff_eq]; omega)
        have HD := Lib.hid (show digB c = false by unfold digB; rw [Bool.eq_false_iff]; simp only [ne_eq, Bool.and_eq_true, decide_eq_true_eq]; omega)
        have a0 : ¬ (97 : Int) ≤ (c.toNat : Int) := by omega
        have a1 : (65 : Int) ≤ (c.toNat : Int) := by omega
        have a2 : (48 : Int) ≤ (c.toNat : Int) := by omega
        have b0 : (c.toNat : Int) ≤ 122 := by omega
        have b1 : ¬ (c.toNat : Int) ≤ 90 := by omega
        have b2 : ¬ (c.toNat : Int) ≤ 57 := by omega
        have e0 : ((c.toNat : Int) == 95) = false := beq_eq_false_iff_ne.2 (by omega)
        have e1 : ((c.toNat : Int) == 46) = false := beq_eq_false_iff_ne.2 (by omega)
        have e2 : ((c.toNat : Int) == 45) = false := beq_eq_false_iff_ne.2 (by omega)
        clear hc
        go_wp2_with fail
        refine (digit_any c _).mono ?_
        rintro e w1 ⟨rfl, hw1⟩
        rw [hw1, HD.out]
        clear hw1
        go_wp2_with fail
        go_ret
        rw [show res = false from HNO.out i hlt (by rw [← HX.out]; exact HB.out)]
        exact ⟨rfl, rfl⟩
      · have HB := Lib.hid (show nameB c = false by unfold nameB; rw [Bool.eq_false_iff]; simp only [ne_eq, Bool.or_eq_true, Bool.and_eq_true, decide_eq_true_eq, beq_iff_eq]; omega)
        have HD := Lib.hid (show digB c = false by unfold digB; rw [Bool.eq_false_iff]; simp only [ne_eq, Bool.and_eq_true, decide_eq_true_eq]; omega)
        have a0 : (97 : Int) ≤ (c.toNat : Int) := by omega
        have a1 : (65 : Int) ≤ (c.toNat : Int) := by omega
        have a2 : (48 : Int) ≤ (c.toNat : Int) := by omega
        have b0 : ¬ (c.toNat : Int) ≤ 122 := by omega
        have b1 : ¬ (c.toNat : Int) ≤ 90 := by omega
        have b2 : ¬ (c.toNat : Int) ≤ 57 := by omega
        have e0 : ((c.toNat : Int) == 95) = false := beq_eq_false_iff_ne.2 (by omega)
        have e1 : ((c.toNat : Int) == 46) = false := beq_eq_false_iff_ne.2 (by omega)
        have e2 : ((c.toNat : Int) == 45) = false := beq_eq_false_iff_ne.2 (by omega)
        clear hc
        go_wp2_with fail
        refine (digit_any c _).mono ?_
        rintro e w1 ⟨rfl, hw1⟩
        rw [hw1, HD.out]
        clear hw1
        go_wp2_with fail
        go_ret
        rw [show res = false from HNO.out i hlt (by rw [← HX.out]; exact HB.out)]
        exact ⟨rfl, rfl⟩
    · obtain rfl : i = s.size := by omega
      have p1 : ¬ (s.size : Int) < (s.size : Int) := by omega
      have HY := Lib.hid (HALL.out HL.out)
      cases hl : s.data.toList with
      | nil =>
        obtain ⟨u1, u2⟩ := ba_empty hl
        have HZ := Lib.hid (show res = false by rw [HY.out, hl]; rfl)
        clear hl
        go_wp2_with fail
        go_ret
        rw [HZ.out]
        exact ⟨rfl, rfl⟩
      | cons x y =>
        obtain ⟨u1, u2⟩ := ba_full (s := s) (by rw [hl]; simp)
        by_cases h60 : s.size ≤ 60
        · have p60 : (s.size : Int) ≤ 60 := by omega
          have HZ := Lib.hid (show res = true by rw [HY.out, hl, decide_eq_true h60]; rfl)
          clear hl
          go_wp2_with fail
          go_ret
          rw [HZ.out]
          exact ⟨rfl, rfl⟩
        · have p60 : ¬ (s.size : Int) ≤ 60 := by omega
          have HZ := Lib.hid (show res = false by rw [HY.out, decide_eq_false h60, Bool.and_false])
          clear hl
          go_wp2_with fail
          go_ret
          rw [HZ.out]
          exact ⟨rfl, rfl⟩
set_option maxRecDepth 100000 in
set_option maxHeartbeats 8000000 in
theorem name_any (s : ByteArray) (w : World) (hs : s.size ≤ 140737488351232) :
    Calls Try.prog 19 #[.string s] w fun e w' => e = .returned (.bool (nameF s.data.toList)) ∧ Keeps (fun _ => False) w w' := by
  obtain ⟨res, hres⟩ : ∃ res, res = nameF s.data.toList := ⟨_, rfl⟩
  rw [← hres]
  have HRES := Lib.hid hres
  have HNO := Lib.hid (show ∀ i, i < s.size → nameB (byteAt s i) = false → res = false from fun i hi h => by rw [hres]; exact nameF_no hi h)
  have HALL := Lib.hid (show (∀ j, j < s.size → nameB (byteAt s j) = true) → res = (!s.data.toList.isEmpty && decide (s.size ≤ 60)) from fun h => by rw [hres]; exact nameF_all h)
  clear hres
  cases hl : s.data.toList with
  | nil =>
    obtain ⟨u1, u2⟩ := ba_empty hl
    have HZ := Lib.hid (show res = false by rw [HRES.out, hl]; rfl)
    clear hl
    go_enter Try.func19, Try.ntmps19
    go_wp2_with fail
    go_ret
    rw [HZ.out]
    exact ⟨rfl, Keeps.refl _ _⟩
  | cons x y =>
    obtain ⟨u1, u2⟩ := ba_full (s := s) (by rw [hl]; simp)
    have HNE := Lib.hid (show s.data.toList.isEmpty = false by rw [hl]; rfl)
    clear hl
    by_cases h60 : 60 < s.size
    · have p60 : (60 : Int) < (s.size : Int) := by omega
      have HZ := Lib.hid (show res = false by
        rw [HRES.out]
        unfold nameF
        rw [← Lib.size_eq, decide_eq_false (by omega), Bool.and_false, Bool.false_and])
      clear h60
      go_enter Try.func19, Try.ntmps19
      go_wp2_with fail
      go_ret
      rw [HZ.out]
      exact ⟨rfl, Keeps.refl _ _⟩
    · have p60 : ¬ (60 : Int) < (s.size : Int) := by omega
      have kc := fun (w : World) (R : ByteArray) => Lib.run_convert_string_bytes (P := Try.prog) w 9 58 5 R Try.underlying9 Try.underlying58 Try.underlying5
      go_enter Try.func19, Try.ntmps19
      go_wp2_with fail
      clear kc
      have hcw : ∀ j, j < s.size → (Lib.bytesWorld w 5 s).cell? ⟨w.heap.size, j, none⟩ = some (.int .u8 (byteAt s j).toNat) := fun j hj => Lib.bytesWorld_cell w 5 s j hj
      have hkw : Keeps (fun _ => False) w (Lib.bytesWorld w 5 s) := ⟨rfl, rfl, rfl, by rw [Lib.bytesWorld_size]; exact Nat.le_succ _, fun k hk _ => Lib.bytesWorld_at_old _ _ _ _ hk⟩
      generalize Lib.bytesWorld w 5 s = W at hcw hkw ⊢
      have HCW := Lib.hid hcw
      have HKW := Lib.hid hkw
      clear hcw hkw
      go_loopw [15] (fun i' wr => ∃ i : Nat, i' = .int .i64 i ∧ i ≤ s.size ∧ Hid (∀ j, j < i → nameB (byteAt s j) = true) ∧ W = wr) (fun i' _ => s.size - (intOf i').toNat)
      case atStart => exact ⟨0, rfl, Nat.zero_le _, Lib.hid (fun j hj => absurd hj (Nat.not_lt_zero _)), rfl⟩
      case round =>
        obtain ⟨i, rfl, hi, HL, hw⟩ := hrel
        subst hw
        rcases Nat.lt_or_ge i s.size with hlt | hge
        · have p1 : (i : Int) < (s.size : Int) := by omega
          have hb := byteAt_in hlt
          obtain ⟨c, hx⟩ : ∃ c, c = byteAt s i := ⟨_, rfl⟩
          rw [← hx] at hb
          have HX := Lib.hid hx
          clear hx
          have hcc := HCW.out i hlt
          rw [← HX.out] at hcc
          have hcl : (97 ≤ c.toNat ∧ c.toNat ≤ 122) ∨ (65 ≤ c.toNat ∧ c.toNat ≤ 90) ∨ (48 ≤ c.toNat ∧ c.toNat ≤ 57) ∨ (c.toNat = 95) ∨ (c.toNat = 46) ∨ (c.toNat = 45) ∨ (c.toNat ≤ 44) ∨ (c.toNat = 47) ∨ (58 ≤ c.toNat ∧ c.toNat ≤ 64) ∨ (91 ≤ c.toNat ∧ c.toNat ≤ 94) ∨ (c.toNat = 96) ∨ (123 ≤ c.toNat) := by omega
          rcases hcl with hc | hc | hc | hc | hc | hc | hc | hc | hc | hc | hc | hc
          · have HB := Lib.hid (show nameB c = true by unfold nameB; simp only [Bool.or_eq_true, Bool.and_eq_true, decide_eq_true_eq, beq_iff_eq]; omega)
            have a0 : (97 : Int) ≤ (c.toNat : Int) := by omega
            have a1 : (65 : Int) ≤ (c.toNat : Int) := by omega
            have a2 : (48 : Int) ≤ (c.toNat : Int) := by omega
            have b0 : (c.toNat : Int) ≤ 122 := by omega
            have b1 : ¬ (c.toNat : Int) ≤ 90 := by omega
            have b2 : ¬ (c.toNat : Int) ≤ 57 := by omega
            have e0 : ((c.toNat : Int) == 95) = false := beq_eq_false_iff_ne.2 (by omega)
            have e1 : ((c.toNat : Int) == 46) = false := beq_eq_false_iff_ne.2 (by omega)
            have e2 : ((c.toNat : Int) == 45) = false := beq_eq_false_iff_ne.2 (by omega)
            clear hc
            go_wp2_with fail
            go_roundw
            case rel => exact ⟨i + 1, by go_num, by omega, Lib.hid (fun j hj => by
              rcases Nat.lt_or_ge j i with h | h
              · exact HL.out j h
              · obtain rfl : j = i := by omega
                rw [← HX.out]; exact HB.out), by first | rfl | trivial⟩
            case measure => simp [intOf]; omega
          · have HB := Lib.hid (show nameB c = true by unfold nameB; simp only [Bool.or_eq_true, Bool.and_eq_true, decide_eq_true_eq, beq_iff_eq]; omega)
            have a0 : ¬ (97 : Int) ≤ (c.toNat : Int) := by omega
            have a1 : (65 : Int) ≤ (c.toNat : Int) := by omega
            have a2 : (48 : Int) ≤ (c.toNat : Int) := by omega
            have b0 : (c.toNat : Int) ≤ 122 := by omega
            have b1 : (c.toNat : Int) ≤ 90 := by omega
            have b2 : ¬ (c.toNat : Int) ≤ 57 := by omega
            have e0 : ((c.toNat : Int) == 95) = false := beq_eq_false_iff_ne.2 (by omega)
            have e1 : ((c.toNat : Int) == 46) = false := beq_eq_false_iff_ne.2 (by omega)
            have e2 : ((c.toNat : Int) == 45) = false := beq_eq_false_iff_ne.2 (by omega)
            clear hc
            go_wp2_with fail
            go_roundw
            case rel => exact ⟨i + 1, by go_num, by omega, Lib.hid (fun j hj => by
              rcases Nat.lt_or_ge j i with h | h
              · exact HL.out j h
              · obtain rfl : j = i := by omega
                rw [← HX.out]; exact HB.out), by first | rfl | trivial⟩
            case measure => simp [intOf]; omega
          · have HB := Lib.hid (show nameB c = true by unfold nameB; simp only [Bool.or_eq_true, Bool.and_eq_true, decide_eq_true_eq, beq_iff_eq]; omega)
            have a0 : ¬ (97 : Int) ≤ (c.toNat : Int) := by omega
            have a1 : ¬ (65 : Int) ≤ (c.toNat : Int) := by omega
            have a2 : (48 : Int) ≤ (c.toNat : Int) := by omega
            have b0 : (c.toNat : Int) ≤ 122 := by omega
            have b1 : (c.toNat : Int) ≤ 90 := by omega
            have b2 : (c.toNat : Int) ≤ 57 := by omega
            have e0 : ((c.toNat : Int) == 95) = false := beq_eq_false_iff_ne.2 (by omega)
            have e1 : ((c.toNat : Int) == 46) = false := beq_eq_false_iff_ne.2 (by omega)
            have e2 : ((c.toNat : Int) == 45) = false := beq_eq_false_iff_ne.2 (by omega)
            clear hc
            go_wp2_with fail
            go_roundw
            case rel => exact ⟨i + 1, by go_num, by omega, Lib.hid (fun j hj => by
              rcases Nat.lt_or_ge j i with h | h
              · exact HL.out j h
              · obtain rfl : j = i := by omega
                rw [← HX.out]; exact HB.out), by first | rfl | trivial⟩
            case measure => simp [intOf]; omega
          · have HB := Lib.hid (show nameB c = true by unfold nameB; simp only [Bool.or_eq_true, Bool.and_eq_true, decide_eq_true_eq, beq_iff_eq]; omega)
            have a0 : ¬ (97 : Int) ≤ (c.toNat : Int) := by omega
            have a1 : (65 : Int) ≤ (c.toNat : Int) := by omega
            have a2 : (48 : Int) ≤ (c.toNat : Int) := by omega
            have b0 : (c.toNat : Int) ≤ 122 := by omega
            have b1 : ¬ (c.toNat : Int) ≤ 90 := by omega
            have b2 : ¬ (c.toNat : Int) ≤ 57 := by omega
            have e0 : ((c.toNat : Int) == 95) = true := by rw [beq_iff_eq]; omega
            have e1 : ((c.toNat : Int) == 46) = false := beq_eq_false_iff_ne.2 (by omega)
            have e2 : ((c.toNat : Int) == 45) = false := beq_eq_false_iff_ne.2 (by omega)
            clear hc
            go_wp2_with fail
            go_roundw
            case rel => exact ⟨i + 1, by go_num, by omega, Lib.hid (fun j hj => by
              rcases Nat.lt_or_ge j i with h | h
              · exact HL.out j h
              · obtain rfl : j = i := by omega
                rw [← HX.out]; exact HB.out), by first | rfl | trivial⟩
            case measure => simp [intOf]; omega
          · have HB := Lib.hid (show nameB c = true by unfold nameB; simp only [Bool.or_eq_true, Bool.and_eq_true, decide_eq_true_eq, beq_iff_eq]; omega)
            have a0 : ¬ (97 : Int) ≤ (c.toNat : Int) := by omega
            have a1 : ¬ (65 : Int) ≤ (c.toNat : Int) := by omega
            have a2 : ¬ (48 : Int) ≤ (c.toNat : Int) := by omega
            have b0 : (c.toNat : Int) ≤ 122 := by omega
            have b1 : (c.toNat : Int) ≤ 90 := by omega
            have b2 : (c.toNat : Int) ≤ 57 := by omega
            have e0 : ((c.toNat : Int) == 95) = false := beq_eq_false_iff_ne.2 (by omega)
            have e1 : ((c.toNat : Int) == 46) = true := by rw [beq_iff_eq]; omega
            have e2 : ((c.toNat : Int) == 45) = false := beq_eq_false_iff_ne.2 (by omega)
            clear hc
            go_wp2_with fail
            go_roundw
            case rel => exact ⟨i + 1, by go_num, by omega, Lib.hid (fun j hj => by
              rcases Nat.lt_or_ge j i with h | h
              · exact HL.out j h
              · obtain rfl : j = i := by omega
                rw [← HX.out]; exact HB.out), by first | rfl | trivial⟩
            case measure => simp [intOf]; omega
          · have HB := Lib.hid (show nameB c = true by unfold nameB; simp only [Bool.or_eq_true, Bool.and_eq_true, decide_eq_true_eq, beq_iff_eq]; omega)
            have a0 : ¬ (97 : Int) ≤ (c.toNat : Int) := by omega
            have a1 : ¬ (65 : Int) ≤ (c.toNat : Int) := by omega
            have a2 : ¬ (48 : Int) ≤ (c.toNat : Int) := by omega
            have b0 : (c.toNat : Int) ≤ 122 := by omega
            have b1 : (c.toNat : Int) ≤ 90 := by omega
            have b2 : (c.toNat : Int) ≤ 57 := by omega
            have e0 : ((c.toNat : Int) == 95) = false := beq_eq_false_iff_ne.2 (by omega)
            have e1 : ((c.toNat : Int) == 46) = false := beq_eq_false_iff_ne.2 (by omega)
            have e2 : ((c.toNat : Int) == 45) = true := by rw [beq_iff_eq]; omega
            clear hc
            go_wp2_with fail
            go_roundw
            case rel => exact ⟨i + 1, by go_num, by omega, Lib.hid (fun j hj => by
              rcases Nat.lt_or_ge j i with h | h
              · exact HL.out j h
              · obtain rfl : j = i := by omega
                rw [← HX.out]; exact HB.out), by first | rfl | trivial⟩
            case measure => simp [intOf]; omega
          · have HB := Lib.hid (show nameB c = false by unfold nameB; rw [Bool.eq_false_iff]; simp only [ne_eq, Bool.or_eq_true, Bool.and_eq_true, decide_eq_true_eq, beq_iff_eq]; omega)
            have a0 : ¬ (97 : Int) ≤ (c.toNat : Int) := by omega
            have a1 : ¬ (65 : Int) ≤ (c.toNat : Int) := by omega
            have a2 : ¬ (48 : Int) ≤ (c.toNat : Int) := by omega
            have b0 : (c.toNat : Int) ≤ 122 := by omega
            have b1 : (c.toNat : Int) ≤ 90 := by omega
            have b2 : (c.toNat : Int) ≤ 57 := by omega
            have e0 : ((c.toNat : Int) == 95) = false := beq_eq_false_iff_ne.2 (by omega)
            have e1 : ((c.toNat : Int) == 46) = false := beq_eq_false_iff_ne.2 (by omega)
            have e2 : ((c.toNat : Int) == 45) = false := beq_eq_false_iff_ne.2 (by omega)
            clear hc
            go_wp2_with fail
            go_ret
            rw [show res = false from HNO.out i hlt (by rw [← HX.out]; exact HB.out)]
            exact ⟨rfl, HKW.out⟩
          · have HB := Lib.hid (show nameB c = false by unfold nameB; rw [Bool.eq_false_iff]; simp only [ne_eq, Bool.or_eq_true, Bool.and_eq_true, decide_eq_true_eq, beq_iff_eq]; omega)
            have a0 : ¬ (97 : Int) ≤ (c.toNat : Int) := by omega
            have a1 : ¬ (65 : Int) ≤ (c.toNat : Int) := by omega
            have a2 : ¬ (48 : Int) ≤ (c.toNat : Int) := by omega
            have b0 : (c.toNat : Int) ≤ 122 := by omega
            have b1 : (c.toNat : Int) ≤ 90 := by omega
            have b2 : (c.toNat : Int) ≤ 57 := by omega
            have e0 : ((c.toNat : Int) == 95) = false := beq_eq_false_iff_ne.2 (by omega)
            have e1 : ((c.toNat : Int) == 46) = false := beq_eq_false_iff_ne.2 (by omega)
            have e2 : ((c.toNat : Int) == 45) = false := beq_eq_false_iff_ne.2 (by omega)
            clear hc
            go_wp2_with fail
            go_ret
            rw [show res = false from HNO.out i hlt (by rw [← HX.out]; exact HB.out)]
            exact ⟨rfl, HKW.out⟩
          · have HB := Lib.hid (show nameB c = false by unfold nameB; rw [Bool.eq_false_iff]; simp only [ne_eq, Bool.or_eq_true, Bool.and_eq_true, decide_eq_true_eq, beq_iff_eq]; omega)
            have a0 : ¬ (97 : Int) ≤ (c.toNat : Int) := by omega
            have a1 : ¬ (65 : Int) ≤ (c.toNat : Int) := by omega
            have a2 : (48 : Int) ≤ (c.toNat : Int) := by omega
            have b0 : (c.toNat : Int) ≤ 122 := by omega
            have b1 : (c.toNat : Int) ≤ 90 := by omega
            have b2 : ¬ (c.toNat : Int) ≤ 57 := by omega
            have e0 : ((c.toNat : Int) == 95) = false := beq_eq_false_iff_ne.2 (by omega)
            have e1 : ((c.toNat : Int) == 46) = false := beq_eq_false_iff_ne.2 (by omega)
            have e2 : ((c.toNat : Int) == 45) = false := beq_eq_false_iff_ne.2 (by omega)
            clear hc
            go_wp2_with fail
            go_ret
            rw [show res = false from HNO.out i hlt (by rw [← HX.out]; exact HB.out)]
            exact ⟨rfl, HKW.out⟩
          · have HB := Lib.hid (show nameB c = false by unfold nameB; rw [Bool.eq_false_iff]; simp only [ne_eq, Bool.or_eq_true, Bool.and_eq_true, decide_eq_true_eq, beq_iff_eq]; omega)
            have a0 : ¬ (97 : Int) ≤ (c.toNat : Int) := by omega
            have a1 : (65 : Int) ≤ (c.toNat : Int) := by omega
            have a2 : (48 : Int) ≤ (c.toNat : Int) := by omega
            have b0 : (c.toNat : Int) ≤ 122 := by omega
            have b1 : ¬ (c.toNat : Int) ≤ 90 := by omega
            have b2 : ¬ (c.toNat : Int) ≤ 57 := by omega
            have e0 : ((c.toNat : Int) == 95) = false := beq_eq_false_iff_ne.2 (by omega)
            have e1 : ((c.toNat : Int) == 46) = false := beq_eq_false_iff_ne.2 (by omega)
            have e2 : ((c.toNat : Int) == 45) = false := beq_eq_false_iff_ne.2 (by omega)
            clear hc
            go_wp2_with fail
            go_ret
            rw [show res = false from HNO.out i hlt (by rw [← HX.out]; exact HB.out)]
            exact ⟨rfl, HKW.out⟩
          · have HB := Lib.hid (show nameB c = false by unfold nameB; rw [Bool.eq_false_iff]; simp only [ne_eq, Bool.or_eq_true, Bool.and_eq_true, decide_eq_true_eq, beq_iff_eq]; omega)
            have a0 : ¬ (97 : Int) ≤ (c.toNat : Int) := by omega
            have a1 : (65 : Int) ≤ (c.toNat : Int) := by omega
            have a2 : (48 : Int) ≤ (c.toNat : Int) := by omega
            have b0 : (c.toNat : Int) ≤ 122 := by omega
            have b1 : ¬ (c.toNat : Int) ≤ 90 := by omega
            have b2 : ¬ (c.toNat : Int) ≤ 57 := by omega
            have e0 : ((c.toNat : Int) == 95) = false := beq_eq_false_iff_ne.2 (by omega)
            have e1 : ((c.toNat : Int) == 46) = false := beq_eq_false_iff_ne.2 (by omega)
            have e2 : ((c.toNat : Int) == 45) = false := beq_eq_false_iff_ne.2 (by omega)
            clear hc
            go_wp2_with fail
            go_ret
            rw [show res = false from HNO.out i hlt (by rw [← HX.out]; exact HB.out)]
            exact ⟨rfl, HKW.out⟩
          · have HB := Lib.hid (show nameB c = false by unfold nameB; rw [Bool.eq_false_iff]; simp only [ne_eq, Bool.or_eq_true, Bool.and_eq_true, decide_eq_true_eq, beq_iff_eq]; omega)
            have a0 : (97 : Int) ≤ (c.toNat : Int) := by omega
            have a1 : (65 : Int) ≤ (c.toNat : Int) := by omega
            have a2 : (48 : Int) ≤ (c.toNat : Int) := by omega
            have b0 : ¬ (c.toNat : Int) ≤ 122 := by omega
            have b1 : ¬ (c.toNat : Int) ≤ 90 := by omega
            have b2 : ¬ (c.toNat : Int) ≤ 57 := by omega
            have e0 : ((c.toNat : Int) == 95) = false := beq_eq_false_iff_ne.2 (by omega)
            have e1 : ((c.toNat : Int) == 46) = false := beq_eq_false_iff_ne.2 (by omega)
            have e2 : ((c.toNat : Int) == 45) = false := beq_eq_false_iff_ne.2 (by omega)
            clear hc
            go_wp2_with fail
            go_ret
            rw [show res = false from HNO.out i hlt (by rw [← HX.out]; exact HB.out)]
            exact ⟨rfl, HKW.out⟩
        · obtain rfl : i = s.size := by omega
          have p1 : ¬ (s.size : Int) < (s.size : Int) := by omega
          have HY := Lib.hid (HALL.out HL.out)
          have HZ := Lib.hid (show res = true by rw [HY.out, HNE.out, decide_eq_true (by omega)]; rfl)
          go_wp2_with fail
          go_ret
          rw [HZ.out]
          exact ⟨rfl, HKW.out⟩
end Go.Proofs.Ytglppnpllpfaeaa
