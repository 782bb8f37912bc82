/-
  The document's numerals and its reading of a number.
-/
import Derived.Test.YtnddnhjlaojllaaDoorRealAB
namespace Go.Proofs.YtnddnhjlaojllaaDoor
open Go.RowKit
set_option linter.unusedVariables false

def tenS : ByteArray := ⟨#[48, 49, 50, 51, 52, 53, 54, 55, 56, 57]⟩
theorem ten_at (r : Nat) (h : r ≤ 9) : (tenS.extract r (r + 1)).data.toList = [UInt8.ofNat (48 + r)] := by
  have : ∀ r : Fin 10, (tenS.extract r.val (r.val + 1)).data.toList = [UInt8.ofNat (48 + r.val)] := by decide +kernel
  exact this ⟨r, by omega⟩
theorem ba_app (a b : ByteArray) : (a ++ b).data.toList = a.data.toList ++ b.data.toList := by
  rw [ByteArray.data_append, Array.toList_append]
def DigPost (w : World) (n : Nat) (e : Ending) (w' : World) : Prop := ∃ D : ByteArray, e = .returned (.string D) ∧ D.data.toList = Lib.decDigits n ∧ w' = w
theorem digit_one (n : Nat) (h : n ≤ 9) (w : World) : Calls Tryd.prog 44 #[.int .i64 n] w (DigPost w n) := by
  have h10 : (n : Int).tmod 10 = (n : Int) := by
    rw [show (n : Int).tmod 10 = ((n % 10 : Nat) : Int) from rfl, Nat.mod_eq_of_lt (by omega)]
  have ew : IntKind.i64.wrap ((n : Int) + 1) = (n : Int) + 1 := IntWalk.i64_in _ (by omega)
  have q1 : (n : Int) ≤ (n : Int) + 1 := by omega
  have q2 : (n : Int) + 1 ≤ 10 := by omega
  have q3 : ((n : Int) + 1).toNat = n + 1 := by omega
  have q4 : ¬ (9 : Int) < (n : Int) := by omega
  go_enter Tryd.func44, Tryd.ntmps44
  go_wp2_with fail
  go_ret
  refine ⟨_, rfl, ?_, rfl⟩
  rw [Lib.decDigits_one (by omega)]
  exact ten_at n h
theorem digits_any : ∀ (k n : Nat), n ≤ k → n ≤ 999999999999999 → ∀ w : World, Calls Tryd.prog 44 #[.int .i64 n] w (DigPost w n) := by
  intro k
  induction k with
  | zero => intro n h _ w; exact digit_one n (by omega) w
  | succ k ih =>
    intro n h hn w
    by_cases h9 : n ≤ 9
    · exact digit_one n h9 w
    · obtain ⟨r, hr⟩ : ∃ r, r = n % 10 := ⟨_, rfl⟩
      obtain ⟨q, hq⟩ : ∃ q, q = n / 10 := ⟨_, rfl⟩
      have h10 : (n : Int).tmod 10 = (r : Int) := by rw [hr]; rfl
      have h11 : (n : Int).tdiv 10 = (q : Int) := by rw [hq]; rfl
      have hr9 : r ≤ 9 := by omega
      have hqn : q ≤ 999999999999999 := by omega
      have hqk := Lib.hid (show q ≤ k by omega)
      have ew : IntKind.i64.wrap ((r : Int) + 1) = (r : Int) + 1 := IntWalk.i64_in _ (by omega)
      have ew2 : IntKind.i64.wrap (q : Int) = (q : Int) := IntWalk.i64_in _ (by omega)
      have q1 : (r : Int) ≤ (r : Int) + 1 := by omega
      have q2 : (r : Int) + 1 ≤ 10 := by omega
      have q3 : ((r : Int) + 1).toNat = r + 1 := by omega
      have q4 : (9 : Int) < (n : Int) := by omega
      have HF := Lib.hid (show Lib.decDigits n = Lib.decDigits q ++ [UInt8.ofNat (48 + r)] by rw [Lib.decDigits, dif_neg (by omega), hr, hq])
      clear hr hq h9 h
      go_enter Tryd.func44, Tryd.ntmps44
      go_wp2_with fail
      refine (ih q hqk.out hqn _).mono ?_
      rintro e w1 ⟨D, rfl, hD, hw1⟩
      have HD := Lib.hid hD
      have hDs : D.size ≤ 15 := by rw [Lib.size_eq, hD]; exact (dig_len hqn).2
      rw [hw1]
      clear hD hw1
      go_wp2_with fail
      go_ret
      refine ⟨_, rfl, ?_, rfl⟩
      rw [HF.out, ba_app, HD.out]
      congr 1
      exact ten_at r hr9
/-- The document's Int. -/
theorem int_any (z : Int) (h : z.natAbs ≤ 999999999999999) (w : World) : Calls Tryd.prog 24 #[.int .i64 z] w fun e w' => ∃ D : ByteArray, e = .returned (.string D) ∧ D.data.toList = Lib.itoa z ∧ w' = w := by
  obtain ⟨n, hn⟩ : ∃ n, n = z.natAbs := ⟨_, rfl⟩
  rw [← hn] at h
  by_cases hz : z < 0
  · obtain rfl : z = -(n : Int) := by omega
    have HI := Lib.hid (Lib.itoa_neg n (by omega))
    have q0 : ¬ (-(n : Int)) = -9223372036854775808 := by omega
    have q1 : -(n : Int) < 0 := hz
    have ew : IntKind.i64.wrap (-(-(n : Int))) = (n : Int) := by rw [Int.neg_neg]; exact IntWalk.i64_in _ (by omega)
    have ew2 : IntKind.i64.wrap (n : Int) = (n : Int) := IntWalk.i64_in _ (by omega)
    clear hn hz
    go_enter Tryd.func24, Tryd.ntmps24
    go_wp2_with fail
    refine (digits_any n n (Nat.le_refl _) h _).mono ?_
    rintro e w1 ⟨D, rfl, hD, hw1⟩
    have HD := Lib.hid hD
    have hDs : D.size ≤ 15 := by rw [Lib.size_eq, hD]; exact (dig_len h).2
    rw [hw1]
    clear hD hw1
    go_wp2_with fail
    go_ret
    refine ⟨_, rfl, ?_, rfl⟩
    rw [HI.out, ba_app, HD.out]
    rfl
  · obtain rfl : z = (n : Int) := by omega
    have HI := Lib.hid (Lib.itoa_nonneg n)
    have q0 : ¬ (n : Int) = -9223372036854775808 := by omega
    have q1 : ¬ (n : Int) < 0 := hz
    clear hn hz
    go_enter Tryd.func24, Tryd.ntmps24
    go_wp2_with fail
    refine (digits_any n n (Nat.le_refl _) h _).mono ?_
    rintro e w1 ⟨D, rfl, hD, hw1⟩
    rw [hw1]
    go_wp2_with fail
    go_ret
    exact ⟨_, rfl, by rw [HI.out, hD], rfl⟩

/-- A digit's value, or -1. -/
def hexI (c : UInt8) : Int := if hexB c then (hexV c : Int) else -1
theorem hex_any (c : UInt8) (w : World) : Calls Tryd.prog 33 #[.int .u8 c.toNat] w fun e w' => e = .returned (.int .i64 (hexI c)) ∧ w = w' := by
  obtain ⟨v, hv⟩ : ∃ v, v = hexI c := ⟨_, rfl⟩
  rw [← hv]
  have hc := c.toNat_lt
  by_cases h1 : 48 ≤ c.toNat ∧ c.toNat ≤ 57
  · have hd : digB c = true := by simp [digB]; omega
    have HV := Lib.hid (show v = (c.toNat : Int) - 48 by
      rw [hv]; unfold hexI hexB hexV
      rw [hd, if_pos (by rfl), if_pos rfl]; omega)
    obtain ⟨a1, a2⟩ := h1
    clear hv hd
    go_enter Tryd.func33, Tryd.ntmps33
    go_wp2_with fail
    go_ret
    exact ⟨by rw [HV.out]; rfl, rfl⟩
  · have hd : digB c = false := by simp [digB]; omega
    by_cases h2 : 97 ≤ c.toNat ∧ c.toNat ≤ 102
    · have HV := Lib.hid (show v = (c.toNat : Int) - 97 + 10 by
        rw [hv]; unfold hexI hexB hexV
        rw [hd, if_pos (by simp; omega), if_neg (by decide)]; omega)
      obtain ⟨a1, a2⟩ := h2
      have a3 : ¬ (c.toNat : Int) ≤ 57 := by omega
      clear hv hd h1
      go_enter Tryd.func33, Tryd.ntmps33
      go_wp2_with fail
      go_ret
      exact ⟨by rw [HV.out]; rfl, rfl⟩
    · have HV := Lib.hid (show v = -1 by
        rw [hv]; unfold hexI hexB
        rw [hd, if_neg]
        simp; omega)
      have g1 : (decide ((48 : Int) ≤ (c.toNat : Int)) && decide ((c.toNat : Int) ≤ 57)) = false := by
        rw [Bool.and_eq_false_iff, decide_eq_false_iff_not, decide_eq_false_iff_not]; omega
      clear hv hd
      rcases (show c.toNat < 48 ∨ 57 < c.toNat ∧ c.toNat < 97 ∨ 102 < c.toNat by omega) with a | ⟨a, a2⟩ | a
      all_goals clear h1 h2 g1
      all_goals go_enter Tryd.func33, Tryd.ntmps33
      all_goals go_wp2_with fail
      all_goals go_ret
      all_goals exact ⟨by rw [HV.out]; rfl, rfl⟩

end Go.Proofs.YtnddnhjlaojllaaDoor
