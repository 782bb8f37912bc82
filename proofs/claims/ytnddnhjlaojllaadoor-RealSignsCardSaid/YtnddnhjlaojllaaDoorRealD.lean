/-
  The contracts of float.Op and the reference's RealOp: the least, the greatest, no operator.
-/
import Derived.Test.YtnddnhjlaojllaaDoorRealC
namespace Go.Proofs.YtnddnhjlaojllaaDoor
open Go.RowKit
set_option linter.unusedVariables false

theorem top_neg (a : Nat) (h : a < 18446744073709551616) : decide (wrap64 (a : Int) < 0) = sgn a := by
  unfold sgn
  rw [Bool.eq_iff_iff, decide_eq_true_iff, beq_iff_eq]
  unfold wrap64
  omega

theorem signbit_any (a : Nat) (w : World) (h : a < 18446744073709551616) :
    Calls Tryd.prog 39 #[.float .f64 a] w fun e w' => e = .returned (.bool (sgn a)) ∧ w = w' := by
  have hd := run_to
  have HT := Lib.hid (top_neg a h)
  clear h
  go_enter Tryd.func39, Tryd.ntmps39
  go_wp2_with fail
  go_ret
  exact ⟨by rw [← HT.out]; rfl, rfl⟩

def ltB (a b : Nat) : Bool := FloatKind.f64.format.order a b == some .lt
def eqB (a b : Nat) : Bool := FloatKind.f64.format.order a b == some .eq
def lessB (a b : Nat) : Bool := ltB a b || eqB a b && sgn a
/-- The least (l = true), the greatest. -/
def endF (l : Bool) (a b : Nat) : Nat :=
  if nanB a || nanB b then 9221120237041090560 else if lessB a b == l then a else b
/-- .. as the reference has it. -/
def lessR (a b : Nat) : Bool := ltB a b || eqB a b && decide (b / 9223372036854775808 < a / 9223372036854775808)
def endR (l : Bool) (a b : Nat) : Nat :=
  if nanB a || nanB b then 9221120237041090560 else if lessR a b == l then a else b

theorem clean_same {a : Nat} (h : nanB a = false) : cleanB a = a := by unfold cleanB; rw [h]; rfl

set_option maxHeartbeats 4000000 in
theorem op_min (s : ByteArray) (a b : Nat) (w : World) (ha : a < 18446744073709551616) (h : s.toList = [109, 105, 110]) :
    Calls Tryd.prog 19 #[.string s, .int .u64 a, .int .u64 b] w (OpPost w (endF true a b) true) := by
  have c0 : (s.toList == [43]) = false := by rw [h]; rfl
  have c1 : (s.toList == [45]) = false := by rw [h]; rfl
  have c2 : (s.toList == [42]) = false := by rw [h]; rfl
  have c3 : (s.toList == [47]) = false := by rw [h]; rfl
  have c5 : (s.toList == [109, 105, 110]) = true := by rw [h]; rfl
  have hf := run_from
  clear h
  cases hna : nanB a
  · cases hnb : nanB b
    · have CA := Lib.hid (clean_same hna); have CB := Lib.hid (clean_same hnb)
      cases hl : (FloatKind.f64.format.order a b == some .lt)
      · cases he : (FloatKind.f64.format.order a b == some .eq)
        · have hr : endF true a b = b := by simp [endF, lessB, ltB, eqB, hna, hnb, hl, he]
          rw [hr]
          have NA := Lib.hid hna; have NB := Lib.hid hnb; clear hna hnb
          clear hr
          go_enter Tryd.func19, Tryd.ntmps19
          go_wp2_with (first | (go_at_call 37; refine (isNaN_any _ _).mono ?_; rintro e w1 ⟨rfl, rfl⟩; first | rw [NA.out] | rw [NB.out]) | (go_at_call 30; refine (bits_any _ _).mono ?_; rintro e w1 ⟨rfl, rfl⟩; first | rw [CA.out] | rw [CB.out]) | (go_at_call 39; refine (signbit_any _ _ ha).mono ?_; rintro e w1 ⟨rfl, rfl⟩; rw [HS.out]))
          go_ret2
          exact ⟨rfl, 0, rfl⟩
        · cases hs : sgn a
          · have hr : endF true a b = b := by simp [endF, lessB, ltB, eqB, hna, hnb, hl, he, hs]
            rw [hr]
            have NA := Lib.hid hna; have NB := Lib.hid hnb; have HS := Lib.hid hs; clear hna hnb hs
            clear hr
            go_enter Tryd.func19, Tryd.ntmps19
            go_wp2_with (first | (go_at_call 37; refine (isNaN_any _ _).mono ?_; rintro e w1 ⟨rfl, rfl⟩; first | rw [NA.out] | rw [NB.out]) | (go_at_call 30; refine (bits_any _ _).mono ?_; rintro e w1 ⟨rfl, rfl⟩; first | rw [CA.out] | rw [CB.out]) | (go_at_call 39; refine (signbit_any _ _ ha).mono ?_; rintro e w1 ⟨rfl, rfl⟩; rw [HS.out]))
            go_ret2
            exact ⟨rfl, 0, rfl⟩
          · have hr : endF true a b = a := by simp [endF, lessB, ltB, eqB, hna, hnb, hl, he, hs]
            rw [hr]
            have NA := Lib.hid hna; have NB := Lib.hid hnb; have HS := Lib.hid hs; clear hna hnb hs
            clear hr
            go_enter Tryd.func19, Tryd.ntmps19
            go_wp2_with (first | (go_at_call 37; refine (isNaN_any _ _).mono ?_; rintro e w1 ⟨rfl, rfl⟩; first | rw [NA.out] | rw [NB.out]) | (go_at_call 30; refine (bits_any _ _).mono ?_; rintro e w1 ⟨rfl, rfl⟩; first | rw [CA.out] | rw [CB.out]) | (go_at_call 39; refine (signbit_any _ _ ha).mono ?_; rintro e w1 ⟨rfl, rfl⟩; rw [HS.out]))
            go_ret2
            exact ⟨rfl, 0, rfl⟩
      · have hr : endF true a b = a := by simp [endF, lessB, ltB, eqB, hna, hnb, hl]
        rw [hr]
        have NA := Lib.hid hna; have NB := Lib.hid hnb; clear hna hnb
        clear hr
        go_enter Tryd.func19, Tryd.ntmps19
        go_wp2_with (first | (go_at_call 37; refine (isNaN_any _ _).mono ?_; rintro e w1 ⟨rfl, rfl⟩; first | rw [NA.out] | rw [NB.out]) | (go_at_call 30; refine (bits_any _ _).mono ?_; rintro e w1 ⟨rfl, rfl⟩; first | rw [CA.out] | rw [CB.out]) | (go_at_call 39; refine (signbit_any _ _ ha).mono ?_; rintro e w1 ⟨rfl, rfl⟩; rw [HS.out]))
        go_ret2
        exact ⟨rfl, 0, rfl⟩
    · have hr : endF true a b = 9221120237041090560 := by simp [endF, hna, hnb]
      rw [hr]
      have NA := Lib.hid hna; have NB := Lib.hid hnb; clear hna hnb
      clear hr
      go_enter Tryd.func19, Tryd.ntmps19
      go_wp2_with (first | (go_at_call 37; refine (isNaN_any _ _).mono ?_; rintro e w1 ⟨rfl, rfl⟩; first | rw [NA.out] | rw [NB.out]) | (go_at_call 30; refine (bits_any _ _).mono ?_; rintro e w1 ⟨rfl, rfl⟩; first | rw [CA.out] | rw [CB.out]) | (go_at_call 39; refine (signbit_any _ _ ha).mono ?_; rintro e w1 ⟨rfl, rfl⟩; rw [HS.out]))
      go_ret2
      exact ⟨rfl, 0, rfl⟩
  · have hr : endF true a b = 9221120237041090560 := by simp [endF, hna]
    rw [hr]
    have NA := Lib.hid hna; clear hna
    clear hr
    go_enter Tryd.func19, Tryd.ntmps19
    go_wp2_with (first | (go_at_call 37; refine (isNaN_any _ _).mono ?_; rintro e w1 ⟨rfl, rfl⟩; first | rw [NA.out] | rw [NB.out]) | (go_at_call 30; refine (bits_any _ _).mono ?_; rintro e w1 ⟨rfl, rfl⟩; first | rw [CA.out] | rw [CB.out]) | (go_at_call 39; refine (signbit_any _ _ ha).mono ?_; rintro e w1 ⟨rfl, rfl⟩; rw [HS.out]))
    go_ret2
    exact ⟨rfl, 0, rfl⟩

set_option maxHeartbeats 4000000 in
theorem rop_min (s : ByteArray) (a b : Nat) (w : World) (h : s.toList = [109, 105, 110]) :
    Calls Tryd.prog 21 #[.string s, .int .u64 a, .int .u64 b] w (OpPost w (endR true a b) true) := by
  have c0 : (s.toList == [43]) = false := by rw [h]; rfl
  have c1 : (s.toList == [45]) = false := by rw [h]; rfl
  have c2 : (s.toList == [42]) = false := by rw [h]; rfl
  have c3 : (s.toList == [47]) = false := by rw [h]; rfl
  have c5 : (s.toList == [109, 105, 110]) = true := by rw [h]; rfl
  have hf := run_from
  clear h
  cases hna : nanB a
  · have ra : (FloatKind.f64.format.order a a != some .eq) = false := hna
    cases hnb : nanB b
    · have rb : (FloatKind.f64.format.order b b != some .eq) = false := hnb
      cases hl : (FloatKind.f64.format.order a b == some .lt)
      · cases he : (FloatKind.f64.format.order a b == some .eq)
        · have hr : endR true a b = b := by simp [endR, lessR, ltB, eqB, hna, hnb, hl, he]
          rw [hr]
          clear hna hnb
          clear hr
          go_enter Tryd.func21, Tryd.ntmps21
          go_wp2_with fail
          go_ret2
          exact ⟨rfl, 0, rfl⟩
        · by_cases hs : b / 9223372036854775808 < a / 9223372036854775808
          · have hr : endR true a b = a := by simp [endR, lessR, ltB, eqB, hna, hnb, hl, he, hs]
            rw [hr]
            have hs2 : (b : Int) / 9223372036854775808 < (a : Int) / 9223372036854775808 := by omega
            clear hna hnb hs
            clear hr
            go_enter Tryd.func21, Tryd.ntmps21
            go_wp2_with fail
            go_ret2
            exact ⟨rfl, 0, rfl⟩
          · have hr : endR true a b = b := by simp [endR, lessR, ltB, eqB, hna, hnb, hl, he, hs]
            rw [hr]
            have hs2 : ¬ (b : Int) / 9223372036854775808 < (a : Int) / 9223372036854775808 := by omega
            clear hna hnb hs
            clear hr
            go_enter Tryd.func21, Tryd.ntmps21
            go_wp2_with fail
            go_ret2
            exact ⟨rfl, 0, rfl⟩
      · have hr : endR true a b = a := by simp [endR, lessR, ltB, eqB, hna, hnb, hl]
        rw [hr]
        clear hna hnb
        clear hr
        go_enter Tryd.func21, Tryd.ntmps21
        go_wp2_with fail
        go_ret2
        exact ⟨rfl, 0, rfl⟩
    · have rb : (FloatKind.f64.format.order b b != some .eq) = true := hnb
      have hr : endR true a b = 9221120237041090560 := by simp [endR, hna, hnb]
      rw [hr]
      clear hna hnb
      clear hr
      go_enter Tryd.func21, Tryd.ntmps21
      go_wp2_with fail
      go_ret2
      exact ⟨rfl, 0, rfl⟩
  · have ra : (FloatKind.f64.format.order a a != some .eq) = true := hna
    have hr : endR true a b = 9221120237041090560 := by simp [endR, hna]
    rw [hr]
    clear hna
    clear hr
    go_enter Tryd.func21, Tryd.ntmps21
    go_wp2_with fail
    go_ret2
    exact ⟨rfl, 0, rfl⟩

set_option maxHeartbeats 4000000 in
theorem op_max (s : ByteArray) (a b : Nat) (w : World) (ha : a < 18446744073709551616) (h : s.toList = [109, 97, 120]) :
    Calls Tryd.prog 19 #[.string s, .int .u64 a, .int .u64 b] w (OpPost w (endF false a b) true) := by
  have c0 : (s.toList == [43]) = false := by rw [h]; rfl
  have c1 : (s.toList == [45]) = false := by rw [h]; rfl
  have c2 : (s.toList == [42]) = false := by rw [h]; rfl
  have c3 : (s.toList == [47]) = false := by rw [h]; rfl
  have c5 : (s.toList == [109, 105, 110]) = false := by rw [h]; rfl
  have c6 : (s.toList == [109, 97, 120]) = true := by rw [h]; rfl
  have hf := run_from
  clear h
  cases hna : nanB a
  · cases hnb : nanB b
    · have CA := Lib.hid (clean_same hna); have CB := Lib.hid (clean_same hnb)
      cases hl : (FloatKind.f64.format.order a b == some .lt)
      · cases he : (FloatKind.f64.format.order a b == some .eq)
        · have hr : endF false a b = a := by simp [endF, lessB, ltB, eqB, hna, hnb, hl, he]
          rw [hr]
          have NA := Lib.hid hna; have NB := Lib.hid hnb; clear hna hnb
          clear hr
          go_enter Tryd.func19, Tryd.ntmps19
          go_wp2_with (first | (go_at_call 37; refine (isNaN_any _ _).mono ?_; rintro e w1 ⟨rfl, rfl⟩; first | rw [NA.out] | rw [NB.out]) | (go_at_call 30; refine (bits_any _ _).mono ?_; rintro e w1 ⟨rfl, rfl⟩; first | rw [CA.out] | rw [CB.out]) | (go_at_call 39; refine (signbit_any _ _ ha).mono ?_; rintro e w1 ⟨rfl, rfl⟩; rw [HS.out]))
          go_ret2
          exact ⟨rfl, 0, rfl⟩
        · cases hs : sgn a
          · have hr : endF false a b = a := by simp [endF, lessB, ltB, eqB, hna, hnb, hl, he, hs]
            rw [hr]
            have NA := Lib.hid hna; have NB := Lib.hid hnb; have HS := Lib.hid hs; clear hna hnb hs
            clear hr
            go_enter Tryd.func19, Tryd.ntmps19
            go_wp2_with (first | (go_at_call 37; refine (isNaN_any _ _).mono ?_; rintro e w1 ⟨rfl, rfl⟩; first | rw [NA.out] | rw [NB.out]) | (go_at_call 30; refine (bits_any _ _).mono ?_; rintro e w1 ⟨rfl, rfl⟩; first | rw [CA.out] | rw [CB.out]) | (go_at_call 39; refine (signbit_any _ _ ha).mono ?_; rintro e w1 ⟨rfl, rfl⟩; rw [HS.out]))
            go_ret2
            exact ⟨rfl, 0, rfl⟩
          · have hr : endF false a b = b := by simp [endF, lessB, ltB, eqB, hna, hnb, hl, he, hs]
            rw [hr]
            have NA := Lib.hid hna; have NB := Lib.hid hnb; have HS := Lib.hid hs; clear hna hnb hs
            clear hr
            go_enter Tryd.func19, Tryd.ntmps19
            go_wp2_with (first | (go_at_call 37; refine (isNaN_any _ _).mono ?_; rintro e w1 ⟨rfl, rfl⟩; first | rw [NA.out] | rw [NB.out]) | (go_at_call 30; refine (bits_any _ _).mono ?_; rintro e w1 ⟨rfl, rfl⟩; first | rw [CA.out] | rw [CB.out]) | (go_at_call 39; refine (signbit_any _ _ ha).mono ?_; rintro e w1 ⟨rfl, rfl⟩; rw [HS.out]))
            go_ret2
            exact ⟨rfl, 0, rfl⟩
      · have hr : endF false a b = b := by simp [endF, lessB, ltB, eqB, hna, hnb, hl]
        rw [hr]
        have NA := Lib.hid hna; have NB := Lib.hid hnb; clear hna hnb
        clear hr
        go_enter Tryd.func19, Tryd.ntmps19
        go_wp2_with (first | (go_at_call 37; refine (isNaN_any _ _).mono ?_; rintro e w1 ⟨rfl, rfl⟩; first | rw [NA.out] | rw [NB.out]) | (go_at_call 30; refine (bits_any _ _).mono ?_; rintro e w1 ⟨rfl, rfl⟩; first | rw [CA.out] | rw [CB.out]) | (go_at_call 39; refine (signbit_any _ _ ha).mono ?_; rintro e w1 ⟨rfl, rfl⟩; rw [HS.out]))
        go_ret2
        exact ⟨rfl, 0, rfl⟩
    · have hr : endF false a b = 9221120237041090560 := by simp [endF, hna, hnb]
      rw [hr]
      have NA := Lib.hid hna; have NB := Lib.hid hnb; clear hna hnb
      clear hr
      go_enter Tryd.func19, Tryd.ntmps19
      go_wp2_with (first | (go_at_call 37; refine (isNaN_any _ _).mono ?_; rintro e w1 ⟨rfl, rfl⟩; first | rw [NA.out] | rw [NB.out]) | (go_at_call 30; refine (bits_any _ _).mono ?_; rintro e w1 ⟨rfl, rfl⟩; first | rw [CA.out] | rw [CB.out]) | (go_at_call 39; refine (signbit_any _ _ ha).mono ?_; rintro e w1 ⟨rfl, rfl⟩; rw [HS.out]))
      go_ret2
      exact ⟨rfl, 0, rfl⟩
  · have hr : endF false a b = 9221120237041090560 := by simp [endF, hna]
    rw [hr]
    have NA := Lib.hid hna; clear hna
    clear hr
    go_enter Tryd.func19, Tryd.ntmps19
    go_wp2_with (first | (go_at_call 37; refine (isNaN_any _ _).mono ?_; rintro e w1 ⟨rfl, rfl⟩; first | rw [NA.out] | rw [NB.out]) | (go_at_call 30; refine (bits_any _ _).mono ?_; rintro e w1 ⟨rfl, rfl⟩; first | rw [CA.out] | rw [CB.out]) | (go_at_call 39; refine (signbit_any _ _ ha).mono ?_; rintro e w1 ⟨rfl, rfl⟩; rw [HS.out]))
    go_ret2
    exact ⟨rfl, 0, rfl⟩

set_option maxHeartbeats 4000000 in
theorem rop_max (s : ByteArray) (a b : Nat) (w : World) (h : s.toList = [109, 97, 120]) :
    Calls Tryd.prog 21 #[.string s, .int .u64 a, .int .u64 b] w (OpPost w (endR false a b) true) := by
  have c0 : (s.toList == [43]) = false := by rw [h]; rfl
  have c1 : (s.toList == [45]) = false := by rw [h]; rfl
  have c2 : (s.toList == [42]) = false := by rw [h]; rfl
  have c3 : (s.toList == [47]) = false := by rw [h]; rfl
  have c5 : (s.toList == [109, 105, 110]) = false := by rw [h]; rfl
  have c6 : (s.toList == [109, 97, 120]) = true := by rw [h]; rfl
  have hf := run_from
  clear h
  cases hna : nanB a
  · have ra : (FloatKind.f64.format.order a a != some .eq) = false := hna
    cases hnb : nanB b
    · have rb : (FloatKind.f64.format.order b b != some .eq) = false := hnb
      cases hl : (FloatKind.f64.format.order a b == some .lt)
      · cases he : (FloatKind.f64.format.order a b == some .eq)
        · have hr : endR false a b = a := by simp [endR, lessR, ltB, eqB, hna, hnb, hl, he]
          rw [hr]
          clear hna hnb
          clear hr
          go_enter Tryd.func21, Tryd.ntmps21
          go_wp2_with fail
          go_ret2
          exact ⟨rfl, 0, rfl⟩
        · by_cases hs : b / 9223372036854775808 < a / 9223372036854775808
          · have hr : endR false a b = b := by simp [endR, lessR, ltB, eqB, hna, hnb, hl, he, hs]
            rw [hr]
            have hs2 : (b : Int) / 9223372036854775808 < (a : Int) / 9223372036854775808 := by omega
            clear hna hnb hs
            clear hr
            go_enter Tryd.func21, Tryd.ntmps21
            go_wp2_with fail
            go_ret2
            exact ⟨rfl, 0, rfl⟩
          · have hr : endR false a b = a := by simp [endR, lessR, ltB, eqB, hna, hnb, hl, he, hs]
            rw [hr]
            have hs2 : ¬ (b : Int) / 9223372036854775808 < (a : Int) / 9223372036854775808 := by omega
            clear hna hnb hs
            clear hr
            go_enter Tryd.func21, Tryd.ntmps21
            go_wp2_with fail
            go_ret2
            exact ⟨rfl, 0, rfl⟩
      · have hr : endR false a b = b := by simp [endR, lessR, ltB, eqB, hna, hnb, hl]
        rw [hr]
        clear hna hnb
        clear hr
        go_enter Tryd.func21, Tryd.ntmps21
        go_wp2_with fail
        go_ret2
        exact ⟨rfl, 0, rfl⟩
    · have rb : (FloatKind.f64.format.order b b != some .eq) = true := hnb
      have hr : endR false a b = 9221120237041090560 := by simp [endR, hna, hnb]
      rw [hr]
      clear hna hnb
      clear hr
      go_enter Tryd.func21, Tryd.ntmps21
      go_wp2_with fail
      go_ret2
      exact ⟨rfl, 0, rfl⟩
  · have ra : (FloatKind.f64.format.order a a != some .eq) = true := hna
    have hr : endR false a b = 9221120237041090560 := by simp [endR, hna]
    rw [hr]
    clear hna
    clear hr
    go_enter Tryd.func21, Tryd.ntmps21
    go_wp2_with fail
    go_ret2
    exact ⟨rfl, 0, rfl⟩

theorem op_none (s : ByteArray) (a b : Nat) (w : World) (h0 : (s.toList == [43]) = false) (h1 : (s.toList == [45]) = false) (h2 : (s.toList == [42]) = false) (h3 : (s.toList == [47]) = false) (h4 : (s.toList == [109, 105, 110]) = false) (h5 : (s.toList == [109, 97, 120]) = false) :
    Calls Tryd.prog 19 #[.string s, .int .u64 a, .int .u64 b] w (OpPost w 0 false) := by
  have hf := run_from
  cases hna : nanB a
  · cases hnb : nanB b
    all_goals (
      have NA := Lib.hid hna; have NB := Lib.hid hnb; clear hna hnb
      go_enter Tryd.func19, Tryd.ntmps19
      go_wp2_with (first | (go_at_call 37; refine (isNaN_any _ _).mono ?_; rintro e w1 ⟨rfl, rfl⟩; first | rw [NA.out] | rw [NB.out]))
      go_ret2
      exact ⟨rfl, 0, rfl⟩)
  · have NA := Lib.hid hna; clear hna
    go_enter Tryd.func19, Tryd.ntmps19
    go_wp2_with (first | (go_at_call 37; refine (isNaN_any _ _).mono ?_; rintro e w1 ⟨rfl, rfl⟩; rw [NA.out]))
    go_ret2
    exact ⟨rfl, 0, rfl⟩
theorem rop_none (s : ByteArray) (a b : Nat) (w : World) (h0 : (s.toList == [43]) = false) (h1 : (s.toList == [45]) = false) (h2 : (s.toList == [42]) = false) (h3 : (s.toList == [47]) = false) (h4 : (s.toList == [109, 105, 110]) = false) (h5 : (s.toList == [109, 97, 120]) = false) :
    Calls Tryd.prog 21 #[.string s, .int .u64 a, .int .u64 b] w (OpPost w 0 false) := by
  have hf := run_from
  go_enter Tryd.func21, Tryd.ntmps21
  go_wp2_with fail
  go_ret2
  exact ⟨rfl, 0, rfl⟩

end Go.Proofs.YtnddnhjlaojllaaDoor
