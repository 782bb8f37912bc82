/-
  The contracts of float.Op and the reference's RealOp: the four operations.
-/
import Derived.Test.YtnddnhjlaojllaaDoorRealB
namespace Go.Proofs.YtnddnhjlaojllaaDoor
open Go.RowKit
set_option linter.unusedVariables false

def OpPost (w : World) (r : Nat) (ok : Bool) (e : Ending) (w' : World) : Prop := e = .returned (.tuple #[.int .u64 r, .bool ok]) ∧ ∃ q, w' = w.drewN q

set_option maxHeartbeats 1000000 in
theorem op_add (s : ByteArray) (a b : Nat) (w : World) (h : s.toList = [43]) :
    Calls Tryd.prog 19 #[.string s, .int .u64 a, .int .u64 b] w (OpPost w (arithF .add a b) true) := by
  obtain ⟨D, q, hD, hC⟩ := arith_run .add (by simp) a b Tryd.prog
  have HC := Lib.hid hC; clear hC
  have c0 : (s.toList == [43]) = true := by rw [h]; rfl
  have hf := run_from
  clear h
  cases hna : nanB a
  · cases hnb : nanB b
    all_goals (
      have NA := Lib.hid hna; have NB := Lib.hid hnb; clear hna hnb
      go_enter Tryd.func19, Tryd.ntmps19
      go_wp2_with fail
      refine (isNaN_any _ _).mono ?_
      rintro e w1 ⟨rfl, rfl⟩
      rw [NA.out]
      go_wp2_with fail
      refine (isNaN_any _ _).mono ?_
      rintro e w1 ⟨rfl, rfl⟩
      rw [NB.out]
      go_wp2_with fail
      refine (bits_any _ _).mono ?_
      rintro e w1 ⟨rfl, rfl⟩
      rw [HC.out]
      go_wp2_with fail
      go_ret2
      exact ⟨rfl, _, rfl⟩)
  · have NA := Lib.hid hna; clear hna
    go_enter Tryd.func19, Tryd.ntmps19
    go_wp2_with fail
    refine (isNaN_any _ _).mono ?_
    rintro e w1 ⟨rfl, rfl⟩
    rw [NA.out]
    go_wp2_with fail
    refine (bits_any _ _).mono ?_
    rintro e w1 ⟨rfl, rfl⟩
    rw [HC.out]
    go_wp2_with fail
    go_ret2
    exact ⟨rfl, _, rfl⟩

set_option maxHeartbeats 1000000 in
theorem rop_add (s : ByteArray) (a b : Nat) (w : World) (h : s.toList = [43]) :
    Calls Tryd.prog 21 #[.string s, .int .u64 a, .int .u64 b] w (OpPost w (arithF .add a b) true) := by
  obtain ⟨D, q, hD, hC⟩ := arith_run .add (by simp) a b Tryd.prog
  have HC := Lib.hid hC; clear hC
  have c0 : (s.toList == [43]) = true := by rw [h]; rfl
  have hf := run_from
  clear h
  go_enter Tryd.func21, Tryd.ntmps21
  go_wp2_with fail
  refine (clean_any _ _).mono ?_
  rintro e w1 ⟨rfl, rfl⟩
  rw [HC.out]
  go_wp2_with fail
  go_ret2
  exact ⟨rfl, _, rfl⟩

set_option maxHeartbeats 1000000 in
theorem op_sub (s : ByteArray) (a b : Nat) (w : World) (h : s.toList = [45]) :
    Calls Tryd.prog 19 #[.string s, .int .u64 a, .int .u64 b] w (OpPost w (arithF .sub a b) true) := by
  obtain ⟨D, q, hD, hC⟩ := arith_run .sub (by simp) a b Tryd.prog
  have HC := Lib.hid hC; clear hC
  have c0 : (s.toList == [43]) = false := by rw [h]; rfl
  have c1 : (s.toList == [45]) = true := by rw [h]; rfl
  have hf := run_from
  clear h
  cases hna : nanB a
  · cases hnb : nanB b
    all_goals (
      have NA := Lib.hid hna; have NB := Lib.hid hnb; clear hna hnb
      go_enter Tryd.func19, Tryd.ntmps19
      go_wp2_with fail
      refine (isNaN_any _ _).mono ?_
      rintro e w1 ⟨rfl, rfl⟩
      rw [NA.out]
      go_wp2_with fail
      refine (isNaN_any _ _).mono ?_
      rintro e w1 ⟨rfl, rfl⟩
      rw [NB.out]
      go_wp2_with fail
      refine (bits_any _ _).mono ?_
      rintro e w1 ⟨rfl, rfl⟩
      rw [HC.out]
      go_wp2_with fail
      go_ret2
      exact ⟨rfl, _, rfl⟩)
  · have NA := Lib.hid hna; clear hna
    go_enter Tryd.func19, Tryd.ntmps19
    go_wp2_with fail
    refine (isNaN_any _ _).mono ?_
    rintro e w1 ⟨rfl, rfl⟩
    rw [NA.out]
    go_wp2_with fail
    refine (bits_any _ _).mono ?_
    rintro e w1 ⟨rfl, rfl⟩
    rw [HC.out]
    go_wp2_with fail
    go_ret2
    exact ⟨rfl, _, rfl⟩

set_option maxHeartbeats 1000000 in
theorem rop_sub (s : ByteArray) (a b : Nat) (w : World) (h : s.toList = [45]) :
    Calls Tryd.prog 21 #[.string s, .int .u64 a, .int .u64 b] w (OpPost w (arithF .sub a b) true) := by
  obtain ⟨D, q, hD, hC⟩ := arith_run .sub (by simp) a b Tryd.prog
  have HC := Lib.hid hC; clear hC
  have c0 : (s.toList == [43]) = false := by rw [h]; rfl
  have c1 : (s.toList == [45]) = true := by rw [h]; rfl
  have hf := run_from
  clear h
  go_enter Tryd.func21, Tryd.ntmps21
  go_wp2_with fail
  refine (clean_any _ _).mono ?_
  rintro e w1 ⟨rfl, rfl⟩
  rw [HC.out]
  go_wp2_with fail
  go_ret2
  exact ⟨rfl, _, rfl⟩

set_option maxHeartbeats 1000000 in
theorem op_mul (s : ByteArray) (a b : Nat) (w : World) (h : s.toList = [42]) :
    Calls Tryd.prog 19 #[.string s, .int .u64 a, .int .u64 b] w (OpPost w (arithF .mul a b) true) := by
  obtain ⟨D, q, hD, hC⟩ := arith_run .mul (by simp) a b Tryd.prog
  have HC := Lib.hid hC; clear hC
  have c0 : (s.toList == [43]) = false := by rw [h]; rfl
  have c1 : (s.toList == [45]) = false := by rw [h]; rfl
  have c2 : (s.toList == [42]) = true := by rw [h]; rfl
  have hf := run_from
  clear h
  cases hna : nanB a
  · cases hnb : nanB b
    all_goals (
      have NA := Lib.hid hna; have NB := Lib.hid hnb; clear hna hnb
      go_enter Tryd.func19, Tryd.ntmps19
      go_wp2_with fail
      refine (isNaN_any _ _).mono ?_
      rintro e w1 ⟨rfl, rfl⟩
      rw [NA.out]
      go_wp2_with fail
      refine (isNaN_any _ _).mono ?_
      rintro e w1 ⟨rfl, rfl⟩
      rw [NB.out]
      go_wp2_with fail
      refine (bits_any _ _).mono ?_
      rintro e w1 ⟨rfl, rfl⟩
      rw [HC.out]
      go_wp2_with fail
      go_ret2
      exact ⟨rfl, _, rfl⟩)
  · have NA := Lib.hid hna; clear hna
    go_enter Tryd.func19, Tryd.ntmps19
    go_wp2_with fail
    refine (isNaN_any _ _).mono ?_
    rintro e w1 ⟨rfl, rfl⟩
    rw [NA.out]
    go_wp2_with fail
    refine (bits_any _ _).mono ?_
    rintro e w1 ⟨rfl, rfl⟩
    rw [HC.out]
    go_wp2_with fail
    go_ret2
    exact ⟨rfl, _, rfl⟩

set_option maxHeartbeats 1000000 in
theorem rop_mul (s : ByteArray) (a b : Nat) (w : World) (h : s.toList = [42]) :
    Calls Tryd.prog 21 #[.string s, .int .u64 a, .int .u64 b] w (OpPost w (arithF .mul a b) true) := by
  obtain ⟨D, q, hD, hC⟩ := arith_run .mul (by simp) a b Tryd.prog
  have HC := Lib.hid hC; clear hC
  have c0 : (s.toList == [43]) = false := by rw [h]; rfl
  have c1 : (s.toList == [45]) = false := by rw [h]; rfl
  have c2 : (s.toList == [42]) = true := by rw [h]; rfl
  have hf := run_from
  clear h
  go_enter Tryd.func21, Tryd.ntmps21
  go_wp2_with fail
  refine (clean_any _ _).mono ?_
  rintro e w1 ⟨rfl, rfl⟩
  rw [HC.out]
  go_wp2_with fail
  go_ret2
  exact ⟨rfl, _, rfl⟩

set_option maxHeartbeats 1000000 in
theorem op_quo (s : ByteArray) (a b : Nat) (w : World) (h : s.toList = [47]) :
    Calls Tryd.prog 19 #[.string s, .int .u64 a, .int .u64 b] w (OpPost w (arithF .quo a b) true) := by
  obtain ⟨D, q, hD, hC⟩ := arith_run .quo (by simp) a b Tryd.prog
  have HC := Lib.hid hC; clear hC
  have c0 : (s.toList == [43]) = false := by rw [h]; rfl
  have c1 : (s.toList == [45]) = false := by rw [h]; rfl
  have c2 : (s.toList == [42]) = false := by rw [h]; rfl
  have c3 : (s.toList == [47]) = true := by rw [h]; rfl
  have hf := run_from
  clear h
  cases hna : nanB a
  · cases hnb : nanB b
    all_goals (
      have NA := Lib.hid hna; have NB := Lib.hid hnb; clear hna hnb
      go_enter Tryd.func19, Tryd.ntmps19
      go_wp2_with fail
      refine (isNaN_any _ _).mono ?_
      rintro e w1 ⟨rfl, rfl⟩
      rw [NA.out]
      go_wp2_with fail
      refine (isNaN_any _ _).mono ?_
      rintro e w1 ⟨rfl, rfl⟩
      rw [NB.out]
      go_wp2_with fail
      refine (bits_any _ _).mono ?_
      rintro e w1 ⟨rfl, rfl⟩
      rw [HC.out]
      go_wp2_with fail
      go_ret2
      exact ⟨rfl, _, rfl⟩)
  · have NA := Lib.hid hna; clear hna
    go_enter Tryd.func19, Tryd.ntmps19
    go_wp2_with fail
    refine (isNaN_any _ _).mono ?_
    rintro e w1 ⟨rfl, rfl⟩
    rw [NA.out]
    go_wp2_with fail
    refine (bits_any _ _).mono ?_
    rintro e w1 ⟨rfl, rfl⟩
    rw [HC.out]
    go_wp2_with fail
    go_ret2
    exact ⟨rfl, _, rfl⟩

set_option maxHeartbeats 1000000 in
theorem rop_quo (s : ByteArray) (a b : Nat) (w : World) (h : s.toList = [47]) :
    Calls Tryd.prog 21 #[.string s, .int .u64 a, .int .u64 b] w (OpPost w (arithF .quo a b) true) := by
  obtain ⟨D, q, hD, hC⟩ := arith_run .quo (by simp) a b Tryd.prog
  have HC := Lib.hid hC; clear hC
  have c0 : (s.toList == [43]) = false := by rw [h]; rfl
  have c1 : (s.toList == [45]) = false := by rw [h]; rfl
  have c2 : (s.toList == [42]) = false := by rw [h]; rfl
  have c3 : (s.toList == [47]) = true := by rw [h]; rfl
  have hf := run_from
  clear h
  go_enter Tryd.func21, Tryd.ntmps21
  go_wp2_with fail
  refine (clean_any _ _).mono ?_
  rintro e w1 ⟨rfl, rfl⟩
  rw [HC.out]
  go_wp2_with fail
  go_ret2
  exact ⟨rfl, _, rfl⟩

end Go.Proofs.YtnddnhjlaojllaaDoor
