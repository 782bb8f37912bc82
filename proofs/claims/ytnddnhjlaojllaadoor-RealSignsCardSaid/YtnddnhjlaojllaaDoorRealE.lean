/-
  The contracts of float.Is and the reference's RealIs; of both Op's whole.
-/
import Derived.Test.YtnddnhjlaojllaaDoorRealD
namespace Go.Proofs.YtnddnhjlaojllaaDoor
open Go.RowKit
set_option linter.unusedVariables false

def gtB (a b : Nat) : Bool := FloatKind.f64.format.order a b == some .gt
def IsPost (w : World) (r ok : Bool) (e : Ending) (w' : World) : Prop := e = .returned (.tuple #[.bool r, .bool ok]) ∧ ∃ q, w' = w.drewN q

theorem int_beq (x y : Nat) : ((x : Int) == (y : Int)) = (x == y) := by
  rw [Bool.eq_iff_iff, beq_iff_eq, beq_iff_eq]; omega

theorem is_lt (s : ByteArray) (a b : Nat) (w : World) (h : s.toList = [108, 116]) :
    Calls Tryd.prog 22 #[.string s, .int .u64 a, .int .u64 b] w (IsPost w (ltB a b) true) := by
  have c0 : (s.toList == [108, 116]) = true := by rw [h]; rfl
  clear h
  have hf := run_from
  go_enter Tryd.func22, Tryd.ntmps22
  go_wp2_with fail
  go_ret2
  exact ⟨rfl, 0, rfl⟩

theorem is_le (s : ByteArray) (a b : Nat) (w : World) (h : s.toList = [108, 101]) :
    Calls Tryd.prog 22 #[.string s, .int .u64 a, .int .u64 b] w (IsPost w (ltB a b || eqB a b) true) := by
  have c0 : (s.toList == [108, 116]) = false := by rw [h]; rfl
  have c1 : (s.toList == [108, 101]) = true := by rw [h]; rfl
  clear h
  have hf := run_from
  go_enter Tryd.func22, Tryd.ntmps22
  go_wp2_with fail
  all_goals (go_ret2; exact ⟨rfl, 0, rfl⟩)

theorem is_gt (s : ByteArray) (a b : Nat) (w : World) (h : s.toList = [103, 116]) :
    Calls Tryd.prog 22 #[.string s, .int .u64 a, .int .u64 b] w (IsPost w (gtB a b) true) := by
  have c0 : (s.toList == [108, 116]) = false := by rw [h]; rfl
  have c1 : (s.toList == [108, 101]) = false := by rw [h]; rfl
  have c2 : (s.toList == [103, 116]) = true := by rw [h]; rfl
  clear h
  have hf := run_from
  go_enter Tryd.func22, Tryd.ntmps22
  go_wp2_with fail
  go_ret2
  exact ⟨rfl, 0, rfl⟩

theorem is_ge (s : ByteArray) (a b : Nat) (w : World) (h : s.toList = [103, 101]) :
    Calls Tryd.prog 22 #[.string s, .int .u64 a, .int .u64 b] w (IsPost w (gtB a b || eqB a b) true) := by
  have c0 : (s.toList == [108, 116]) = false := by rw [h]; rfl
  have c1 : (s.toList == [108, 101]) = false := by rw [h]; rfl
  have c2 : (s.toList == [103, 116]) = false := by rw [h]; rfl
  have c3 : (s.toList == [103, 101]) = true := by rw [h]; rfl
  clear h
  have hf := run_from
  go_enter Tryd.func22, Tryd.ntmps22
  go_wp2_with fail
  all_goals (go_ret2; exact ⟨rfl, 0, rfl⟩)

theorem is_eq (s : ByteArray) (a b : Nat) (w : World) (h : s.toList = [101, 113]) :
    Calls Tryd.prog 22 #[.string s, .int .u64 a, .int .u64 b] w (IsPost w (eqB a b) true) := by
  have c0 : (s.toList == [108, 116]) = false := by rw [h]; rfl
  have c1 : (s.toList == [108, 101]) = false := by rw [h]; rfl
  have c2 : (s.toList == [103, 116]) = false := by rw [h]; rfl
  have c3 : (s.toList == [103, 101]) = false := by rw [h]; rfl
  have c4 : (s.toList == [101, 113]) = true := by rw [h]; rfl
  clear h
  have hf := run_from
  go_enter Tryd.func22, Tryd.ntmps22
  go_wp2_with fail
  go_ret2
  exact ⟨rfl, 0, rfl⟩

theorem is_ne (s : ByteArray) (a b : Nat) (w : World) (h : s.toList = [110, 101]) :
    Calls Tryd.prog 22 #[.string s, .int .u64 a, .int .u64 b] w (IsPost w (!eqB a b) true) := by
  have c0 : (s.toList == [108, 116]) = false := by rw [h]; rfl
  have c1 : (s.toList == [108, 101]) = false := by rw [h]; rfl
  have c2 : (s.toList == [103, 116]) = false := by rw [h]; rfl
  have c3 : (s.toList == [103, 101]) = false := by rw [h]; rfl
  have c4 : (s.toList == [101, 113]) = false := by rw [h]; rfl
  have c5 : (s.toList == [110, 101]) = true := by rw [h]; rfl
  clear h
  have hf := run_from
  go_enter Tryd.func22, Tryd.ntmps22
  go_wp2_with fail
  go_ret2
  exact ⟨rfl, 0, rfl⟩

theorem is_same (s : ByteArray) (a b : Nat) (w : World) (h : s.toList = [115, 97, 109, 101]) :
    Calls Tryd.prog 22 #[.string s, .int .u64 a, .int .u64 b] w (IsPost w (cleanB a == cleanB b) true) := by
  have c0 : (s.toList == [108, 116]) = false := by rw [h]; rfl
  have c1 : (s.toList == [108, 101]) = false := by rw [h]; rfl
  have c2 : (s.toList == [103, 116]) = false := by rw [h]; rfl
  have c3 : (s.toList == [103, 101]) = false := by rw [h]; rfl
  have c4 : (s.toList == [101, 113]) = false := by rw [h]; rfl
  have c5 : (s.toList == [110, 101]) = false := by rw [h]; rfl
  have c6 : (s.toList == [115, 97, 109, 101]) = true := by rw [h]; rfl
  clear h
  have hf := run_from
  obtain ⟨x, hx⟩ : ∃ x, x = cleanB a := ⟨_, rfl⟩
  obtain ⟨y, hy⟩ : ∃ y, y = cleanB b := ⟨_, rfl⟩
  rw [← hx, ← hy]
  have HX := Lib.hid hx; have HY := Lib.hid hy; clear hx hy
  go_enter Tryd.func22, Tryd.ntmps22
  go_wp2_with fail
  refine (bits_any _ _).mono ?_
  rintro e w1 ⟨rfl, rfl⟩
  rw [← HX.out]
  go_wp2_with fail
  refine (bits_any _ _).mono ?_
  rintro e w1 ⟨rfl, rfl⟩
  rw [← HY.out]
  go_wp2_with fail
  go_ret2
  refine ⟨?_, 0, rfl⟩
  rw [← int_beq]
  rfl

theorem is_none (s : ByteArray) (a b : Nat) (w : World) (h0 : (s.toList == [108, 116]) = false) (h1 : (s.toList == [108, 101]) = false) (h2 : (s.toList == [103, 116]) = false) (h3 : (s.toList == [103, 101]) = false) (h4 : (s.toList == [101, 113]) = false) (h5 : (s.toList == [110, 101]) = false) (h6 : (s.toList == [115, 97, 109, 101]) = false) :
    Calls Tryd.prog 22 #[.string s, .int .u64 a, .int .u64 b] w (IsPost w (false) false) := by
  have hf := run_from
  go_enter Tryd.func22, Tryd.ntmps22
  go_wp2_with fail
  go_ret2
  exact ⟨rfl, 0, rfl⟩

theorem ris_lt (s : ByteArray) (a b : Nat) (w : World) (h : s.toList = [108, 116]) :
    Calls Tryd.prog 23 #[.string s, .int .u64 a, .int .u64 b] w (IsPost w (ltB a b) true) := by
  have c0 : (s.toList == [108, 116]) = true := by rw [h]; rfl
  clear h
  have hf := run_from
  go_enter Tryd.func23, Tryd.ntmps23
  go_wp2_with fail
  go_ret2
  exact ⟨rfl, 0, rfl⟩

theorem ris_le (s : ByteArray) (a b : Nat) (w : World) (h : s.toList = [108, 101]) :
    Calls Tryd.prog 23 #[.string s, .int .u64 a, .int .u64 b] w (IsPost w (ltB a b || eqB a b) true) := by
  have c0 : (s.toList == [108, 116]) = false := by rw [h]; rfl
  have c1 : (s.toList == [108, 101]) = true := by rw [h]; rfl
  clear h
  have hf := run_from
  go_enter Tryd.func23, Tryd.ntmps23
  go_wp2_with fail
  all_goals (go_ret2; exact ⟨rfl, 0, rfl⟩)

theorem ris_gt (s : ByteArray) (a b : Nat) (w : World) (h : s.toList = [103, 116]) :
    Calls Tryd.prog 23 #[.string s, .int .u64 a, .int .u64 b] w (IsPost w (gtB a b) true) := by
  have c0 : (s.toList == [108, 116]) = false := by rw [h]; rfl
  have c1 : (s.toList == [108, 101]) = false := by rw [h]; rfl
  have c2 : (s.toList == [103, 116]) = true := by rw [h]; rfl
  clear h
  have hf := run_from
  go_enter Tryd.func23, Tryd.ntmps23
  go_wp2_with fail
  go_ret2
  exact ⟨rfl, 0, rfl⟩

theorem ris_ge (s : ByteArray) (a b : Nat) (w : World) (h : s.toList = [103, 101]) :
    Calls Tryd.prog 23 #[.string s, .int .u64 a, .int .u64 b] w (IsPost w (gtB a b || eqB a b) true) := by
  have c0 : (s.toList == [108, 116]) = false := by rw [h]; rfl
  have c1 : (s.toList == [108, 101]) = false := by rw [h]; rfl
  have c2 : (s.toList == [103, 116]) = false := by rw [h]; rfl
  have c3 : (s.toList == [103, 101]) = true := by rw [h]; rfl
  clear h
  have hf := run_from
  go_enter Tryd.func23, Tryd.ntmps23
  go_wp2_with fail
  all_goals (go_ret2; exact ⟨rfl, 0, rfl⟩)

theorem ris_eq (s : ByteArray) (a b : Nat) (w : World) (h : s.toList = [101, 113]) :
    Calls Tryd.prog 23 #[.string s, .int .u64 a, .int .u64 b] w (IsPost w (eqB a b) true) := by
  have c0 : (s.toList == [108, 116]) = false := by rw [h]; rfl
  have c1 : (s.toList == [108, 101]) = false := by rw [h]; rfl
  have c2 : (s.toList == [103, 116]) = false := by rw [h]; rfl
  have c3 : (s.toList == [103, 101]) = false := by rw [h]; rfl
  have c4 : (s.toList == [101, 113]) = true := by rw [h]; rfl
  clear h
  have hf := run_from
  go_enter Tryd.func23, Tryd.ntmps23
  go_wp2_with fail
  go_ret2
  exact ⟨rfl, 0, rfl⟩

theorem ris_ne (s : ByteArray) (a b : Nat) (w : World) (h : s.toList = [110, 101]) :
    Calls Tryd.prog 23 #[.string s, .int .u64 a, .int .u64 b] w (IsPost w (!eqB a b) true) := by
  have c0 : (s.toList == [108, 116]) = false := by rw [h]; rfl
  have c1 : (s.toList == [108, 101]) = false := by rw [h]; rfl
  have c2 : (s.toList == [103, 116]) = false := by rw [h]; rfl
  have c3 : (s.toList == [103, 101]) = false := by rw [h]; rfl
  have c4 : (s.toList == [101, 113]) = false := by rw [h]; rfl
  have c5 : (s.toList == [110, 101]) = true := by rw [h]; rfl
  clear h
  have hf := run_from
  go_enter Tryd.func23, Tryd.ntmps23
  go_wp2_with fail
  go_ret2
  exact ⟨rfl, 0, rfl⟩

theorem ris_same (s : ByteArray) (a b : Nat) (w : World) (h : s.toList = [115, 97, 109, 101]) :
    Calls Tryd.prog 23 #[.string s, .int .u64 a, .int .u64 b] w (IsPost w (cleanB a == cleanB b) true) := by
  have c0 : (s.toList == [108, 116]) = false := by rw [h]; rfl
  have c1 : (s.toList == [108, 101]) = false := by rw [h]; rfl
  have c2 : (s.toList == [103, 116]) = false := by rw [h]; rfl
  have c3 : (s.toList == [103, 101]) = false := by rw [h]; rfl
  have c4 : (s.toList == [101, 113]) = false := by rw [h]; rfl
  have c5 : (s.toList == [110, 101]) = false := by rw [h]; rfl
  have c6 : (s.toList == [115, 97, 109, 101]) = true := by rw [h]; rfl
  clear h
  have hf := run_from
  obtain ⟨x, hx⟩ : ∃ x, x = cleanB a := ⟨_, rfl⟩
  obtain ⟨y, hy⟩ : ∃ y, y = cleanB b := ⟨_, rfl⟩
  rw [← hx, ← hy]
  have HX := Lib.hid hx; have HY := Lib.hid hy; clear hx hy
  go_enter Tryd.func23, Tryd.ntmps23
  go_wp2_with fail
  refine (clean_any _ _).mono ?_
  rintro e w1 ⟨rfl, rfl⟩
  rw [← HX.out]
  go_wp2_with fail
  refine (clean_any _ _).mono ?_
  rintro e w1 ⟨rfl, rfl⟩
  rw [← HY.out]
  go_wp2_with fail
  go_ret2
  refine ⟨?_, 0, rfl⟩
  rw [← int_beq]
  rfl

theorem ris_none (s : ByteArray) (a b : Nat) (w : World) (h0 : (s.toList == [108, 116]) = false) (h1 : (s.toList == [108, 101]) = false) (h2 : (s.toList == [103, 116]) = false) (h3 : (s.toList == [103, 101]) = false) (h4 : (s.toList == [101, 113]) = false) (h5 : (s.toList == [110, 101]) = false) (h6 : (s.toList == [115, 97, 109, 101]) = false) :
    Calls Tryd.prog 23 #[.string s, .int .u64 a, .int .u64 b] w (IsPost w (false) false) := by
  have hf := run_from
  go_enter Tryd.func23, Tryd.ntmps23
  go_wp2_with fail
  go_ret2
  exact ⟨rfl, 0, rfl⟩


theorem rung_bd (a : Nat) : rung a < 9223372036854775808 := Nat.mod_lt _ (by decide)

theorem eq_same {a b : Nat} (ha : a < 18446744073709551616) (hb : b < 18446744073709551616) (na : nanB a = false) (nb : nanB b = false) (h : eqB a b = true) (hs : sgn a = sgn b) : a = b := by
  rw [nanB_eq, decide_eq_false_iff_not] at na nb
  have h2 : (FloatKind.f64.format.order a b == some .eq) = true := h
  have h' : Ieee.double.order a b = some .eq := beq_iff_eq.1 h2
  rw [order_key (by omega) (by omega)] at h'
  have hk : key a = key b := by
    have h3 : compareOfLessAndEq (key a) (key b) = .eq := Option.some.inj h'
    unfold compareOfLessAndEq at h3
    split at h3
    · cases h3
    · split at h3
      · assumption
      · cases h3
  rw [key_sv, key_sv, ← hs] at hk
  have hr : rung a = rung b := by
    cases h4 : sgn a <;> rw [h4] at hk <;> simp [sv] at hk <;> omega
  rw [← word_eq ha, ← word_eq hb, hs, hr]

theorem top_sgn {a : Nat} (ha : a < 18446744073709551616) : a / 9223372036854775808 = (sgn a).toNat := by
  unfold sgn
  have : a / 9223372036854775808 = 0 ∨ a / 9223372036854775808 = 1 := by omega
  rcases this with h | h <;> rw [h] <;> rfl

theorem end_same {a b : Nat} (l : Bool) (ha : a < 18446744073709551616) (hb : b < 18446744073709551616) : endR l a b = endF l a b := by
  unfold endR endF
  cases na : nanB a
  · cases nb : nanB b
    · unfold lessR lessB
      rw [top_sgn ha, top_sgn hb]
      cases ltB a b
      · cases he : eqB a b
        · rfl
        · cases ha2 : sgn a <;> cases hb2 : sgn b
          · rfl
          · rfl
          · rfl
          · have := eq_same ha hb na nb he (by rw [ha2, hb2])
            subst this
            simp
      · rfl
    · rfl
  · rfl

def opF (l : List UInt8) (a b : Nat) : Nat × Bool :=
  if l = [43] then (arithF .add a b, true) else if l = [45] then (arithF .sub a b, true)
  else if l = [42] then (arithF .mul a b, true) else if l = [47] then (arithF .quo a b, true)
  else if l = [109, 105, 110] then (endF true a b, true) else if l = [109, 97, 120] then (endF false a b, true) else (0, false)
def isF (l : List UInt8) (a b : Nat) : Bool × Bool :=
  if l = [108, 116] then (ltB a b, true) else if l = [108, 101] then (ltB a b || eqB a b, true)
  else if l = [103, 116] then (gtB a b, true) else if l = [103, 101] then (gtB a b || eqB a b, true)
  else if l = [101, 113] then (eqB a b, true) else if l = [110, 101] then (!eqB a b, true)
  else if l = [115, 97, 109, 101] then (cleanB a == cleanB b, true) else (false, false)
theorem lne {l m : List UInt8} (h : ¬ l = m) : (l == m) = false := beq_eq_false_iff_ne.2 h

theorem op_any (s : ByteArray) (a b : Nat) (w : World) (ha : a < 18446744073709551616) :
    Calls Tryd.prog 19 #[.string s, .int .u64 a, .int .u64 b] w (OpPost w (opF s.toList a b).1 (opF s.toList a b).2) := by
  unfold opF
  by_cases h0 : s.toList = [43]
  · rw [if_pos h0]; exact op_add s a b w h0
  rw [if_neg h0]
  by_cases h1 : s.toList = [45]
  · rw [if_pos h1]; exact op_sub s a b w h1
  rw [if_neg h1]
  by_cases h2 : s.toList = [42]
  · rw [if_pos h2]; exact op_mul s a b w h2
  rw [if_neg h2]
  by_cases h3 : s.toList = [47]
  · rw [if_pos h3]; exact op_quo s a b w h3
  rw [if_neg h3]
  by_cases h4 : s.toList = [109, 105, 110]
  · rw [if_pos h4]; exact op_min s a b w ha h4
  rw [if_neg h4]
  by_cases h5 : s.toList = [109, 97, 120]
  · rw [if_pos h5]; exact op_max s a b w ha h5
  rw [if_neg h5]
  exact op_none s a b w (lne h0) (lne h1) (lne h2) (lne h3) (lne h4) (lne h5)

theorem rop_any (s : ByteArray) (a b : Nat) (w : World) (ha : a < 18446744073709551616) (hb : b < 18446744073709551616) :
    Calls Tryd.prog 21 #[.string s, .int .u64 a, .int .u64 b] w (OpPost w (opF s.toList a b).1 (opF s.toList a b).2) := by
  unfold opF
  by_cases h0 : s.toList = [43]
  · rw [if_pos h0]; exact rop_add s a b w h0
  rw [if_neg h0]
  by_cases h1 : s.toList = [45]
  · rw [if_pos h1]; exact rop_sub s a b w h1
  rw [if_neg h1]
  by_cases h2 : s.toList = [42]
  · rw [if_pos h2]; exact rop_mul s a b w h2
  rw [if_neg h2]
  by_cases h3 : s.toList = [47]
  · rw [if_pos h3]; exact rop_quo s a b w h3
  rw [if_neg h3]
  by_cases h4 : s.toList = [109, 105, 110]
  · rw [if_pos h4]; exact (end_same _ ha hb ▸ rop_min s a b w h4)
  rw [if_neg h4]
  by_cases h5 : s.toList = [109, 97, 120]
  · rw [if_pos h5]; exact (end_same _ ha hb ▸ rop_max s a b w h5)
  rw [if_neg h5]
  exact rop_none s a b w (lne h0) (lne h1) (lne h2) (lne h3) (lne h4) (lne h5)

theorem is_any (s : ByteArray) (a b : Nat) (w : World) :
    Calls Tryd.prog 22 #[.string s, .int .u64 a, .int .u64 b] w (IsPost w (isF s.toList a b).1 (isF s.toList a b).2) := by
  unfold isF
  by_cases h0 : s.toList = [108, 116]
  · rw [if_pos h0]; exact is_lt s a b w h0
  rw [if_neg h0]
  by_cases h1 : s.toList = [108, 101]
  · rw [if_pos h1]; exact is_le s a b w h1
  rw [if_neg h1]
  by_cases h2 : s.toList = [103, 116]
  · rw [if_pos h2]; exact is_gt s a b w h2
  rw [if_neg h2]
  by_cases h3 : s.toList = [103, 101]
  · rw [if_pos h3]; exact is_ge s a b w h3
  rw [if_neg h3]
  by_cases h4 : s.toList = [101, 113]
  · rw [if_pos h4]; exact is_eq s a b w h4
  rw [if_neg h4]
  by_cases h5 : s.toList = [110, 101]
  · rw [if_pos h5]; exact is_ne s a b w h5
  rw [if_neg h5]
  by_cases h6 : s.toList = [115, 97, 109, 101]
  · rw [if_pos h6]; exact is_same s a b w h6
  rw [if_neg h6]
  exact is_none s a b w (lne h0) (lne h1) (lne h2) (lne h3) (lne h4) (lne h5) (lne h6)

theorem ris_any (s : ByteArray) (a b : Nat) (w : World) :
    Calls Tryd.prog 23 #[.string s, .int .u64 a, .int .u64 b] w (IsPost w (isF s.toList a b).1 (isF s.toList a b).2) := by
  unfold isF
  by_cases h0 : s.toList = [108, 116]
  · rw [if_pos h0]; exact ris_lt s a b w h0
  rw [if_neg h0]
  by_cases h1 : s.toList = [108, 101]
  · rw [if_pos h1]; exact ris_le s a b w h1
  rw [if_neg h1]
  by_cases h2 : s.toList = [103, 116]
  · rw [if_pos h2]; exact ris_gt s a b w h2
  rw [if_neg h2]
  by_cases h3 : s.toList = [103, 101]
  · rw [if_pos h3]; exact ris_ge s a b w h3
  rw [if_neg h3]
  by_cases h4 : s.toList = [101, 113]
  · rw [if_pos h4]; exact ris_eq s a b w h4
  rw [if_neg h4]
  by_cases h5 : s.toList = [110, 101]
  · rw [if_pos h5]; exact ris_ne s a b w h5
  rw [if_neg h5]
  by_cases h6 : s.toList = [115, 97, 109, 101]
  · rw [if_pos h6]; exact ris_same s a b w h6
  rw [if_neg h6]
  exact ris_none s a b w (lne h0) (lne h1) (lne h2) (lne h3) (lne h4) (lne h5) (lne h6)

end Go.Proofs.YtnddnhjlaojllaaDoor
