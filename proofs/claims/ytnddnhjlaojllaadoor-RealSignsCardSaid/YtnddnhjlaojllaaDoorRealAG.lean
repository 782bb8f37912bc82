/-
  The text of a number's bits: plain tests; FormatUint, FormatInt.
-/
import Derived.Test.YtnddnhjlaojllaaDoorRealAF
import Derived.Test.YtnddnhjlaojllaaDoorRealQ
import Derived.Test.YtnddnhjlaojllaaDoorRealL
namespace Go.Proofs.YtnddnhjlaojllaaDoor
open Go.RowKit
set_option linter.unusedVariables false

/-- The two tables that a number's text reads. -/
structure Tabs (w : World) : Prop where
  tz : TZ w
  pow : Lib.TabIs Tryd.prog w "internal/strconv.uint64pow10" .u64 Lib.pow10Tab
theorem Tabs.keep {w w' : World} (h : Tabs w) (hb : Below w.heap.size w w') : Tabs w' := by
  refine ⟨h.tz.keep hb (Nat.le_refl _), ?_⟩
  have h1 := h.pow
  unfold Lib.TabIs World.var? at *
  cases hg : Tryd.prog.globalNamed "internal/strconv.uint64pow10" with
  | none => simp only [hg, Option.bind_none] at h1; cases h1
  | some g =>
    simp only [hg, Option.bind_some] at h1 ⊢
    have hlt : g < w.heap.size := by
      rcases Nat.lt_or_ge g w.heap.size with h' | h'
      · exact h'
      · rw [Array.getElem?_eq_none h'] at h1; simp at h1
    rw [hb.block g hlt]
    exact h1
theorem formatUint_16 (u : Nat) (hu : u < 18446744073709551616) (w : World) (h : TZ w) :
    Calls Tryd.prog 42 #[.int .u64 u, .int .i64 16] w fun e w' => e = .returned (.string ⟨(hexS u).toArray⟩) ∧ Below w.heap.size w w' := by
  obtain ⟨SB, hSB⟩ : ∃ SB : ByteArray, SB = ⟨(hexS u).toArray⟩ := ⟨_, rfl⟩
  have hc := fun w h => formatBits_16 u hu w h
  rw [← hSB] at hc ⊢
  clear hSB
  have HC := Lib.hid hc
  have HU := Lib.hid hu
  clear hc hu
  go_enter Tryd.func42, Tryd.ntmps42
  go_wp2_with fail
  have inner : ∀ w, TZ w → Calls Tryd.prog 54 #[.int .u64 u, .int .i64 16] w fun e w' => e = .returned (.string SB) ∧ Below w.heap.size w w' := by
    intro w h
    go_enter Tryd.func54, Tryd.ntmps54
    go_wp2_with fail
    refine (HC.out _ h).mono ?_
    rintro e w1 ⟨rfl, hb⟩
    have HB := Lib.hid hb
    clear hb
    go_wp2_with fail
    go_ret
    exact ⟨rfl, HB.out⟩
  refine (inner _ h).mono ?_
  rintro e w1 ⟨rfl, hb⟩
  have HB := Lib.hid hb
  clear hb inner
  go_wp2_with fail
  go_ret
  exact ⟨rfl, HB.out⟩
theorem below_grow (w : World) (k : Nat) (os : Array Obj) : Below w.heap.size w (Go.Sort.grow (w.drewN k) os) := by
  refine ⟨rfl, rfl, rfl, ?_, fun j hj => ?_⟩
  · show w.heap.size ≤ (w.heap ++ os).size
    simp
  · show (w.heap ++ os)[j]? = w.heap[j]?
    rw [Array.getElem?_append_left hj]
theorem formatInt_10 (z : Int) (hz : z.natAbs < 9007199254740992) (w : World) (h : Tabs w) :
    Calls Tryd.prog 41 #[.int .i64 z, .int .i64 10] w fun e w' => e = .returned (.string ⟨(Lib.itoa z).toArray⟩) ∧ Below w.heap.size w w' := by
  refine (Tryd.strconv_FormatInt_10 z (by omega) (by omega) w h.pow).mono ?_
  rintro e w1 ⟨rfl, k, os, rfl⟩
  exact ⟨rfl, below_grow _ _ _⟩

/-! The tests, plain. -/
theorem xor_top {f : Nat} (h : f < 9223372036854775808) : f ^^^ 9223372036854775808 = f + 9223372036854775808 := by
  rw [← or_top f h]
  have e : (9223372036854775808 : Nat) = 2 ^ 63 := by decide
  rw [e]
  refine Nat.eq_of_testBit_eq fun i => ?_
  rw [Nat.testBit_xor, Nat.testBit_or, Nat.testBit_two_pow]
  by_cases hi : 63 = i
  · subst hi
    rw [Nat.testBit_lt_two_pow (by rw [← e]; exact h)]
    rfl
  · rw [decide_eq_false hi]
    cases f.testBit i <;> rfl
/-- A number's opposite. -/
def flipB (x : Nat) : Nat := x ^^^ 9223372036854775808
theorem flip_word (s : Bool) {r : Nat} (h : r < 9223372036854775808) : flipB (Ieee.double.word s r) = Ieee.double.word (!s) r := by
  unfold flipB
  cases s with
  | false =>
    show r ^^^ 9223372036854775808 = _
    rw [xor_top h]
    show r + 9223372036854775808 = Ieee.double.signWeight + r
    rw [sign_eq]; omega
  | true =>
    show (Ieee.double.signWeight + r) ^^^ 9223372036854775808 = r
    rw [sign_eq, Nat.add_comm, ← xor_top h, Nat.xor_assoc, Nat.xor_self, Nat.xor_zero]
theorem rung_lt (x : Nat) : rung x < 9223372036854775808 := Nat.mod_lt _ (by decide)
theorem flip_parts {x : Nat} (hx : x < 18446744073709551616) : rung (flipB x) = rung x ∧ sgn (flipB x) = !sgn x ∧ flipB x < 18446744073709551616 := by
  have h := flip_word (sgn x) (rung_lt x)
  rw [word_eq hx] at h
  rw [h]
  exact word_parts _ (rung_lt x)
theorem neg_flip (x : Nat) : Op.negFloat .f64 x = flipB x := rfl
theorem nan_rung {x y : Nat} (h : rung x = rung y) : nanB x = nanB y := by rw [nanB_eq, nanB_eq, h]
theorem key_flip {x : Nat} (hx : x < 18446744073709551616) : key (flipB x) = -key x := by
  obtain ⟨h1, h2, _⟩ := flip_parts hx
  rw [key_sv, key_sv, h1, h2]
  cases sgn x <;> simp [sv]
theorem inf_up {x : Nat} (hx : x < 18446744073709551616) (n : nanB x = false) : gtB x 9218868437227405311 = decide (x = 9218868437227405312) := by
  have hr := nan_no n
  have hw := word_eq hx
  rw [(cmp_key n (by decide +kernel)).2.2]
  refine decide_eq_decide.2 ?_
  rw [show key 9218868437227405311 = 9218868437227405311 by decide +kernel, key_sv]
  constructor
  · intro h
    cases hs : sgn x with
    | true => rw [hs] at h; simp [sv] at h; omega
    | false =>
      rw [hs] at h hw
      simp [sv] at h
      have : rung x = 9218868437227405312 := by omega
      rw [this] at hw
      exact hw.symm
  · rintro rfl
    decide +kernel
theorem inf_low {x : Nat} (hx : x < 18446744073709551616) (n : nanB x = false) : gtB (Op.negFloat .f64 x) 9218868437227405311 = decide (x = 18442240474082181120) := by
  rw [neg_flip]
  have hf := flip_parts hx
  rw [inf_up hf.2.2 (by rw [nan_rung hf.1]; exact n)]
  refine decide_eq_decide.2 ?_
  constructor
  · intro h
    have : flipB (flipB x) = x := by unfold flipB; rw [Nat.xor_assoc, Nat.xor_self, Nat.xor_zero]
    rw [← this, h]
    decide +kernel
  · rintro rfl
    decide +kernel
theorem zero_test {x : Nat} (hx : x < 18446744073709551616) (n : nanB x = false) : eqB x 0 = decide (rung x = 0) := by
  rw [(cmp_key n (by decide +kernel)).2.1]
  refine decide_eq_decide.2 ?_
  rw [show key 0 = 0 by decide +kernel, key_sv]
  cases sgn x <;> simp [sv]
/-- Below 10^15 on both sides. -/
theorem small_test {x : Nat} (n : nanB x = false) : (gtB x 14054727237768577024 && ltB x 4831355200913801216) = decide (rung x < 4831355200913801216) := by
  rw [(cmp_key n (by decide +kernel)).2.2, (cmp_key n (by decide +kernel)).1]
  rw [show key 14054727237768577024 = -4831355200913801216 by decide +kernel, show key 4831355200913801216 = 4831355200913801216 by decide +kernel, key_sv]
  rw [Bool.eq_iff_iff, Bool.and_eq_true, decide_eq_true_iff, decide_eq_true_iff, decide_eq_true_iff]
  cases sgn x <;> simp [sv] <;> omega
end Go.Proofs.YtnddnhjlaojllaaDoor
