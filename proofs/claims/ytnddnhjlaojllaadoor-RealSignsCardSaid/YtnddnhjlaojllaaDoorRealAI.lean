/-
  The document's text of a number's bits.
-/
import Derived.Test.YtnddnhjlaojllaaDoorRealAH
namespace Go.Proofs.YtnddnhjlaojllaaDoor
open Go.RowKit
set_option linter.unusedVariables false

def D16 : ByteArray := ⟨#[48, 49, 50, 51, 52, 53, 54, 55, 56, 57, 97, 98, 99, 100, 101, 102]⟩
theorem D16_at (v : Nat) (h : v ≤ 15) : (D16.extract v (v + 1)).data.toList = [hexC v] := by
  have : ∀ v : Fin 16, (D16.extract v.val (v.val + 1)).data.toList = [hexC v.val] := by decide +kernel
  exact this ⟨v, by omega⟩
theorem and_shift (x i : Nat) (hx : x < 18446744073709551616) : bits .and .u64 ((x : Int) / 2 ^ (4 * i)) 15 = ((x / 16 ^ i % 16 : Nat) : Int) := by
  have e : (16 : Nat) ^ i = 2 ^ (4 * i) := by rw [Nat.pow_mul]
  rw [e, show (x : Int) / 2 ^ (4 * i) = ((x / 2 ^ (4 * i) : Nat) : Int) by simp]
  exact and_15 _ (Nat.lt_of_le_of_lt (Nat.div_le_self _ _) hx)
/-- What the document's RealText hands back. -/
def RTextPost (w : World) (l : Bt) (e : Ending) (w' : World) : Prop := ∃ T : ByteArray, e = .returned (.string T) ∧ T.data.toList = l ∧ w = w'
theorem floatOf_bits {z : Int} (h : z.natAbs < 9007199254740992) : floatOfInt .f64 z = bitsZ z := (FI_all h).2.2 _
theorem bitsZ_nan {z : Int} (h : z.natAbs < 9007199254740992) : nanB (bitsZ z) = false := nan_word _ (by have := (FI_all h).1; omega)
set_option maxHeartbeats 16000000 in
theorem realText_any (x : Nat) (hx : x < 18446744073709551616) (w : World) : Calls Tryd.prog 17 #[.int .u64 x] w (RTextPost w (textF x)) := by
  have hf := run_from
  have HXX := Lib.hid hx
  obtain ⟨L, hL⟩ : ∃ L, L = textF x := ⟨_, rfl⟩
  rw [← hL]
  by_cases n : nanB x = true
  · have hnn : (FloatKind.f64.format.order x x != some .eq) = true := n
    have HT := Lib.hid (show L = [110, 97, 110] from hL.trans (text_nan n))
    clear n hx hL
    go_enter Tryd.func17, Tryd.ntmps17
    go_wp2_with fail
    go_ret
    refine ⟨_, rfl, ?_, rfl⟩
    rw [HT.out]
  have n' : nanB x = false := by simpa using n
  have hnn : (FloatKind.f64.format.order x x != some .eq) = false := n'
  by_cases c1 : x = 9218868437227405312
  · have HT := Lib.hid (show L = [105, 110, 102] by rw [hL]; unfold textF; rw [if_neg n, if_pos c1])
    have i1 : ((x : Int) == 9218868437227405312) = true := beq_iff_eq.2 (by omega)
    clear n n' hx hL c1
    go_enter Tryd.func17, Tryd.ntmps17
    go_wp2_with fail
    go_ret
    refine ⟨_, rfl, ?_, rfl⟩
    rw [HT.out]
  have i1 : ((x : Int) == 9218868437227405312) = false := beq_eq_false_iff_ne.2 (by omega)
  by_cases c2 : x = 18442240474082181120
  · have HT := Lib.hid (show L = [45, 105, 110, 102] by rw [hL]; unfold textF; rw [if_neg n, if_neg c1, if_pos c2])
    have i2 : ((x : Int) == 18442240474082181120) = true := beq_iff_eq.2 (by omega)
    clear n n' hx hL c1 c2
    go_enter Tryd.func17, Tryd.ntmps17
    go_wp2_with fail
    go_ret
    refine ⟨_, rfl, ?_, rfl⟩
    rw [HT.out]
  have i2 : ((x : Int) == 18442240474082181120) = false := beq_eq_false_iff_ne.2 (by omega)
  by_cases c3 : x = 9223372036854775808
  · have HT := Lib.hid (show L = [45, 48] by rw [hL]; unfold textF; rw [if_neg n, if_neg c1, if_neg c2, if_pos c3])
    have i3 : ((x : Int) == 9223372036854775808) = true := beq_iff_eq.2 (by omega)
    clear n n' hx hL c1 c2 c3
    go_enter Tryd.func17, Tryd.ntmps17
    go_wp2_with fail
    go_ret
    refine ⟨_, rfl, ?_, rfl⟩
    rw [HT.out]
  have i3 : ((x : Int) == 9223372036854775808) = false := beq_eq_false_iff_ne.2 (by omega)
  have hrest := text_rest n' c1 c2 c3
  have hst := small_test n'
  by_cases c4 : rung x < 4831355200913801216
  · have g1 : (FloatKind.f64.format.order x 14054727237768577024 == some .gt) = true := by
      rw [decide_eq_true c4, Bool.and_eq_true] at hst; exact hst.1
    have g2 : (FloatKind.f64.format.order x 4831355200913801216 == some .lt) = true := by
      rw [decide_eq_true c4, Bool.and_eq_true] at hst; exact hst.2
    obtain ⟨z, hz⟩ : ∃ z, z = sv (sgn x) (intR (rung x)) := ⟨_, rfl⟩
    have hzb : z.natAbs < 9007199254740992 := by rw [hz, sv_natAbs2]; exact intR_lt _
    have hcv : ∀ w, (convert 47 3 (.float .f64 x)).run Tryd.prog w = .ok (.int .i64 z) w := fun w => run_convert_float_int w 47 3 .f64 .i64 x z (by kernel_rfl) (by kernel_rfl) (by rw [hz]; exact int_val c4)
    obtain ⟨FZ, hFZ⟩ : ∃ FZ, FZ = floatOfInt .f64 z := ⟨_, rfl⟩
    have hq : (FloatKind.f64.format.order FZ x == some .eq) = wholeB (rung x) := by
      rw [hFZ, floatOf_bits hzb]
      have h1 := (cmp_key (bitsZ_nan hzb) n').2.1
      rw [hz, back_key c4] at h1
      rw [hz]
      exact h1
    have hfz : floatOfInt .f64 z = FZ := hFZ.symm
    by_cases c5 : wholeB (rung x) = true
    · rw [c5] at hq
      have HT := Lib.hid (show L = Lib.itoa z by rw [hL, hrest, if_pos ⟨c4, c5⟩, hz])
      have HZ := Lib.hid (show z.natAbs ≤ 999999999999999 by rw [hz, sv_natAbs2]; exact int_15 c4 c5)
      clear n n' hx hL c1 c2 c3 c4 c5 hrest hst hz hFZ hzb
      go_enter Tryd.func17, Tryd.ntmps17
      go_wp2_with fail
      refine (int_any z HZ.out _).mono ?_
      rintro e w1 ⟨D, rfl, hD, hw⟩
      have HD := Lib.hid hD
      rw [hw]
      clear hD hw
      go_wp2_with fail
      go_ret
      refine ⟨_, rfl, ?_, rfl⟩
      rw [HT.out, HD.out]
    · rw [show wholeB (rung x) = false by simpa using c5] at hq
      have HT := Lib.hid (show L = [48, 120] ++ hexK 16 x by rw [hL, hrest, if_neg (fun h => c5 h.2)])
      clear n n' hx hL c1 c2 c3 c4 c5 hrest hst hz hFZ hzb
      go_enter Tryd.func17, Tryd.ntmps17
      go_wp2_with fail
      go_loopw [5, 6] (fun s' i' wr => ∃ (S : ByteArray) (j : Nat), s' = .string S ∧ i' = .int .i64 ((j : Int) - 1) ∧ j ≤ 16 ∧ Hid (S.data.toList = [48, 120] ++ hexK (16 - j) (x / 16 ^ j)) ∧ w = wr) (fun _ i' _ => (intOf i' + 1).toNat)
      case atStart => exact ⟨⟨#[48, 120]⟩, 16, rfl, rfl, by omega, Lib.hid (by simp [hexK]), rfl⟩
      case round =>
        obtain ⟨S, j, rfl, rfl, hj, HS, hw⟩ := hrel
        subst hw
        by_cases h1 : 1 ≤ j
        · obtain ⟨i, rfl⟩ : ∃ i, j = i + 1 := ⟨j - 1, by omega⟩
          have e : ((i + 1 : Nat) : Int) - 1 = (i : Int) := by omega
          rw [e]
          have q1 : (0 : Int) ≤ (i : Int) := by omega
          have ew4 : IntKind.i64.wrap (4 * (i : Int)) = 4 * (i : Int) := IntWalk.i64_in _ (by omega)
          have ew5 : IntKind.u64.wrap (4 * (i : Int)) = 4 * (i : Int) := by rw [IntKind.wrap_u64]; omega
          have ew6 : IntKind.i64.wrap ((i : Int) - 1) = (i : Int) - 1 := IntWalk.i64_in _ (by omega)
          have ss : S.size ≤ 18 := by rw [Lib.size_eq, HS.out, List.length_append, hexK_len]; simp; omega
          obtain ⟨v, hv⟩ : ∃ v, v = x / 16 ^ i % 16 := ⟨_, rfl⟩
          have eand : bits .and .u64 ((x : Int) / 2 ^ (4 * i)) 15 = (v : Int) := by rw [hv]; exact and_shift x i HXX.out
          have hv15 : v ≤ 15 := by omega
          have ewv : IntKind.u64.wrap ((v : Int) + 1) = (v : Int) + 1 := by rw [IntKind.wrap_u64]; omega
          have q2 : (v : Int) ≤ (v : Int) + 1 := by omega
          have q3 : (v : Int) + 1 ≤ 16 := by omega
          have q4 : ((v : Int) + 1).toNat = v + 1 := by omega
          have HE := Lib.hid (show [48, 120] ++ hexK (16 - i) (x / 16 ^ i) = ([48, 120] ++ hexK (16 - (i + 1)) (x / 16 ^ (i + 1))) ++ [hexC v] by
            rw [hv, show 16 - i = (16 - (i + 1)) + 1 by omega, hexK, List.append_assoc, Nat.pow_succ, ← Nat.div_div_eq_div_mul])
          clear e h1 hv
          go_wp2_with fail
          go_roundw
          case rel => exact ⟨_, i, rfl, by first | rfl | go_num, by omega, Lib.hid (by rw [HE.out, ba_app, HS.out]; congr 1; exact D16_at v hv15), by first | rfl | trivial⟩
          case measure => simp [intOf]
        · obtain rfl : j = 0 := by omega
          have HF := Lib.hid (show S.data.toList = L by rw [HS.out, HT.out, Nat.pow_zero, Nat.div_one])
          go_wp2_with fail
          go_ret
          exact ⟨_, rfl, HF.out, rfl⟩
  · have HT := Lib.hid (show L = [48, 120] ++ hexK 16 x by rw [hL, hrest, if_neg (fun h => c4 h.1)])
    rw [decide_eq_false c4] at hst
    have hst2 : (FloatKind.f64.format.order x 14054727237768577024 == some .gt) = false ∨ (FloatKind.f64.format.order x 14054727237768577024 == some .gt) = true ∧ (FloatKind.f64.format.order x 4831355200913801216 == some .lt) = false := by
      cases h : (FloatKind.f64.format.order x 14054727237768577024 == some .gt) with
      | false => exact Or.inl rfl
      | true =>
        refine Or.inr ⟨rfl, ?_⟩
        have h1 : gtB x 14054727237768577024 = true := h
        rw [h1, Bool.true_and] at hst
        exact hst
    clear n n' hx hL c1 c2 c3 c4 hrest hst
    rcases hst2 with g1 | ⟨g1, g2⟩
    · go_enter Tryd.func17, Tryd.ntmps17
      go_wp2_with fail
      go_loopw [5, 6] (fun s' i' wr => ∃ (S : ByteArray) (j : Nat), s' = .string S ∧ i' = .int .i64 ((j : Int) - 1) ∧ j ≤ 16 ∧ Hid (S.data.toList = [48, 120] ++ hexK (16 - j) (x / 16 ^ j)) ∧ w = wr) (fun _ i' _ => (intOf i' + 1).toNat)
      case atStart => exact ⟨⟨#[48, 120]⟩, 16, rfl, rfl, by omega, Lib.hid (by simp [hexK]), rfl⟩
      case round =>
        obtain ⟨S, j, rfl, rfl, hj, HS, hw⟩ := hrel
        subst hw
        by_cases h1 : 1 ≤ j
        · obtain ⟨i, rfl⟩ : ∃ i, j = i + 1 := ⟨j - 1, by omega⟩
          have e : ((i + 1 : Nat) : Int) - 1 = (i : Int) := by omega
          rw [e]
          have q1 : (0 : Int) ≤ (i : Int) := by omega
          have ew4 : IntKind.i64.wrap (4 * (i : Int)) = 4 * (i : Int) := IntWalk.i64_in _ (by omega)
          have ew5 : IntKind.u64.wrap (4 * (i : Int)) = 4 * (i : Int) := by rw [IntKind.wrap_u64]; omega
          have ew6 : IntKind.i64.wrap ((i : Int) - 1) = (i : Int) - 1 := IntWalk.i64_in _ (by omega)
          have ss : S.size ≤ 18 := by rw [Lib.size_eq, HS.out, List.length_append, hexK_len]; simp; omega
          obtain ⟨v, hv⟩ : ∃ v, v = x / 16 ^ i % 16 := ⟨_, rfl⟩
          have eand : bits .and .u64 ((x : Int) / 2 ^ (4 * i)) 15 = (v : Int) := by rw [hv]; exact and_shift x i HXX.out
          have hv15 : v ≤ 15 := by omega
          have ewv : IntKind.u64.wrap ((v : Int) + 1) = (v : Int) + 1 := by rw [IntKind.wrap_u64]; omega
          have q2 : (v : Int) ≤ (v : Int) + 1 := by omega
          have q3 : (v : Int) + 1 ≤ 16 := by omega
          have q4 : ((v : Int) + 1).toNat = v + 1 := by omega
          have HE := Lib.hid (show [48, 120] ++ hexK (16 - i) (x / 16 ^ i) = ([48, 120] ++ hexK (16 - (i + 1)) (x / 16 ^ (i + 1))) ++ [hexC v] by
            rw [hv, show 16 - i = (16 - (i + 1)) + 1 by omega, hexK, List.append_assoc, Nat.pow_succ, ← Nat.div_div_eq_div_mul])
          clear e h1 hv
          go_wp2_with fail
          go_roundw
          case rel => exact ⟨_, i, rfl, by first | rfl | go_num, by omega, Lib.hid (by rw [HE.out, ba_app, HS.out]; congr 1; exact D16_at v hv15), by first | rfl | trivial⟩
          case measure => simp [intOf]
        · obtain rfl : j = 0 := by omega
          have HF := Lib.hid (show S.data.toList = L by rw [HS.out, HT.out, Nat.pow_zero, Nat.div_one])
          go_wp2_with fail
          go_ret
          exact ⟨_, rfl, HF.out, rfl⟩
    · go_enter Tryd.func17, Tryd.ntmps17
      go_wp2_with fail
      go_loopw [5, 6] (fun s' i' wr => ∃ (S : ByteArray) (j : Nat), s' = .string S ∧ i' = .int .i64 ((j : Int) - 1) ∧ j ≤ 16 ∧ Hid (S.data.toList = [48, 120] ++ hexK (16 - j) (x / 16 ^ j)) ∧ w = wr) (fun _ i' _ => (intOf i' + 1).toNat)
      case atStart => exact ⟨⟨#[48, 120]⟩, 16, rfl, rfl, by omega, Lib.hid (by simp [hexK]), rfl⟩
      case round =>
        obtain ⟨S, j, rfl, rfl, hj, HS, hw⟩ := hrel
        subst hw
        by_cases h1 : 1 ≤ j
        · obtain ⟨i, rfl⟩ : ∃ i, j = i + 1 := ⟨j - 1, by omega⟩
          have e : ((i + 1 : Nat) : Int) - 1 = (i : Int) := by omega
          rw [e]
          have q1 : (0 : Int) ≤ (i : Int) := by omega
          have ew4 : IntKind.i64.wrap (4 * (i : Int)) = 4 * (i : Int) := IntWalk.i64_in _ (by omega)
          have ew5 : IntKind.u64.wrap (4 * (i : Int)) = 4 * (i : Int) := by rw [IntKind.wrap_u64]; omega
          have ew6 : IntKind.i64.wrap ((i : Int) - 1) = (i : Int) - 1 := IntWalk.i64_in _ (by omega)
          have ss : S.size ≤ 18 := by rw [Lib.size_eq, HS.out, List.length_append, hexK_len]; simp; omega
          obtain ⟨v, hv⟩ : ∃ v, v = x / 16 ^ i % 16 := ⟨_, rfl⟩
          have eand : bits .and .u64 ((x : Int) / 2 ^ (4 * i)) 15 = (v : Int) := by rw [hv]; exact and_shift x i HXX.out
          have hv15 : v ≤ 15 := by omega
          have ewv : IntKind.u64.wrap ((v : Int) + 1) = (v : Int) + 1 := by rw [IntKind.wrap_u64]; omega
          have q2 : (v : Int) ≤ (v : Int) + 1 := by omega
          have q3 : (v : Int) + 1 ≤ 16 := by omega
          have q4 : ((v : Int) + 1).toNat = v + 1 := by omega
          have HE := Lib.hid (show [48, 120] ++ hexK (16 - i) (x / 16 ^ i) = ([48, 120] ++ hexK (16 - (i + 1)) (x / 16 ^ (i + 1))) ++ [hexC v] by
            rw [hv, show 16 - i = (16 - (i + 1)) + 1 by omega, hexK, List.append_assoc, Nat.pow_succ, ← Nat.div_div_eq_div_mul])
          clear e h1 hv
          go_wp2_with fail
          go_roundw
          case rel => exact ⟨_, i, rfl, by first | rfl | go_num, by omega, Lib.hid (by rw [HE.out, ba_app, HS.out]; congr 1; exact D16_at v hv15), by first | rfl | trivial⟩
          case measure => simp [intOf]
        · obtain rfl : j = 0 := by omega
          have HF := Lib.hid (show S.data.toList = L by rw [HS.out, HT.out, Nat.pow_zero, Nat.div_one])
          go_wp2_with fail
          go_ret
          exact ⟨_, rfl, HF.out, rfl⟩
end Go.Proofs.YtnddnhjlaojllaaDoor
