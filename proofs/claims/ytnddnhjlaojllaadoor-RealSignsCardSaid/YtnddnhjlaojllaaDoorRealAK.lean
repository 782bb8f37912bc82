/-
  Opposites, plain: differences, products, texts.
-/
import Derived.Test.YtnddnhjlaojllaaDoorRealAJ
namespace Go.Proofs.YtnddnhjlaojllaaDoor
open Go.RowKit
set_option linter.unusedVariables false

/-- How a difference and the one turned round stand to each other. -/
def Turned (x y : Nat) : Prop := x = 9221120237041090560 ∧ y = 9221120237041090560 ∨ nanB x = false ∧ nanB y = false ∧ rung x = rung y ∧ x < 18446744073709551616 ∧ y < 18446744073709551616 ∧ (rung x = 0 ∨ x = flipB y)
theorem turned_nan : Turned 9221120237041090560 9221120237041090560 := Or.inl ⟨rfl, rfl⟩
theorem turned_word (s : Bool) {r : Nat} (h : r ≤ 9218868437227405312) : Turned (Ieee.double.word s r) (Ieee.double.word (!s) r) := by
  have h1 := word_parts s (r := r) (by omega)
  have h2 := word_parts (!s) (r := r) (by omega)
  refine Or.inr ⟨nan_word _ h, nan_word _ h, h1.1.trans h2.1.symm, h1.2.2, h2.2.2, Or.inr ?_⟩
  rw [flip_word _ (by omega), Bool.not_not]
theorem nearest_false (m : Nat) (p : Int) : Ieee.double.nearest false m p ≤ 9218868437227405312 ∧ ∀ s, Ieee.double.nearest s m p = Ieee.double.word s (Ieee.double.nearest false m p) := by
  by_cases h : m = 0
  · have e : ∀ s, Ieee.double.nearest s m p = Ieee.double.word s 0 := fun s => by
      unfold Ieee.Format.nearest
      rw [if_pos h]
    rw [e false]
    exact ⟨by decide, e⟩
  · obtain ⟨K, hK⟩ : ∃ K : Nat, ∀ s, Ieee.double.nearest s m p = Ieee.double.word s (min K Ieee.double.infRung) := ⟨(max (p + (m.log2 : Int) - (Ieee.double.fractionBits : Int)) Ieee.double.leastPlace - Ieee.double.leastPlace).toNat * Ieee.double.binade + Ieee.Toward.even.cut false (m <<< (p - max (p + (m.log2 : Int) - (Ieee.double.fractionBits : Int)) Ieee.double.leastPlace).toNat) (max (p + (m.log2 : Int) - (Ieee.double.fractionBits : Int)) Ieee.double.leastPlace - p).toNat, fun s => by
      unfold Ieee.Format.nearest
      rw [if_neg h]
      rfl⟩
    have e : Ieee.double.nearest false m p = min K Ieee.double.infRung := hK false
    rw [e]
    exact ⟨by rw [← inf_eq]; exact Nat.min_le_right _ _, hK⟩
theorem nearest_word (m : Nat) (p : Int) : ∃ r, r ≤ 9218868437227405312 ∧ ∀ s, Ieee.double.nearest s m p = Ieee.double.word s r := ⟨_, nearest_false m p⟩
theorem sub_turned {x y : Nat} (hx : x < 18446744073709551616) (hy : y < 18446744073709551616) (nx : nanB x = false) (ny : nanB y = false) : Turned (arithF .sub x y) (arithF .sub y x) := by
  have ox := nan_no nx
  have oy := nan_no ny
  rcases Nat.lt_or_eq_of_le ox with fx | ix
  · rcases Nat.lt_or_eq_of_le oy with fy | iy
    · have rx := read_fin fx
      have ry := read_fin fy
      generalize mag (rung x) = m at *
      generalize up (rung x) = u at *
      generalize mag (rung y) = n at *
      generalize up (rung y) = v at *
      obtain ⟨k, hk, hku, hkv⟩ : ∃ k : Nat, min (-1074 + (u : Int)) (-1074 + (v : Int)) = -1074 + (k : Int) ∧ k ≤ u ∧ k ≤ v := ⟨min u v, by omega, by omega, by omega⟩
      have e1 : opD .sub (Ieee.double.read x) (Ieee.double.read y) = some (.number (if sv (sgn x) (m * 2 ^ (u - k)) + sv (!sgn y) (n * 2 ^ (v - k)) = 0 then sgn x && !sgn y else decide (sv (sgn x) (m * 2 ^ (u - k)) + sv (!sgn y) (n * 2 ^ (v - k)) < 0)) (sv (sgn x) (m * 2 ^ (u - k)) + sv (!sgn y) (n * 2 ^ (v - k))).natAbs (-1074 + (k : Int))) := by
        rw [rx, ry, opD_sub, opp_num]
        simp only [Ieee.Datum.sum]
        rw [hk, show (-1074 + (u : Int) - (-1074 + (k : Int))).toNat = u - k by omega, show (-1074 + (v : Int) - (-1074 + (k : Int))).toNat = v - k by omega, signed_eq, signed_eq]
      have e2 : opD .sub (Ieee.double.read y) (Ieee.double.read x) = some (.number (if sv (sgn y) (n * 2 ^ (v - k)) + sv (!sgn x) (m * 2 ^ (u - k)) = 0 then sgn y && !sgn x else decide (sv (sgn y) (n * 2 ^ (v - k)) + sv (!sgn x) (m * 2 ^ (u - k)) < 0)) (sv (sgn y) (n * 2 ^ (v - k)) + sv (!sgn x) (m * 2 ^ (u - k))).natAbs (-1074 + (k : Int))) := by
        rw [rx, ry, opD_sub, opp_num]
        simp only [Ieee.Datum.sum]
        rw [Int.min_comm, hk, show (-1074 + (u : Int) - (-1074 + (k : Int))).toNat = u - k by omega, show (-1074 + (v : Int) - (-1074 + (k : Int))).toNat = v - k by omega, signed_eq, signed_eq]
      have hneg : ∀ (s : Bool) (q : Nat), sv (!s) q = -sv s q := fun s q => by cases s <;> simp [sv]
      rw [hneg] at e1 e2
      generalize sv (sgn x) (m * 2 ^ (u - k)) = A at *
      generalize sv (sgn y) (n * 2 ^ (v - k)) = B at *
      have hna : (B + -A).natAbs = (A + -B).natAbs := by omega
      rw [hna] at e2
      obtain ⟨r, hr, hw⟩ := nearest_word (A + -B).natAbs (-1074 + (k : Int))
      have a1 : ∀ s, nanB (Ieee.double.word s r) = false := fun s => nan_word s hr
      have q1 : arithF .sub x y = Ieee.double.word (if A + -B = 0 then sgn x && !sgn y else decide (A + -B < 0)) r := by
        refine arith_of ?_ (a1 _)
        rw [e1]
        show some (Ieee.double.nearest _ _ _) = _
        rw [hw]
      have q2 : arithF .sub y x = Ieee.double.word (if B + -A = 0 then sgn y && !sgn x else decide (B + -A < 0)) r := by
        refine arith_of ?_ (a1 _)
        rw [e2]
        show some (Ieee.double.nearest _ _ _) = _
        rw [hw]
      rw [q1, q2]
      by_cases h0 : A + -B = 0
      · have hr0 : r = 0 := by
          have h3 := hw false
          rw [h0] at h3
          have h3 : Ieee.double.nearest false 0 (-1074 + (k : Int)) = Ieee.double.word false r := h3
          have h4 : Ieee.double.nearest false 0 (-1074 + (k : Int)) = Ieee.double.word false 0 := by
            unfold Ieee.Format.nearest
            rw [if_pos rfl]
          rw [h4] at h3
          exact (show (0 : Nat) = r from h3).symm
        subst hr0
        have h1 := fun s => word_parts s (r := 0) (by decide)
        exact Or.inr ⟨a1 _, a1 _, (h1 _).1.trans (h1 _).1.symm, (h1 _).2.2, (h1 _).2.2, Or.inl (h1 _).1⟩
      · rw [if_neg h0, if_neg (by omega)]
        have : decide (B + -A < 0) = !decide (A + -B < 0) := by
          by_cases h : A + -B < 0
          · rw [decide_eq_true h, decide_eq_false (by omega)]; rfl
          · rw [decide_eq_false h, decide_eq_true (by omega)]; rfl
        rw [this]
        exact turned_word _ hr
    · have e1 : opD .sub (Ieee.double.read x) (Ieee.double.read y) = some (.infinity (!sgn y)) := by
        rw [read_fin fx, read_inf iy]; rfl
      have e2 : opD .sub (Ieee.double.read y) (Ieee.double.read x) = some (.infinity (sgn y)) := by
        rw [read_fin fx, read_inf iy]; rfl
      have q1 : arithF .sub x y = Ieee.double.word (!sgn y) 9218868437227405312 := arith_of (by rw [e1]; show some (Ieee.double.word _ _) = _; rw [inf_eq]) (nan_word _ (Nat.le_refl _))
      have q2 : arithF .sub y x = Ieee.double.word (sgn y) 9218868437227405312 := arith_of (by rw [e2]; show some (Ieee.double.word _ _) = _; rw [inf_eq]) (nan_word _ (Nat.le_refl _))
      rw [q1, q2]
      have := turned_word (!sgn y) (r := 9218868437227405312) (Nat.le_refl _)
      rwa [Bool.not_not] at this
  · rcases Nat.lt_or_eq_of_le oy with fy | iy
    · have e1 : opD .sub (Ieee.double.read x) (Ieee.double.read y) = some (.infinity (sgn x)) := by
        rw [read_inf ix, read_fin fy]; rfl
      have e2 : opD .sub (Ieee.double.read y) (Ieee.double.read x) = some (.infinity (!sgn x)) := by
        rw [read_inf ix, read_fin fy]; rfl
      have q1 : arithF .sub x y = Ieee.double.word (sgn x) 9218868437227405312 := arith_of (by rw [e1]; show some (Ieee.double.word _ _) = _; rw [inf_eq]) (nan_word _ (Nat.le_refl _))
      have q2 : arithF .sub y x = Ieee.double.word (!sgn x) 9218868437227405312 := arith_of (by rw [e2]; show some (Ieee.double.word _ _) = _; rw [inf_eq]) (nan_word _ (Nat.le_refl _))
      rw [q1, q2]
      exact turned_word _ (Nat.le_refl _)
    · by_cases hs : sgn x = !sgn y
      · have e1 : opD .sub (Ieee.double.read x) (Ieee.double.read y) = some (.infinity (sgn x)) := by
          rw [read_inf ix, read_inf iy]
          show (if sgn x = !sgn y then some (Ieee.Datum.infinity (sgn x)) else none) = _
          rw [if_pos hs]
        have e2 : opD .sub (Ieee.double.read y) (Ieee.double.read x) = some (.infinity (!sgn x)) := by
          rw [read_inf ix, read_inf iy]
          show (if sgn y = !sgn x then some (Ieee.Datum.infinity (sgn y)) else none) = _
          have : sgn y = !sgn x := by rw [hs, Bool.not_not]
          rw [if_pos this, this]
        have q1 : arithF .sub x y = Ieee.double.word (sgn x) 9218868437227405312 := arith_of (by rw [e1]; show some (Ieee.double.word _ _) = _; rw [inf_eq]) (nan_word _ (Nat.le_refl _))
        have q2 : arithF .sub y x = Ieee.double.word (!sgn x) 9218868437227405312 := arith_of (by rw [e2]; show some (Ieee.double.word _ _) = _; rw [inf_eq]) (nan_word _ (Nat.le_refl _))
        rw [q1, q2]
        exact turned_word _ (Nat.le_refl _)
      · have q1 : arithF .sub x y = 9221120237041090560 := arith_bad (by
          rw [read_inf ix, read_inf iy]
          show (if sgn x = !sgn y then some (Ieee.Datum.infinity (sgn x)) else none) = _
          rw [if_neg hs])
        have q2 : arithF .sub y x = 9221120237041090560 := arith_bad (by
          rw [read_inf ix, read_inf iy]
          show (if sgn y = !sgn x then some (Ieee.Datum.infinity (sgn y)) else none) = _
          rw [if_neg (fun h => hs (by rw [h, Bool.not_not]))])
        rw [q1, q2]
        exact turned_nan
theorem mul_neg {x : Nat} (hx : x < 18446744073709551616) (nx : nanB x = false) : arithF .mul x 13830554455654793216 = flipB x := by
  have hf := flip_parts hx
  have hw : flipB x = Ieee.double.word (!sgn x) (rung x) := by rw [← flip_word _ (rung_lt x), word_eq hx]
  rcases Nat.lt_or_eq_of_le (nan_no nx) with fx | ix
  · refine arith_of ?_ (by rw [nan_rung hf.1]; exact nx)
    rw [read_fin fx, read_neg1, opD_mul, mul_one, Bool.xor_true, nearest_rung _ fx, hw]
  · refine arith_of ?_ (by rw [nan_rung hf.1]; exact nx)
    rw [read_inf ix, read_neg1, hw, ix]
    show some (Ieee.double.write (.infinity (sgn x ^^ true))) = _
    rw [Bool.xor_true]
    show some (Ieee.double.word _ _) = _
    rw [inf_eq]
/-- The two texts. -/
theorem text_turned {x : Nat} (hx : x < 18446744073709551616) (nx : nanB x = false) :
    (textF x).length = 18 ∨ (textF x).length ≠ 18 ∧ (textF x = 45 :: textF (flipB x) ∨ (∀ t, textF x ≠ 45 :: t) ∧ textF (flipB x) = 45 :: textF x) := by
  have hf := flip_parts hx
  have nf : nanB (flipB x) = false := by rw [nan_rung hf.1]; exact nx
  have hw : flipB x = Ieee.double.word (!sgn x) (rung x) := by rw [← flip_word _ (rung_lt x), word_eq hx]
  have hxw := word_eq hx
  by_cases c : rung x < 4831355200913801216 ∧ wholeB (rung x) = true
  · have hi := int_15 c.1 c.2
    have hF := (whole_iff c.1).1 c.2
    obtain ⟨T, hT⟩ : ∃ T, T = intR (rung x) := ⟨_, rfl⟩
    rw [← hT] at hi hF
    have texts : ∀ s : Bool, textF (Ieee.double.word s (rung x)) = if s then 45 :: Lib.decDigits T else Lib.decDigits T := by
      intro s
      by_cases h0 : T = 0
      · rw [h0, FI_zero] at hF
        rw [← hF, h0]
        cases s
        · have := text_whole (z := 0) (by decide)
          unfold bitsZ at this
          rw [show (0 : Int).natAbs = 0 from rfl, FI_zero, show Lib.itoa 0 = Lib.decDigits 0 from Lib.itoa_nonneg 0] at this
          exact this
        · rw [Lib.decDigits_one (by decide)]; decide +kernel
      · have := text_whole (z := sv s T) (by rw [sv_natAbs2]; exact hi)
        unfold bitsZ at this
        rw [sv_natAbs2, hF] at this
        cases s
        · rw [show decide (sv false T < 0) = false by simp [sv]] at this
          rw [this]
          exact Lib.itoa_nonneg T
        · rw [show decide (sv true T < 0) = true by simp [sv]; omega] at this
          rw [this]
          exact Lib.itoa_neg T (by omega)
    have t1 := texts (sgn x)
    have t2 := texts (!sgn x)
    rw [hxw] at t1
    rw [← hw] at t2
    have hlen := (dig_len hi)
    right
    cases hs : sgn x with
    | false =>
      rw [hs] at t1 t2
      have t1' : textF x = Lib.decDigits T := t1
      have t2' : textF (flipB x) = 45 :: Lib.decDigits T := t2
      refine ⟨by rw [t1']; omega, Or.inr ⟨fun t h => ?_, by rw [t1', t2']⟩⟩
      obtain ⟨c, u, hc, hd⟩ := head_dig (u := T)
      rw [t1', hc] at h
      rw [(List.cons.inj h).1] at hd
      revert hd; decide
    | true =>
      rw [hs] at t1 t2
      have t1' : textF x = 45 :: Lib.decDigits T := t1
      have t2' : textF (flipB x) = Lib.decDigits T := t2
      refine ⟨by rw [t1', List.length_cons]; omega, Or.inl (by rw [t1', t2'])⟩
  · by_cases hinf : rung x = 9218868437227405312
    · right
      rw [hinf] at hxw hw
      cases hs : sgn x with
      | false =>
        rw [hs] at hxw hw
        have e1 : x = 9218868437227405312 := hxw.symm.trans (by decide +kernel)
        have e2 : flipB x = 18442240474082181120 := hw.trans (by decide +kernel)
        have t1 : textF x = [105, 110, 102] := by rw [e1]; decide +kernel
        have t2 : textF (flipB x) = [45, 105, 110, 102] := by rw [e2]; decide +kernel
        refine ⟨by rw [t1]; decide, Or.inr ⟨fun t h => ?_, by rw [t1, t2]⟩⟩
        rw [t1] at h
        cases h
      | true =>
        rw [hs] at hxw hw
        have e1 : x = 18442240474082181120 := hxw.symm.trans (by decide +kernel)
        have e2 : flipB x = 9218868437227405312 := hw.trans (by decide +kernel)
        have t1 : textF x = [45, 105, 110, 102] := by rw [e1]; decide +kernel
        have t2 : textF (flipB x) = [105, 110, 102] := by rw [e2]; decide +kernel
        exact ⟨by rw [t1]; decide, Or.inl (by rw [t1, t2])⟩
    · left
      rw [text_rest nx (fun h => hinf (by rw [h]; decide)) (fun h => hinf (by rw [h]; decide)) (fun h => c (by rw [h]; decide +kernel)), if_neg c, List.length_append, hexK_len]
      rfl
end Go.Proofs.YtnddnhjlaojllaaDoor
