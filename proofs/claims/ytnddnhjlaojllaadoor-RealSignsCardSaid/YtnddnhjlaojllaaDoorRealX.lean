/-
  Plain: whole numbers as binary64 numbers.
-/
import Derived.Test.YtnddnhjlaojllaaDoorRealN
namespace Go.Proofs.YtnddnhjlaojllaaDoor
set_option linter.unusedVariables false

/-- The bits of a whole number. -/
def FI (T : Nat) : Nat := floatOfInt .f64 (T : Int)
/-- A place that is below all others. -/
def lowP : Nat := 1074
theorem FI_near (T : Nat) : FI T = Ieee.double.nearest false T 0 := by
  unfold FI floatOfInt
  show Ieee.double.nearest (decide ((T : Int) < 0)) ((T : Int).natAbs) 0 = _
  rw [decide_eq_false (by omega), Int.natAbs_natCast]
theorem rung_at (T : Nat) (h0 : T ≠ 0) (h : T < 9007199254740992) : ∃ r, r < 9218868437227405312 ∧ mag r * 2 ^ up r = T * 2 ^ lowP := by
  have hL : T.log2 < 53 := (Nat.log2_lt h0).2 h
  obtain ⟨L, hLe⟩ : ∃ L, L = T.log2 := ⟨_, rfl⟩
  rw [← hLe] at hL
  have l1 : 2 ^ L ≤ T := by rw [hLe]; exact Nat.log2_self_le h0
  have l2 : T < 2 ^ (L + 1) := by rw [hLe]; exact Nat.lt_log2_self
  have p1 : 2 ^ L * 2 ^ (52 - L) = 4503599627370496 := by rw [← Nat.pow_add, show L + (52 - L) = 52 by omega]
  have p2 : 2 ^ (L + 1) * 2 ^ (52 - L) = 9007199254740992 := by rw [← Nat.pow_add, show L + 1 + (52 - L) = 53 by omega]
  have hpos : 0 < 2 ^ (52 - L) := Nat.pow_pos (by decide)
  obtain ⟨m, hm⟩ : ∃ m, m = T * 2 ^ (52 - L) := ⟨_, rfl⟩
  have m1 : 4503599627370496 ≤ m := by rw [hm, ← p1]; exact Nat.mul_le_mul_right _ l1
  have m2 : m < 9007199254740992 := by rw [hm, ← p2]; exact Nat.mul_lt_mul_of_pos_right l2 hpos
  refine ⟨(1023 + L) * 4503599627370496 + (m - 4503599627370496), by omega, ?_⟩
  have hd : ((1023 + L) * 4503599627370496 + (m - 4503599627370496)) / 4503599627370496 = 1023 + L := by omega
  have hr : ((1023 + L) * 4503599627370496 + (m - 4503599627370496)) % 4503599627370496 = m - 4503599627370496 := by omega
  have hn : ¬ ((1023 + L) * 4503599627370496 + (m - 4503599627370496)) < 4503599627370496 := by omega
  unfold mag up
  rw [if_neg hn, if_neg hn, hd, hr, show 4503599627370496 + (m - 4503599627370496) = m by omega, hm, Nat.mul_assoc, ← Nat.pow_add]
  rw [show 52 - L + (1023 + L - 1) = lowP by unfold lowP; omega]
/-- A whole number that is not too great, in full. -/
theorem FI_all {T : Nat} (h : T < 9007199254740992) : FI T < 9218868437227405312 ∧ val (FI T) = T * 2 ^ lowP ∧ ∀ s, Ieee.double.nearest s T 0 = Ieee.double.word s (FI T) := by
  by_cases h0 : T = 0
  · subst h0
    have : FI 0 = 0 := by rw [FI_near]; rfl
    rw [this]
    refine ⟨by decide, by rw [Nat.zero_mul]; rfl, fun s => ?_⟩
    unfold Ieee.Format.nearest
    rw [if_pos rfl]
  · obtain ⟨r, hr, hv⟩ := rung_at T h0 h
    have key : ∀ s, Ieee.double.nearest s T 0 = Ieee.double.word s r := fun s => by
      rw [← nearest_rung s hr]
      exact nearest_val s hv.symm (by unfold lowP; omega)
    have e : FI T = r := by
      rw [FI_near, key]
      rfl
    rw [e]
    exact ⟨hr, hv, key⟩
theorem lowP_pos : 0 < 2 ^ lowP := Nat.pow_pos (by decide)
theorem FI_lt {T U : Nat} (hT : T < 9007199254740992) (hU : U < 9007199254740992) : FI T < FI U ↔ T < U := by
  rw [← (val_ord (FI T) (FI U)).1, (FI_all hT).2.1, (FI_all hU).2.1]
  exact Nat.mul_lt_mul_right lowP_pos
theorem FI_eq {T U : Nat} (hT : T < 9007199254740992) (hU : U < 9007199254740992) : FI T = FI U ↔ T = U := by
  rw [← (val_ord (FI T) (FI U)).2.1, (FI_all hT).2.1, (FI_all hU).2.1]
  exact ⟨fun h => Nat.eq_of_mul_eq_mul_right lowP_pos h, fun h => by rw [h]⟩
theorem FI_zero : FI 0 = 0 := by rw [FI_near]; rfl
/-- A number whose value is whole is that whole number's. -/
theorem FI_val {r T : Nat} (h : T < 9007199254740992) (hv : val r = T * 2 ^ lowP) : r = FI T := by
  rw [← (val_ord r (FI T)).2.1, (FI_all h).2.1, hv]
/-- The bits of a whole number with its sign. -/
def bitsZ (z : Int) : Nat := Ieee.double.word (decide (z < 0)) (FI z.natAbs)
theorem word_parts (s : Bool) {r : Nat} (h : r < 9223372036854775808) : rung (Ieee.double.word s r) = r ∧ sgn (Ieee.double.word s r) = s ∧ Ieee.double.word s r < 18446744073709551616 := by
  unfold Ieee.Format.word
  rw [sign_eq]
  unfold rung sgn
  cases s with
  | false => exact ⟨by rw [if_neg (by decide)]; omega, by rw [if_neg (by decide), beq_eq_false_iff_ne]; omega, by rw [if_neg (by decide)]; omega⟩
  | true => exact ⟨by rw [if_pos rfl]; omega, by rw [if_pos rfl, beq_iff_eq]; omega, by rw [if_pos rfl]; omega⟩
theorem bitsZ_parts {z : Int} (h : z.natAbs < 9007199254740992) : rung (bitsZ z) = FI z.natAbs ∧ sgn (bitsZ z) = decide (z < 0) ∧ bitsZ z < 18446744073709551616 :=
  word_parts _ (Nat.lt_trans (FI_all h).1 (by decide))
theorem bitsZ_read {z : Int} (h : z.natAbs < 9007199254740992) : Ieee.double.read (bitsZ z) = .number (decide (z < 0)) (mag (FI z.natAbs)) (-1074 + (up (FI z.natAbs) : Int)) := by
  rw [read_fin (by rw [(bitsZ_parts h).1]; exact (FI_all h).1), (bitsZ_parts h).1, (bitsZ_parts h).2.1]
theorem sv_natAbs' (z : Int) : sv (decide (z < 0)) z.natAbs = z := by
  unfold sv
  by_cases h : z < 0
  · rw [decide_eq_true h, if_pos rfl]; omega
  · rw [decide_eq_false h, if_neg (by decide)]; omega
theorem sv_mul (s : Bool) (m k : Nat) : sv s (m * k) = sv s m * (k : Int) := by
  cases s
  · simp [sv]
  · simp [sv, Int.neg_mul]
/-- The exact sum, written. -/
theorem sum_whole {a b : Int} (s t : Bool) (hs : sv s a.natAbs = a) (ht : sv t b.natAbs = b) (hst : a + b = 0 → (s && t) = false) (ha : a.natAbs < 9007199254740992) (hb : b.natAbs < 9007199254740992) (hab : (a + b).natAbs < 9007199254740992) :
    ((Ieee.Datum.number s (mag (FI a.natAbs)) (-1074 + (up (FI a.natAbs) : Int))).sum (.number t (mag (FI b.natAbs)) (-1074 + (up (FI b.natAbs) : Int)))).map Ieee.double.write = some (bitsZ (a + b)) := by
  obtain ⟨-, va, -⟩ := FI_all ha
  obtain ⟨-, vb, -⟩ := FI_all hb
  unfold val at va vb
  generalize mag (FI a.natAbs) = m at *
  generalize up (FI a.natAbs) = u at *
  generalize mag (FI b.natAbs) = n at *
  generalize up (FI b.natAbs) = v at *
  simp only [Ieee.Datum.sum]
  obtain ⟨k, hk⟩ : ∃ k : Nat, min (-1074 + (u : Int)) (-1074 + (v : Int)) = -1074 + (k : Int) ∧ k ≤ u ∧ k ≤ v := ⟨min u v, by omega, by omega, by omega⟩
  obtain ⟨hk, hku, hkv⟩ := hk
  rw [hk, show (-1074 + (u : Int) - (-1074 + (k : Int))).toNat = u - k by omega, show (-1074 + (v : Int) - (-1074 + (k : Int))).toNat = v - k by omega, signed_eq, signed_eq]
  have key : (sv s (m * 2 ^ (u - k)) + sv t (n * 2 ^ (v - k))) * ((2 ^ k : Nat) : Int) = (a + b) * ((2 ^ lowP : Nat) : Int) := by
    rw [Int.add_mul, ← sv_mul, ← sv_mul, Nat.mul_assoc, Nat.mul_assoc, ← Nat.pow_add, ← Nat.pow_add, Nat.sub_add_cancel hku, Nat.sub_add_cancel hkv, va, vb, sv_mul, sv_mul, hs, ht, Int.add_mul]
  generalize sv s (m * 2 ^ (u - k)) + sv t (n * 2 ^ (v - k)) = tot at *
  have pk : 0 < 2 ^ k := Nat.pow_pos (by decide)
  have pl := lowP_pos
  have habs : tot.natAbs * 2 ^ k = (a + b).natAbs * 2 ^ lowP := by
    have := congrArg Int.natAbs key
    rw [Int.natAbs_mul, Int.natAbs_mul, Int.natAbs_natCast, Int.natAbs_natCast] at this
    exact this
  have pk' : (0 : Int) < ((2 ^ k : Nat) : Int) := Int.natCast_pos.2 pk
  have pl' : (0 : Int) < ((2 ^ lowP : Nat) : Int) := Int.natCast_pos.2 pl
  have hz : tot = 0 ↔ a + b = 0 := by
    constructor
    · intro h
      rw [h, Int.zero_mul] at key
      rcases Int.mul_eq_zero.1 key.symm with h | h
      · exact h
      · omega
    · intro h
      rw [h, Int.zero_mul] at key
      rcases Int.mul_eq_zero.1 key with h | h
      · exact h
      · omega
  have hneg : tot < 0 ↔ a + b < 0 := by
    constructor
    · intro h
      have h1 := Int.mul_neg_of_neg_of_pos h pk'
      rw [key] at h1
      refine Int.lt_of_not_ge fun h2 => ?_
      have := Int.mul_nonneg h2 (Int.le_of_lt pl')
      omega
    · intro h
      have h1 := Int.mul_neg_of_neg_of_pos h pl'
      rw [← key] at h1
      refine Int.lt_of_not_ge fun h2 => ?_
      have := Int.mul_nonneg h2 (Int.le_of_lt pk')
      omega
  have hsg : (if tot = 0 then s && t else decide (tot < 0)) = decide (a + b < 0) := by
    by_cases h : tot = 0
    · rw [if_pos h, hst (hz.1 h), decide_eq_false (by have := hz.1 h; omega)]
    · rw [if_neg h]
      exact decide_eq_decide.2 hneg
  show some (Ieee.double.nearest (if tot = 0 then s && t else decide (tot < 0)) tot.natAbs (-1074 + (k : Int))) = _
  rw [hsg, nearest_val (decide (a + b < 0)) habs (p' := 0) (by unfold lowP; omega), (FI_all hab).2.2]
  rfl
/-- The exact product, written. -/
theorem product_whole {a b : Nat} (s t : Bool) (ha : a < 9007199254740992) (hb : b < 9007199254740992) (hab : a * b < 9007199254740992) :
    ((Ieee.Datum.number s (mag (FI a)) (-1074 + (up (FI a) : Int))).product (.number t (mag (FI b)) (-1074 + (up (FI b) : Int)))).map Ieee.double.write = some (Ieee.double.word (s ^^ t) (FI (a * b))) := by
  obtain ⟨-, va, -⟩ := FI_all ha
  obtain ⟨-, vb, -⟩ := FI_all hb
  unfold val at va vb
  show some (Ieee.double.nearest (s ^^ t) (mag (FI a) * mag (FI b)) (-1074 + (up (FI a) : Int) + (-1074 + (up (FI b) : Int)))) = _
  rw [← (FI_all hab).2.2]
  congr 1
  refine nearest_val _ (a := up (FI a) + up (FI b)) (b := lowP + lowP) ?_ (by unfold lowP; omega)
  rw [Nat.pow_add, Nat.pow_add, Nat.mul_mul_mul_comm, va, vb, Nat.mul_mul_mul_comm]
end Go.Proofs.YtnddnhjlaojllaaDoor
