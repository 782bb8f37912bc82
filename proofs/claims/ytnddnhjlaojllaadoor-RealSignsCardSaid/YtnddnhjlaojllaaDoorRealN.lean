/-
  Plain laws of the binary64 format: the nearest word turns on the value alone; a word that is written of what it reads is itself.
-/
import Derived.Test.YtnddnhjlaojllaaDoorRealK
namespace Go.Proofs.YtnddnhjlaojllaaDoor

theorem log2_mul (m k : Nat) (h : m ≠ 0) : (m * 2 ^ k).log2 = m.log2 + k := by
  rw [Nat.log2_eq_iff (Nat.mul_ne_zero h (Nat.ne_of_gt (Nat.two_pow_pos k)))]
  have h1 := Nat.log2_self_le h
  have h2 := Nat.lt_log2_self (n := m)
  constructor
  · rw [Nat.pow_add]; exact Nat.mul_le_mul_right _ h1
  · rw [show m.log2 + k + 1 = (m.log2 + 1) + k by omega, Nat.pow_add]; exact Nat.mul_lt_mul_of_pos_right h2 (Nat.two_pow_pos k)

theorem cut_scale (s : Bool) (m k d : Nat) (h : m ≠ 0) : Ieee.Toward.even.cut s (m * 2 ^ k) (d + k) = Ieee.Toward.even.cut s m d := by
  unfold Ieee.Toward.cut
  dsimp only
  rw [log2_mul m k h, show min (d + k) (m.log2 + k + 2) = min d (m.log2 + 2) + k by omega]
  obtain ⟨g, hg⟩ : ∃ g, g = 1 <<< min d (m.log2 + 2) := ⟨_, rfl⟩
  have e : 1 <<< (min d (m.log2 + 2) + k) = g * 2 ^ k := by
    rw [hg, Nat.shiftLeft_eq, Nat.shiftLeft_eq, Nat.pow_add]; simp
  rw [e, ← hg]
  have p := Nat.two_pow_pos k
  rw [Nat.mul_div_mul_right _ _ p, Nat.mul_mod_mul_right]
  have e1 : (g * 2 ^ k < 2 * (m % g * 2 ^ k)) = (g < 2 * (m % g)) := by
    rw [← Nat.mul_assoc]
    exact propext (Nat.mul_lt_mul_right p)
  have e2 : (g * 2 ^ k == 2 * (m % g * 2 ^ k)) = (g == 2 * (m % g)) := by
    rw [← Nat.mul_assoc, Bool.eq_iff_iff, beq_iff_eq, beq_iff_eq]
    exact ⟨fun x => Nat.eq_of_mul_eq_mul_right p x, fun x => by rw [← x]⟩
  rw [e2]
  simp only [e1]

theorem cut_none (s : Bool) (m : Nat) : Ieee.Toward.even.cut s m 0 = m := by
  unfold Ieee.Toward.cut
  simp [Nat.mod_one]

theorem cut_exact (s : Bool) (m k : Nat) (h : m ≠ 0) : Ieee.Toward.even.cut s (m * 2 ^ k) k = m := by
  have := cut_scale s m k 0 h
  rw [Nat.zero_add] at this
  rw [this, cut_none]

theorem nearest_scale (s : Bool) (m k : Nat) (p : Int) : Ieee.double.nearest s (m * 2 ^ k) (p - k) = Ieee.double.nearest s m p := by
  by_cases h : m = 0
  · subst h
    unfold Ieee.Format.nearest
    simp
  have h2 : m * 2 ^ k ≠ 0 := Nat.mul_ne_zero h (Nat.ne_of_gt (Nat.two_pow_pos k))
  unfold Ieee.Format.nearest
  rw [if_neg h, if_neg h2]
  dsimp only
  rw [log2_mul m k h]
  rw [show (p - (k : Int) + ((m.log2 + k : Nat) : Int) - (Ieee.double.fractionBits : Int)) = p + (m.log2 : Int) - (Ieee.double.fractionBits : Int) by omega]
  obtain ⟨l, hl⟩ : ∃ l, l = max (p + (m.log2 : Int) - (Ieee.double.fractionBits : Int)) Ieee.double.leastPlace := ⟨_, rfl⟩
  rw [← hl]
  clear hl
  congr 2
  congr 1
  rcases Int.lt_or_le p l with h3 | h3
  · rw [show (p - l).toNat = 0 by omega, show (p - (k : Int) - l).toNat = 0 by omega, show (l - (p - (k : Int))).toNat = (l - p).toNat + k by omega, Nat.shiftLeft_zero, Nat.shiftLeft_zero, cut_scale _ _ _ _ h]
  · rw [show (l - p).toNat = 0 by omega, cut_none, Nat.shiftLeft_eq, Nat.shiftLeft_eq]
    rcases Int.lt_or_le (p - k) l with h4 | h4
    · rw [show (p - (k : Int) - l).toNat = 0 by omega, Nat.pow_zero, Nat.mul_one]
      have e : m * 2 ^ k = (m * 2 ^ (p - l).toNat) * 2 ^ (l - (p - (k : Int))).toNat := by
        rw [Nat.mul_assoc, ← Nat.pow_add]; congr 2; omega
      rw [e, cut_exact _ _ _ (Nat.mul_ne_zero h (Nat.ne_of_gt (Nat.two_pow_pos _)))]
    · rw [show (l - (p - (k : Int))).toNat = 0 by omega, cut_none, Nat.mul_assoc, ← Nat.pow_add]
      congr 2; omega

/-- The nearest word turns on the value alone. -/
theorem nearest_val (s : Bool) {m m' a b : Nat} {p p' : Int} (h : m * 2 ^ a = m' * 2 ^ b) (hp : p - a = p' - b) : Ieee.double.nearest s m p = Ieee.double.nearest s m' p' := by
  rw [← nearest_scale s m a p, ← nearest_scale s m' b p', h, hp]

theorem log2_norm {n : Nat} (h1 : 4503599627370496 ≤ n) (h2 : n < 9007199254740992) : n.log2 = 52 := by
  rw [Nat.log2_eq_iff (by omega)]
  exact ⟨by simpa using h1, by simpa using h2⟩

/-- What a word reads is written as that word. -/
theorem nearest_rung (s : Bool) {r : Nat} (h : r < 9218868437227405312) : Ieee.double.nearest s (mag r) (-1074 + (up r : Int)) = Ieee.double.word s r := by
  unfold mag up
  by_cases h1 : r < 4503599627370496
  · rw [if_pos h1, if_pos h1]
    unfold Ieee.Format.nearest
    by_cases h0 : r = 0
    · rw [if_pos h0, h0]
    · rw [if_neg h0]
      dsimp only
      have hl : r.log2 < 52 := (Nat.log2_lt h0).2 (by simpa using h1)
      rw [least_eq, show (Ieee.double.fractionBits : Int) = 52 from rfl]
      rw [show max (-1074 + ((0 : Nat) : Int) + (r.log2 : Int) - 52) (-1074) = -1074 by omega]
      simp only [Int.sub_self, Int.toNat_zero, show (-1074 + ((0 : Nat) : Int) - -1074).toNat = 0 by omega, show (-1074 - (-1074 + ((0 : Nat) : Int))).toNat = 0 by omega, Nat.shiftLeft_zero, cut_none, Nat.zero_mul, Nat.zero_add, inf_eq]
      rw [Nat.min_eq_left (by omega)]
  · rw [if_neg h1, if_neg h1]
    unfold Ieee.Format.nearest
    obtain ⟨f, hf⟩ : ∃ f, f = r % 4503599627370496 := ⟨_, rfl⟩
    obtain ⟨e, he⟩ : ∃ e, e = r / 4503599627370496 - 1 := ⟨_, rfl⟩
    have hr : e * 4503599627370496 + (4503599627370496 + f) = r := by omega
    rw [← hf, ← he]
    rw [if_neg (by omega)]
    dsimp only
    rw [log2_norm (by omega) (by omega), least_eq, show (Ieee.double.fractionBits : Int) = 52 from rfl]
    rw [show max (-1074 + (e : Int) + ((52 : Nat) : Int) - 52) (-1074) = -1074 + (e : Int) by omega]
    simp only [Int.sub_self, Int.toNat_zero, Nat.shiftLeft_zero, cut_none, inf_eq, binade_eq, show (-1074 + (e : Int) - -1074).toNat = e by omega]
    rw [hr, Nat.min_eq_left (by omega)]

theorem word_eq {x : Nat} (h : x < 18446744073709551616) : Ieee.double.word (sgn x) (rung x) = x := by
  unfold Ieee.Format.word sgn rung
  rw [sign_eq]
  split <;> rename_i h1 <;> simp at h1 <;> omega

theorem write_read {x : Nat} (h : x < 18446744073709551616) (hr : rung x ≤ 9218868437227405312) : Ieee.double.write (Ieee.double.read x) = x := by
  rcases Nat.lt_or_eq_of_le hr with h1 | h1
  · rw [read_fin h1]
    show Ieee.double.nearest _ _ _ = _
    rw [nearest_rung _ h1, word_eq h]
  · rw [read_inf h1]
    show Ieee.double.word _ _ = _
    rw [inf_eq, ← h1, word_eq h]
end Go.Proofs.YtnddnhjlaojllaaDoor
