/-
  Plain functions of patterns with a percent sign, on lists of bytes; no program in sight.
-/
import Derived.Lib.Strings
import Derived.Lib.Bytealg
import Derived.Lib.IndexLaws
import Derived.Lib.IndexMore
import Derived.Lib.IndexBytes
namespace Go.Proofs.Ytglppnpllpfaeaa

/-- The place of the percent sign, or -1. -/
def pct (p : List UInt8) : Int := Lib.indexByte p 37

/-- What Match and Stem answer. -/
def stemF (p s : List UInt8) : List UInt8 × Bool :=
  if pct p < 0 then ([], p == s)
  else if s.length < p.length then ([], false)
  else if Lib.hasPrefix s (p.take (pct p).toNat) = false then ([], false)
  else if Lib.hasSuffix s (p.drop ((pct p).toNat + 1)) = false then ([], false)
  else ((s.drop (pct p).toNat).take (s.length - (p.length - ((pct p).toNat + 1)) - (pct p).toNat), true)

/-- What Fill answers. -/
def fillF (p s : List UInt8) : List UInt8 :=
  if pct p < 0 then p else p.take (pct p).toNat ++ s ++ p.drop ((pct p).toNat + 1)

theorem pct_ge (p : List UInt8) : -1 ≤ pct p := Lib.indexByte_ge p 37

theorem pct_lt (p : List UInt8) : pct p < p.length := by
  have h := pct_ge p
  by_cases h1 : pct p < 0
  · omega
  · obtain ⟨o, ho⟩ := Int.eq_ofNat_of_zero_le (show 0 ≤ pct p by omega)
    have := (Lib.indexByte_some ho).1
    rcases Nat.lt_or_ge o p.length with x | x
    · omega
    · rw [List.getElem?_eq_none x] at this; cases this

theorem cut_pct (p : List UInt8) : Lib.cut p [37] = if pct p < 0 then (p, [], false) else (p.take (pct p).toNat, p.drop ((pct p).toNat + 1), true) := by
  unfold Lib.cut
  rw [Lib.index_one]
  show (if 0 ≤ pct p then _ else _) = _
  by_cases h : pct p < 0
  · rw [if_neg (by omega), if_pos h]
  · rw [if_pos (by omega), if_neg h]; rfl

theorem contains_pct (p : List UInt8) : Lib.contains p [37] = decide (0 ≤ pct p) := by
  unfold Lib.contains
  rw [Lib.index_one]; rfl

theorem ex0 (p : ByteArray) (k : Nat) : (p.extract 0 k).data.toList = p.data.toList.take k := by
  rw [Lib.extract_data]; simp

theorem exEnd (p : ByteArray) (k : Nat) : (p.extract k p.size).data.toList = p.data.toList.drop k := by
  rw [Lib.extract_data, List.take_of_length_le (by rw [List.length_drop, ← Lib.size_eq]; exact Nat.le_refl _)]

/-- Stem at a place k, in the words of the walk. -/
theorem stemF_at (p s : ByteArray) (k : Nat) (hk : pct p.data.toList = k) : stemF p.data.toList s.data.toList =
    if s.size < p.size then ([], false)
    else if Lib.hasPrefix s.data.toList (p.extract 0 k).data.toList = false then ([], false)
    else if Lib.hasSuffix s.data.toList (p.extract (k + 1) p.size).data.toList = false then ([], false)
    else ((s.extract k (s.size - (p.size - (k + 1)))).data.toList, true) := by
  unfold stemF
  rw [ex0, exEnd, Lib.extract_data, hk, if_neg (by omega), Int.toNat_natCast, ← Lib.size_eq, ← Lib.size_eq]

theorem stemF_none (p s : ByteArray) (hk : pct p.data.toList < 0) : stemF p.data.toList s.data.toList = ([], p.data.toList == s.data.toList) := by
  unfold stemF; rw [if_pos hk]

theorem fillF_at (p s : ByteArray) (k : Nat) (hk : pct p.data.toList = k) : fillF p.data.toList s.data.toList =
    (p.extract 0 k).data.toList ++ s.data.toList ++ (p.extract (k + 1) p.size).data.toList := by
  unfold fillF
  rw [ex0, exEnd, hk, if_neg (by omega), Int.toNat_natCast]

theorem fillF_none (p s : ByteArray) (hk : pct p.data.toList < 0) : fillF p.data.toList s.data.toList = p.data.toList := by
  unfold fillF; rw [if_pos hk]

/-- A pattern that is filled is matched by just that stem, if it is not empty. -/
theorem stemF_fill_none (p s : List UInt8) (hk : pct p < 0) : stemF p (fillF p s) = ([], true) := by
  unfold stemF fillF
  rw [if_pos hk, if_pos hk]
  simp

theorem stemF_fill_empty (p : List UInt8) (hk : ¬ pct p < 0) : stemF p (fillF p []) = ([], false) := by
  have hlt := pct_lt p
  have hge := pct_ge p
  unfold stemF
  rw [if_neg hk]
  have : (fillF p []).length < p.length := by
    unfold fillF
    rw [if_neg hk]
    simp only [List.append_nil, List.length_append, List.length_take, List.length_drop]
    omega
  rw [if_pos this]

theorem stemF_fill_some (p s : List UInt8) (hk : ¬ pct p < 0) (hs : s ≠ []) : stemF p (fillF p s) = (s, true) := by
  have hlt := pct_lt p
  have hge := pct_ge p
  obtain ⟨k, e⟩ := Int.eq_ofNat_of_zero_le (show 0 ≤ pct p by omega)
  have hs' : 0 < s.length := List.length_pos_iff.2 hs
  have e2 : fillF p s = p.take k ++ (s ++ p.drop (k + 1)) := by
    unfold fillF
    rw [if_neg hk, e, Int.toNat_natCast, List.append_assoc]
  have hl : (fillF p s).length = p.length - 1 + s.length := by
    rw [e2]
    simp only [List.length_append, List.length_take, List.length_drop]
    omega
  have ht : (p.take k).length = k := by rw [List.length_take]; omega
  unfold stemF
  rw [if_neg hk, if_neg (by omega), e, Int.toNat_natCast]
  have hp : Lib.hasPrefix (fillF p s) (p.take k) = true := by
    unfold Lib.hasPrefix
    rw [List.isPrefixOf_iff_prefix, e2]
    exact List.prefix_append _ _
  have hsf : Lib.hasSuffix (fillF p s) (p.drop (k + 1)) = true := by
    unfold Lib.hasSuffix
    rw [List.isSuffixOf_iff_suffix, e2, ← List.append_assoc]
    exact List.suffix_append _ _
  rw [hp, hsf, if_neg (by decide), if_neg (by decide)]
  have : (List.drop k (fillF p s)).take ((fillF p s).length - (p.length - (k + 1)) - k) = s := by
    rw [hl, e2, List.drop_append_of_le_length (by omega), List.drop_of_length_le (by omega), List.nil_append]
    rw [show p.length - 1 + s.length - (p.length - (k + 1)) - k = s.length by omega]
    exact List.take_left
  rw [this]

theorem fillF_len (p s : List UInt8) : (fillF p s).length ≤ p.length + s.length := by
  unfold fillF
  split
  · omega
  · simp only [List.length_append, List.length_take, List.length_drop]; omega

end Go.Proofs.Ytglppnpllpfaeaa
