/-
  Plain: the texts of numbers, and the numbers of texts.
-/
import Derived.Test.YtnddnhjlaojllaaDoorRealY
import Derived.Test.YtnddnhjlaojllaaDoorRealH
import Derived.Lib.ParseIntB
import Derived.Lib.ItoaMem
namespace Go.Proofs.YtnddnhjlaojllaaDoor
set_option linter.unusedVariables false

abbrev Bt := List UInt8
def decN (l : Bt) : Nat := l.foldl (fun n c => n * 10 + (c.toNat - 48)) 0
def hexB (c : UInt8) : Bool := digB c || (97 ≤ c.toNat && c.toNat ≤ 102)
def hexV (c : UInt8) : Nat := if digB c then c.toNat - 48 else c.toNat - 87
def hexN (l : Bt) : Nat := l.foldl (fun n c => n * 16 + hexV c) 0
def topN (b : Bool) : Nat := if b then 9223372036854775808 else 0
/-- A text behind its sign. -/
def plainF (neg : Bool) (t : Bt) : Nat × Bool :=
  if t = [105, 110, 102] then (9218868437227405312 + topN neg, true)
  else if t = [110, 97, 110] then (9221120237041090560, true)
  else if t = [] ∨ 15 < t.length ∨ t.all digB = false then (0, false)
  else (FI (decN t) + topN neg, true)
/-- The number of a text. -/
def ofF (s : Bt) : Nat × Bool :=
  if Lib.hasPrefix s [48, 120] = true then (if s.length = 18 ∧ (s.drop 2).all hexB = true then (cleanB (hexN (s.drop 2)), true) else (0, false))
  else if Lib.hasPrefix s [45] = true then plainF true (s.drop 1)
  else if Lib.hasPrefix s [43] = true then plainF false (s.drop 1)
  else plainF false s

theorem dig_ofNat {r : Nat} (h : r < 10) : digB (UInt8.ofNat (48 + r)) = true ∧ (UInt8.ofNat (48 + r)).toNat - 48 = r := by
  have : ∀ r : Fin 10, digB (UInt8.ofNat (48 + r.val)) = true ∧ (UInt8.ofNat (48 + r.val)).toNat - 48 = r.val := by decide +kernel
  exact this ⟨r, h⟩
theorem decN_snoc (l : Bt) (c : UInt8) : decN (l ++ [c]) = decN l * 10 + (c.toNat - 48) := by
  unfold decN
  rw [List.foldl_append]
  rfl
theorem dec_digits : ∀ (k u : Nat), u ≤ k → decN (Lib.decDigits u) = u ∧ (Lib.decDigits u).all digB = true := by
  intro k
  induction k with
  | zero =>
    intro u h
    obtain rfl : u = 0 := by omega
    rw [Lib.decDigits_one (by decide)]
    decide +kernel
  | succ k ih =>
    intro u h
    by_cases h1 : u < 10
    · rw [Lib.decDigits_one h1]
      have := dig_ofNat h1
      refine ⟨?_, ?_⟩
      · show 0 * 10 + ((UInt8.ofNat (48 + u)).toNat - 48) = u
        omega
      · show (digB (UInt8.ofNat (48 + u)) && true) = true
        rw [this.1]; rfl
    · rw [Lib.decDigits, dif_neg h1]
      obtain ⟨h2, h3⟩ := ih (u / 10) (by omega)
      have := dig_ofNat (show u % 10 < 10 by omega)
      refine ⟨?_, ?_⟩
      · rw [decN_snoc, h2]; omega
      · rw [List.all_append, h3]
        show (true && (digB (UInt8.ofNat (48 + u % 10)) && true)) = true
        rw [this.1]; rfl
theorem dig_len {u : Nat} (h : u ≤ 999999999999999) : 1 ≤ (Lib.decDigits u).length ∧ (Lib.decDigits u).length ≤ 15 := by
  rw [Lib.decDigits_length]
  refine ⟨Lib.nDigits_pos u, Nat.le_of_not_lt fun hn => ?_⟩
  have h1 := Lib.nDigits_unique
  obtain ⟨k, hk1, hk2, hk3⟩ : ∃ k, k ≤ 14 ∧ 10 ^ k ≤ max u 1 ∧ u < 10 ^ (k + 1) := by
    by_cases a : u < 10
    · exact ⟨0, by omega, by simp; omega, by simpa using a⟩
    have key : ∀ n, n ≤ 15 → u < 10 ^ n → ∃ k, k ≤ n - 1 ∧ 10 ^ k ≤ max u 1 ∧ u < 10 ^ (k + 1) := by
      intro n
      induction n with
      | zero => intro _ h; exact ⟨0, by omega, by simp; omega, by simpa using (by omega : u < 10)⟩
      | succ n ih =>
        intro hn hu
        by_cases b : u < 10 ^ n
        · obtain ⟨k, a1, a2, a3⟩ := ih (by omega) b
          exact ⟨k, by omega, a2, a3⟩
        · exact ⟨n, by omega, by omega, hu⟩
    obtain ⟨k, a1, a2, a3⟩ := key 15 (by omega) (by omega)
    exact ⟨k, by omega, a2, a3⟩
  by_cases a : u = 0
  · subst a
    rw [Lib.nDigits_small (by decide)] at hn
    omega
  · rw [h1 k u (by omega) hk3] at hn
    omega
theorem decN_lt : ∀ (l : Bt) (acc : Nat), l.all digB = true → l.foldl (fun n c => n * 10 + (c.toNat - 48)) acc < (acc + 1) * 10 ^ l.length
  | [], acc, h => by simp
  | c :: l, acc, h => by
    simp only [List.all_cons, Bool.and_eq_true] at h
    have hc : c.toNat - 48 < 10 := by
      have := h.1
      simp [digB] at this
      omega
    have := decN_lt l (acc * 10 + (c.toNat - 48)) h.2
    rw [List.foldl_cons, List.length_cons, Nat.pow_succ]
    refine Nat.lt_of_lt_of_le this ?_
    rw [Nat.mul_comm (10 ^ l.length) 10, ← Nat.mul_assoc]
    exact Nat.mul_le_mul_right _ (by omega)
theorem parse_dec : ∀ (l : Bt) (acc : Nat), l.all digB = true → (acc + 1) * 10 ^ l.length ≤ 1000000000000000 → Lib.parseUintM (2 ^ 64 - 1) acc l = .ok (l.foldl (fun n c => n * 10 + (c.toNat - 48)) acc)
  | [], acc, h, hb => rfl
  | c :: l, acc, h, hb => by
    simp only [List.all_cons, Bool.and_eq_true] at h
    have hc : 48 ≤ c.toNat ∧ c.toNat ≤ 57 := by
      have := h.1
      simp [digB] at this
      omega
    rw [List.length_cons, Nat.pow_succ, Nat.mul_comm (10 ^ l.length) 10, ← Nat.mul_assoc] at hb
    have hp : 1 ≤ 10 ^ l.length := Nat.one_le_pow _ _ (by decide)
    have h1 : (acc + 1) * 10 ≤ 1000000000000000 := Nat.le_trans (Nat.le_mul_of_pos_right _ hp) hb
    unfold Lib.parseUintM
    rw [if_pos hc, if_neg (by omega), if_neg (by omega)]
    refine parse_dec l _ h.2 (Nat.le_trans (Nat.mul_le_mul_right _ ?_) hb)
    omega
theorem all_same {f g : UInt8 → Bool} (h : ∀ c, f c = g c) (l : Bt) : l.all f = l.all g := by
  rw [show f = g from funext h]
theorem idx_dig (c : UInt8) : decide (0 ≤ Lib.indexByte [48, 49, 50, 51, 52, 53, 54, 55, 56, 57] c) = digB c := by
  have : ∀ n : Fin 256, decide (0 ≤ Lib.indexByte [48, 49, 50, 51, 52, 53, 54, 55, 56, 57] (UInt8.ofNat n.val)) = digB (UInt8.ofNat n.val) := by decide +kernel
  have h := this ⟨c.toNat, c.toNat_lt⟩
  rwa [UInt8.ofNat_toNat] at h
theorem idx_hex (c : UInt8) : decide (0 ≤ Lib.indexByte [48, 49, 50, 51, 52, 53, 54, 55, 56, 57, 97, 98, 99, 100, 101, 102] c) = hexB c := by
  have : ∀ n : Fin 256, decide (0 ≤ Lib.indexByte [48, 49, 50, 51, 52, 53, 54, 55, 56, 57, 97, 98, 99, 100, 101, 102] (UInt8.ofNat n.val)) = hexB (UInt8.ofNat n.val) := by decide +kernel
  have h := this ⟨c.toNat, c.toNat_lt⟩
  rwa [UInt8.ofNat_toNat] at h
theorem not_word {l : Bt} (h : l.all digB = true) : l ≠ [105, 110, 102] ∧ l ≠ [110, 97, 110] := by
  constructor <;> (rintro rfl; revert h; decide)
theorem decN_15 {l : Bt} (h : l.all digB = true) (hl : l.length ≤ 15) : decN l < 1000000000000000 := by
  have h1 := decN_lt l 0 h
  refine Nat.lt_of_lt_of_le h1 ?_
  rw [Nat.zero_add, Nat.one_mul]
  exact Nat.le_trans (Nat.pow_le_pow_right (by decide) hl) (by decide)
theorem nan_word (s : Bool) {r : Nat} (h : r ≤ 9218868437227405312) : nanB (Ieee.double.word s r) = false := by
  rw [nanB_eq, (word_parts s (by omega)).1]
  exact decide_eq_false (by omega)
theorem word_top (s : Bool) (r : Nat) : Ieee.double.word s r = r + topN s := by
  unfold Ieee.Format.word topN
  rw [sign_eq]
  cases s
  · rfl
  · show 9223372036854775808 + r = r + 9223372036854775808
    omega
theorem digs_all {s : ByteArray} (h0 : s.data.toList ≠ []) (hl : s.size ≤ 15) (hd : s.data.toList.all digB = true) : Digs s (decN s.data.toList) := by
  have hlen := Lib.size_eq s
  have hb := decN_15 hd (by omega)
  have hf := FI_all (T := decN s.data.toList) (by omega)
  have hn := fun b => nan_word b (r := FI (decN s.data.toList)) (by omega)
  have hn1 := hn false
  have hn2 := hn true
  rw [word_top] at hn1 hn2
  have hnw := not_word hd
  have hts : s.toList = s.data.toList := Lib.toList_data s
  refine ⟨?_, hl, ?_, ?_, ?_, ?_, ?_, hn1, hn2⟩
  · rw [hts]
    cases h : s.data.toList with
    | nil => exact absurd h h0
    | cons a t => rfl
  · rw [hts]; exact beq_eq_false_iff_ne.2 hnw.1
  · rw [hts]; exact beq_eq_false_iff_ne.2 hnw.2
  · rw [all_same idx_dig]; exact hd
  · unfold Lib.parseUintB
    rw [if_neg h0]
    refine parse_dec _ 0 hd ?_
    rw [Nat.zero_add, Nat.one_mul]
    exact Nat.le_trans (Nat.pow_le_pow_right (by decide) (show s.data.toList.length ≤ 15 by omega)) (by decide)
  · exact Nat.lt_trans hf.1 (by decide)

/-! Sixteen's digits. -/
def hexC (v : Nat) : UInt8 := if v < 10 then UInt8.ofNat (48 + v) else UInt8.ofNat (87 + v)
theorem hexC_parts {v : Nat} (h : v < 16) : hexB (hexC v) = true ∧ hexV (hexC v) = v := by
  have : ∀ v : Fin 16, hexB (hexC v.val) = true ∧ hexV (hexC v.val) = v.val := by decide +kernel
  exact this ⟨v, h⟩
/-- The last k digits. -/
def hexK : Nat → Nat → Bt
  | 0, _ => []
  | k + 1, u => hexK k (u / 16) ++ [hexC (u % 16)]
def hexS (u : Nat) : Bt := if h : u < 16 then [hexC u] else hexS (u / 16) ++ [hexC (u % 16)]
termination_by u
decreasing_by omega
theorem hexK_len : ∀ (k u : Nat), (hexK k u).length = k
  | 0, u => rfl
  | k + 1, u => by rw [hexK, List.length_append, hexK_len k]; rfl
theorem hexK_zero : ∀ k, hexK k 0 = List.replicate k 48
  | 0 => rfl
  | k + 1 => by rw [hexK, Nat.zero_div, hexK_zero k, List.replicate_succ']; rfl
theorem hexK_all : ∀ (k u : Nat), (hexK k u).all hexB = true
  | 0, u => rfl
  | k + 1, u => by
    rw [hexK, List.all_append, hexK_all k]
    show (true && (hexB (hexC (u % 16)) && true)) = true
    rw [(hexC_parts (show u % 16 < 16 by omega)).1]; rfl
theorem hexN_snoc (l : Bt) (c : UInt8) : hexN (l ++ [c]) = hexN l * 16 + hexV c := by
  unfold hexN
  rw [List.foldl_append]
  rfl
theorem hexK_back : ∀ (k u : Nat), u < 16 ^ k → hexN (hexK k u) = u
  | 0, u, h => by
    have : u = 0 := by simpa using h
    rw [this]; rfl
  | k + 1, u, h => by
    rw [Nat.pow_succ] at h
    rw [hexK, hexN_snoc, hexK_back k (u / 16) (by omega), (hexC_parts (show u % 16 < 16 by omega)).2]
    omega
theorem hex_pad : ∀ (k u : Nat), u < 16 ^ (k + 1) → (hexS u).length ≤ k + 1 ∧ List.replicate (k + 1 - (hexS u).length) 48 ++ hexS u = hexK (k + 1) u
  | 0, u, h => by
    have h16 : u < 16 := by simpa using h
    rw [hexS, dif_pos h16, hexK, Nat.mod_eq_of_lt h16]
    exact ⟨Nat.le_refl _, rfl⟩
  | k + 1, u, h => by
    by_cases h16 : u < 16
    · rw [hexS, dif_pos h16, hexK, Nat.mod_eq_of_lt h16, Nat.div_eq_of_lt h16, hexK_zero]
      exact ⟨Nat.succ_le_succ (Nat.zero_le _), by simp⟩
    · rw [Nat.pow_succ] at h
      obtain ⟨h1, h2⟩ := hex_pad k (u / 16) (by omega)
      rw [hexS, dif_neg h16, List.length_append, List.length_singleton]
      refine ⟨by omega, ?_⟩
      rw [show k + 1 + 1 - ((hexS (u / 16)).length + 1) = k + 1 - (hexS (u / 16)).length by omega, ← List.append_assoc, h2]
      rfl

/-- The text of a number's bits. -/
def textF (x : Nat) : Bt :=
  if nanB x = true then [110, 97, 110]
  else if x = 9218868437227405312 then [105, 110, 102]
  else if x = 18442240474082181120 then [45, 105, 110, 102]
  else if x = 9223372036854775808 then [45, 48]
  else if rung x < 4831355200913801216 ∧ wholeB (rung x) = true then Lib.itoa (sv (sgn x) (intR (rung x)))
  else [48, 120] ++ hexK 16 x
theorem plain_digits (neg : Bool) {u : Nat} (h : u ≤ 999999999999999) : plainF neg (Lib.decDigits u) = (FI u + topN neg, true) := by
  obtain ⟨h1, h2⟩ := dec_digits u u (Nat.le_refl _)
  obtain ⟨h3, h4⟩ := dig_len h
  obtain ⟨h5, h6⟩ := not_word h2
  unfold plainF
  rw [if_neg h5, if_neg h6, if_neg, h1]
  rintro (h | h | h)
  · rw [h] at h3; simp at h3
  · omega
  · rw [h2] at h; cases h
theorem head_dig {u : Nat} : ∃ c t, Lib.decDigits u = c :: t ∧ digB c = true := by
  obtain ⟨h1, h2⟩ := dec_digits u u (Nat.le_refl _)
  cases h : Lib.decDigits u with
  | nil =>
    have := Lib.nDigits_pos u
    rw [← Lib.decDigits_length, h] at this
    cases this
  | cons c t =>
    rw [h] at h2
    simp only [List.all_cons, Bool.and_eq_true] at h2
    exact ⟨c, t, rfl, h2.1⟩
theorem second_dig {u : Nat} {c : UInt8} {t : Bt} (h : Lib.decDigits u = c :: t) : ∀ d ∈ t, digB d = true := by
  obtain ⟨h1, h2⟩ := dec_digits u u (Nat.le_refl _)
  rw [h] at h2
  simp only [List.all_cons, Bool.and_eq_true, List.all_eq_true] at h2
  exact h2.2
theorem pre_one (a c : UInt8) (t : Bt) : Lib.hasPrefix (c :: t) [a] = (a == c) := by
  show ((a == c) && true) = _
  rw [Bool.and_true]
theorem pre_two (a b c d : UInt8) (t : Bt) : Lib.hasPrefix (c :: d :: t) [a, b] = ((a == c) && (b == d)) := by
  show ((a == c) && ((b == d) && true)) = _
  rw [Bool.and_true]
theorem pre_two1 (a b c : UInt8) : Lib.hasPrefix [c] [a, b] = false := by
  show ((a == c) && false) = _
  rw [Bool.and_false]
theorem of_digits {u : Nat} (h : u ≤ 999999999999999) : ofF (Lib.decDigits u) = (FI u, true) := by
  obtain ⟨c, t, hc, hd⟩ := head_dig (u := u)
  have hs := second_dig hc
  have p0 : Lib.hasPrefix (Lib.decDigits u) [48, 120] = false := by
    rw [hc]
    cases t with
    | nil => exact pre_two1 _ _ _
    | cons d t =>
      have hdd := hs d (List.mem_cons_self ..)
      have : d ≠ 120 := by rintro rfl; revert hdd; decide
      rw [pre_two, beq_eq_false_iff_ne.2 (Ne.symm this), Bool.and_false]
  have p1 : Lib.hasPrefix (Lib.decDigits u) [45] = false := by
    rw [hc]
    have : c ≠ 45 := by rintro rfl; revert hd; decide
    rw [pre_one]
    exact beq_eq_false_iff_ne.2 (Ne.symm this)
  have p2 : Lib.hasPrefix (Lib.decDigits u) [43] = false := by
    rw [hc]
    have : c ≠ 43 := by rintro rfl; revert hd; decide
    rw [pre_one]
    exact beq_eq_false_iff_ne.2 (Ne.symm this)
  unfold ofF
  rw [if_neg (by rw [p0]; decide), if_neg (by rw [p1]; decide), if_neg (by rw [p2]; decide), plain_digits false h]
  rfl
theorem of_neg (t : Bt) : ofF (45 :: t) = plainF true t := by
  unfold ofF
  rw [if_neg (by unfold Lib.hasPrefix; simp), if_pos (by unfold Lib.hasPrefix; simp)]
  rfl
/-- A whole number's text, read. -/
theorem of_itoa {z : Int} (h : z.natAbs ≤ 999999999999999) : ofF (Lib.itoa z) = (bitsZ z, true) := by
  unfold bitsZ
  rw [word_top]
  by_cases hz : z < 0
  · unfold Lib.itoa
    rw [if_pos hz, of_neg, plain_digits true h, decide_eq_true hz]
  · unfold Lib.itoa
    rw [if_neg hz, decide_eq_false hz, of_digits (by omega), show z.toNat = z.natAbs by omega]
    rfl
/-- The text of a whole number's bits. -/
theorem text_whole {z : Int} (h : z.natAbs ≤ 999999999999999) : textF (bitsZ z) = Lib.itoa z := by
  have hp := bitsZ_parts (z := z) (by omega)
  have ha := FI_all (T := z.natAbs) (by omega)
  have hl : FI z.natAbs < 4831355200913801216 := by
    rw [← FI_B15, FI_lt (by omega) (by decide)]; omega
  have hn : nanB (bitsZ z) = false := nan_word _ (by omega)
  have hw : wholeB (rung (bitsZ z)) = true ∧ intR (rung (bitsZ z)) = z.natAbs := by
    rw [hp.1]
    have hu := (up_low hl).1
    have hv : mag (FI z.natAbs) = z.natAbs * 2 ^ (lowP - up (FI z.natAbs)) := by
      have h1 := ha.2.1
      unfold val at h1
      have e : (2 : Nat) ^ lowP = 2 ^ (lowP - up (FI z.natAbs)) * 2 ^ up (FI z.natAbs) := by rw [← Nat.pow_add, Nat.sub_add_cancel hu]
      rw [e, ← Nat.mul_assoc] at h1
      exact Nat.eq_of_mul_eq_mul_right (Nat.pow_pos (by decide)) h1
    refine ⟨?_, ?_⟩
    · unfold wholeB
      rw [hv, decide_eq_true (Nat.mul_mod_left _ _)]
    · unfold intR
      rw [hv, Nat.mul_div_cancel _ (Nat.pow_pos (by decide))]
  unfold textF
  rw [if_neg (by rw [hn]; decide), if_neg, if_neg, if_neg, if_pos ⟨by rw [hp.1]; exact hl, hw.1⟩, hw.2, hp.2.1, sv_natAbs']
  · intro h0
    have h1 := hp.1
    have h2 := hp.2.1
    rw [h0] at h1 h2
    rw [show rung 9223372036854775808 = 0 by decide] at h1
    rw [show sgn 9223372036854775808 = true by decide] at h2
    have : z.natAbs = 0 := ((FI_eq (by omega) (by decide)).1 (h1.symm.trans FI_zero.symm))
    have h3 : z < 0 := of_decide_eq_true h2.symm
    omega
  · intro h0
    have h1 := hp.1
    rw [h0, show rung 18442240474082181120 = 9218868437227405312 by decide] at h1
    omega
  · intro h0
    have h1 := hp.1
    rw [h0, show rung 9218868437227405312 = 9218868437227405312 by decide] at h1
    omega
/-- A number's text, read, is the number. -/
theorem text_back {x : Nat} (hx : x < 18446744073709551616) : ∃ y, ofF (textF x) = (y, true) ∧ (y = x ∨ nanB x = true ∧ y = 9221120237041090560) := by
  by_cases h1 : nanB x = true
  · refine ⟨9221120237041090560, ?_, Or.inr ⟨h1, rfl⟩⟩
    unfold textF
    rw [if_pos h1]
    rfl
  refine ⟨x, ?_, Or.inl rfl⟩
  unfold textF
  rw [if_neg h1]
  by_cases h2 : x = 9218868437227405312
  · rw [if_pos h2, h2]; rfl
  rw [if_neg h2]
  by_cases h3 : x = 18442240474082181120
  · rw [if_pos h3, h3, of_neg]; rfl
  rw [if_neg h3]
  by_cases h4 : x = 9223372036854775808
  · rw [if_pos h4, h4, of_neg]
    have := plain_digits true (u := 0) (by omega)
    rw [Lib.decDigits_one (by decide), FI_zero] at this
    exact this
  rw [if_neg h4]
  by_cases h5 : rung x < 4831355200913801216 ∧ wholeB (rung x) = true
  · rw [if_pos h5]
    have h6 := int_15 h5.1 h5.2
    have h7 := (whole_iff h5.1).1 h5.2
    rw [of_itoa (by rw [sv_natAbs2]; exact h6)]
    unfold bitsZ
    rw [sv_natAbs2, h7]
    congr 1
    by_cases h0 : rung x = 0
    · have hs : sgn x = false := by
        cases hs : sgn x with
        | false => rfl
        | true =>
          have := word_eq hx
          rw [h0, hs] at this
          exact absurd this.symm h4
      rw [hs]
      have := word_eq hx
      rw [hs] at this
      rw [show decide (sv false (intR (rung x)) < 0) = false by simp [sv]]
      exact this
    · have hne : intR (rung x) ≠ 0 := by
        intro h
        rw [h, FI_zero] at h7
        exact h0 h7.symm
      rw [show decide (sv (sgn x) (intR (rung x)) < 0) = sgn x by
        cases sgn x
        · simp [sv]
        · simp [sv]; omega]
      exact word_eq hx
  · rw [if_neg h5]
    have hdr : ([48, 120] ++ hexK 16 x).drop 2 = hexK 16 x := List.drop_left (l₁ := [48, 120])
    have hl : ([48, 120] ++ hexK 16 x).length = 18 := by rw [List.length_append, hexK_len]; rfl
    unfold ofF
    rw [if_pos (by unfold Lib.hasPrefix; simp), if_pos ⟨hl, by rw [hdr]; exact hexK_all 16 x⟩]
    have h16 : x < 16 ^ 16 := hx
    rw [hdr, hexK_back 16 x h16]
    have hc : cleanB x = x := by unfold cleanB; rw [if_neg h1]
    rw [hc]
end Go.Proofs.YtnddnhjlaojllaaDoor
