/-
  The walk of the law RealTexts: the text of all bits, and that it comes back.
-/
import Derived.Test.YtnddnhjlaojllaaDoorRealAI
import Derived.Test.YtnddnhjlaojllaaDoorRealJ
import Derived.Test.YtnddnhjlaojllaaDoorRows
import Derived.Lib.LaidTab
namespace Go.Proofs.YtnddnhjlaojllaaDoor
open Go.RowKit
set_option linter.unusedVariables false

theorem vars_tail {P : Program} {W : World} {x : String × DataW Unit} {rest : List (String × DataW Unit)} {ps : List MemPlace} (h : DataW.LaidVars P W (x :: rest) ps) : ∃ q, DataW.LaidVars P W rest q := by
  obtain ⟨nm, d⟩ := x
  obtain ⟨g', t', cs, fuel, p, q, _, _, _, _, h2, _⟩ := h
  exact ⟨q, h2⟩
theorem tab_of_vars {P : Program} {W : World} {name : String} {k : IntKind} {zs : List Int} {rest : List (String × DataW Unit)} {ps : List MemPlace} {g : Nat} {t e : TypeId} {n : Nat}
    (hg : P.globalNamed name = some g) (hty : (P.globals[g]?).map (·.type) = some t) (ht : P.underlying t = some (.array n e)) (he : P.underlying e = some (.int k)) (hce : P.cellsOf e = 1) (hct : P.cellsOf t = n)
    (h : DataW.LaidVars P W ((name, Lib.tabData k zs) :: rest) ps) : Lib.TabIs P W name k zs := by
  obtain ⟨g', t', cs, fuel, p, q, hg', ht', hvar, hd, _, _⟩ := h
  obtain rfl := Option.some.inj (hg.symm.trans hg')
  obtain rfl := Option.some.inj (hty.symm.trans ht')
  unfold Lib.TabIs
  rw [hvar, ← Lib.cells_of_tab ht he hce hct hd]
def tab64 : List Int := [0, 1, 56, 2, 57, 49, 28, 3, 61, 58, 42, 50, 38, 29, 17, 4, 62, 47, 59, 36, 45, 43, 51, 22, 53, 39, 33, 30, 24, 18, 12, 5, 63, 55, 48, 27, 60, 41, 37, 16, 46, 35, 44, 21, 52, 32, 23, 11, 54, 26, 40, 15, 34, 20, 31, 10, 25, 14, 19, 9, 13, 8, 7, 6]
/-- What the card's list of variables tells. -/
theorem tabs_of {l : List (String × DataW Unit)} (hl : l = [("math/bits.deBruijn32tab", Rows.laid_math_bits_deBruijn32tab), ("math/bits.deBruijn64tab", Rows.laid_math_bits_deBruijn64tab), ("internal/strconv.uint64pow10", Rows.laid_internal_strconv_uint64pow10), ("strconv.ErrRange", Rows.laid_strconv_ErrRange), ("strconv.ErrSyntax", Rows.laid_strconv_ErrSyntax)])
    {W : World} (h : laidMetH Tryd.prog l W) : Tabs W := by
  subst hl
  have h1 : laidMet Tryd.prog [("math/bits.deBruijn32tab", Rows.laid_math_bits_deBruijn32tab), ("math/bits.deBruijn64tab", Lib.tabData .u8 tab64), ("internal/strconv.uint64pow10", Lib.tabData .u64 Lib.pow10Tab), ("strconv.ErrRange", Rows.laid_strconv_ErrRange), ("strconv.ErrSyntax", Rows.laid_strconv_ErrSyntax)] W := h
  obtain ⟨ps, h2, _⟩ := h1
  obtain ⟨q, h3⟩ := vars_tail h2
  obtain ⟨q2, h4⟩ := vars_tail h3
  have t1 := tab_of_vars (g := 6) (t := 106) (e := 5) (n := 64) (by kernel_rfl) (by kernel_rfl) (by kernel_rfl) (by kernel_rfl) (by kernel_rfl) (by kernel_rfl) h3
  have t2 := tab_of_vars (g := 3) (t := 94) (e := 23) (n := 20) (by kernel_rfl) (by kernel_rfl) (by kernel_rfl) (by kernel_rfl) (by kernel_rfl) (by kernel_rfl) h4
  exact ⟨t1.cell (by kernel_rfl) 15 (by decide), t2⟩
theorem itoa_len {z : Int} (h : z.natAbs ≤ 999999999999999) : (Lib.itoa z).length ≤ 16 := by
  unfold Lib.itoa
  have h1 := (dig_len h).2
  by_cases hz : z < 0
  · rw [if_pos hz, List.length_cons]; omega
  · rw [if_neg hz, show z.toNat = z.natAbs by omega]; omega
theorem text_len (x : Nat) : (textF x).length ≤ 18 := by
  unfold textF
  split
  · decide
  · split
    · decide
    · split
      · decide
      · split
        · decide
        · split
          · next h => exact Nat.le_trans (itoa_len (by rw [sv_natAbs2]; exact int_15 h.1 h.2)) (by decide)
          · rw [List.length_append, hexK_len]; decide
set_option maxHeartbeats 8000000 in
theorem realTexts_walk (a0 : Int) (w : World) (w1 : (Lit.int .u64 a0).wf = true) (_ : w.ShapedOpen Tryd.prog) (hL : laidMetH Tryd.prog Rows.realTextsRow.laid w) :
    Calls Tryd.prog 4 #[.int .u64 a0] w fun e w' => e = .returned (.bool true) ∧ Below w.heap.size w w' := by
  have htab := tabs_of rfl hL
  clear hL
  obtain ⟨a, rfl, ha⟩ := u64_nat w1
  clear w1
  have HA := Lib.hid ha
  obtain ⟨y, hy, hyx⟩ := text_back ha
  have HY := Lib.hid hy
  clear hy
  have e1 : bits .and .u64 (a : Int) 9218868437227405312 = ((a % 9223372036854775808 / 4503599627370496 * 4503599627370496 : Nat) : Int) := by
    rw [← and_exp]; exact and_u64 a 9218868437227405312 ha (by decide)
  have e2 : bits .and .u64 (a : Int) 4503599627370495 = ((a % 4503599627370496 : Nat) : Int) := by
    rw [← and_low]; exact and_u64 a 4503599627370495 ha (by decide)
  have hn : nanB a = decide (9218868437227405312 < a % 9223372036854775808) := nanB_eq a
  obtain ⟨p, hp⟩ : ∃ p, p = a % 9223372036854775808 / 4503599627370496 * 4503599627370496 := ⟨_, rfl⟩
  obtain ⟨q, hq⟩ : ∃ q, q = a % 4503599627370496 := ⟨_, rfl⟩
  rw [← hp] at e1
  rw [← hq] at e2
  by_cases h1 : p = 9218868437227405312
  · have i1 : ((p : Int) == 9218868437227405312) = true := beq_iff_eq.2 (by omega)
    by_cases h2 : q = 0
    · have hr : nanB a = false := by rw [hn, decide_eq_false_iff_not]; omega
      obtain rfl : a = y := by
        rcases hyx with h | h
        · exact h.symm
        · rw [hr] at h; cases h.1
      have i2 : ((q : Int) != 0) = false := by simp; omega
      clear hn hp hq h1 h2 hr ha hyx
      go_enter Tryd.func4, Tryd.ntmps4
      go_wp2_with fail
      refine (alive_any _).mono ?_
      rintro e w1 ⟨rfl, hb1⟩
      have HB := Lib.hid hb1; clear hb1
      go_wp2_with fail
      refine (text_any a HA.out _ (htab.keep HB.out)).mono ?_
      rintro e w2 ⟨T, rfl, hT, hb2⟩
      have HB2 := Lib.hid (HB.out.trans (hb2.mono HB.out.size))
      have hTs : T.size ≤ 140737488351232 := by rw [Lib.size_eq, hT]; exact Nat.le_trans (text_len a) (by decide)
      have HT := Lib.hid hT
      clear hb2 hT
      go_wp2_with fail
      refine (of_any T _ hTs).mono ?_
      rintro e w3 ⟨rfl, hb3⟩
      rw [HT.out, HY.out]
      have HB3 := Lib.hid (HB2.out.trans (hb3.mono HB2.out.size))
      clear hb3
      go_wp2_with fail
      refine (realText_any a HA.out _).mono ?_
      rintro e w4 ⟨T2, rfl, hT2, rfl⟩
      obtain rfl : T2 = T := ba_ext (hT2.trans HT.out.symm)
      clear hT2
      have hbq : (T2.toList == T2.toList) = true := beq_self_eq_true _
      go_wp2_with fail
      all_goals (go_ret; exact ⟨by first | rfl | simp, HB3.out⟩)
    · have i2 : ((q : Int) != 0) = true := by simp; exact h2
      rcases hyx with h | h
      · obtain rfl : a = y := h.symm
        clear hn hp hq h1 h2 ha
        go_enter Tryd.func4, Tryd.ntmps4
        go_wp2_with fail
        refine (alive_any _).mono ?_
        rintro e w1 ⟨rfl, hb1⟩
        have HB := Lib.hid hb1; clear hb1
        go_wp2_with fail
        refine (text_any a HA.out _ (htab.keep HB.out)).mono ?_
        rintro e w2 ⟨T, rfl, hT, hb2⟩
        have HB2 := Lib.hid (HB.out.trans (hb2.mono HB.out.size))
        have hTs : T.size ≤ 140737488351232 := by rw [Lib.size_eq, hT]; exact Nat.le_trans (text_len a) (by decide)
        have HT := Lib.hid hT
        clear hb2 hT
        go_wp2_with fail
        refine (of_any T _ hTs).mono ?_
        rintro e w3 ⟨rfl, hb3⟩
        rw [HT.out, HY.out]
        have HB3 := Lib.hid (HB2.out.trans (hb3.mono HB2.out.size))
        clear hb3
        go_wp2_with fail
        refine (realText_any a HA.out _).mono ?_
        rintro e w4 ⟨T2, rfl, hT2, rfl⟩
        obtain rfl : T2 = T := ba_ext (hT2.trans HT.out.symm)
        clear hT2
        have hbq : (T2.toList == T2.toList) = true := beq_self_eq_true _
        go_wp2_with fail
        all_goals (go_ret; exact ⟨by first | rfl | simp, HB3.out⟩)
      · obtain ⟨_, rfl⟩ := h
        clear hn hp hq h1 h2 ha
        go_enter Tryd.func4, Tryd.ntmps4
        go_wp2_with fail
        refine (alive_any _).mono ?_
        rintro e w1 ⟨rfl, hb1⟩
        have HB := Lib.hid hb1; clear hb1
        go_wp2_with fail
        refine (text_any a HA.out _ (htab.keep HB.out)).mono ?_
        rintro e w2 ⟨T, rfl, hT, hb2⟩
        have HB2 := Lib.hid (HB.out.trans (hb2.mono HB.out.size))
        have hTs : T.size ≤ 140737488351232 := by rw [Lib.size_eq, hT]; exact Nat.le_trans (text_len a) (by decide)
        have HT := Lib.hid hT
        clear hb2 hT
        go_wp2_with fail
        refine (of_any T _ hTs).mono ?_
        rintro e w3 ⟨rfl, hb3⟩
        rw [HT.out, HY.out]
        have HB3 := Lib.hid (HB2.out.trans (hb3.mono HB2.out.size))
        clear hb3
        go_wp2_with fail
        refine (realText_any a HA.out _).mono ?_
        rintro e w4 ⟨T2, rfl, hT2, rfl⟩
        obtain rfl : T2 = T := ba_ext (hT2.trans HT.out.symm)
        clear hT2
        have hbq : (T2.toList == T2.toList) = true := beq_self_eq_true _
        go_wp2_with fail
        all_goals (go_ret; exact ⟨by first | rfl | simp, HB3.out⟩)
  · have hr : nanB a = false := by rw [hn, decide_eq_false_iff_not]; omega
    have i1 : ((p : Int) == 9218868437227405312) = false := beq_eq_false_iff_ne.2 (by omega)
    obtain rfl : a = y := by
      rcases hyx with h | h
      · exact h.symm
      · rw [hr] at h; cases h.1
    clear hn hp hq h1 hr ha hyx
    go_enter Tryd.func4, Tryd.ntmps4
    go_wp2_with fail
    refine (alive_any _).mono ?_
    rintro e w1 ⟨rfl, hb1⟩
    have HB := Lib.hid hb1; clear hb1
    go_wp2_with fail
    refine (text_any a HA.out _ (htab.keep HB.out)).mono ?_
    rintro e w2 ⟨T, rfl, hT, hb2⟩
    have HB2 := Lib.hid (HB.out.trans (hb2.mono HB.out.size))
    have hTs : T.size ≤ 140737488351232 := by rw [Lib.size_eq, hT]; exact Nat.le_trans (text_len a) (by decide)
    have HT := Lib.hid hT
    clear hb2 hT
    go_wp2_with fail
    refine (of_any T _ hTs).mono ?_
    rintro e w3 ⟨rfl, hb3⟩
    rw [HT.out, HY.out]
    have HB3 := Lib.hid (HB2.out.trans (hb3.mono HB2.out.size))
    clear hb3
    go_wp2_with fail
    refine (realText_any a HA.out _).mono ?_
    rintro e w4 ⟨T2, rfl, hT2, rfl⟩
    obtain rfl : T2 = T := ba_ext (hT2.trans HT.out.symm)
    clear hT2
    have hbq : (T2.toList == T2.toList) = true := beq_self_eq_true _
    go_wp2_with fail
    all_goals (go_ret; exact ⟨by first | rfl | simp, HB3.out⟩)
end Go.Proofs.YtnddnhjlaojllaaDoor
