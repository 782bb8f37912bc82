/-
  A text's number: float.Of whole.
-/
import Derived.Test.YtnddnhjlaojllaaDoorRealAA
import Derived.Test.YtnddnhjlaojllaaDoorRealI
import Derived.Lib.IndexBytes
namespace Go.Proofs.YtnddnhjlaojllaaDoor
open Go.RowKit
set_option linter.unusedVariables false

theorem plain_inf (neg : Bool) {l : Bt} (h : l = [105, 110, 102]) : plainF neg l = (9218868437227405312 + topN neg, true) := by unfold plainF; rw [if_pos h]
theorem plain_nan (neg : Bool) {l : Bt} (h : l = [110, 97, 110]) : plainF neg l = (9221120237041090560, true) := by unfold plainF; rw [if_neg (by rw [h]; decide), if_pos h]
theorem plain_bad (neg : Bool) {l : Bt} (h1 : l ≠ [105, 110, 102]) (h2 : l ≠ [110, 97, 110]) (h : l = [] ∨ 15 < l.length ∨ l.all digB = false) : plainF neg l = (0, false) := by unfold plainF; rw [if_neg h1, if_neg h2, if_pos h]
theorem plain_dig (neg : Bool) {l : Bt} (h1 : l ≠ [105, 110, 102]) (h2 : l ≠ [110, 97, 110]) (h3 : l ≠ []) (h4 : ¬ 15 < l.length) (h5 : l.all digB = true) : plainF neg l = (floatOfInt .f64 (decN l) + topN neg, true) := by
  unfold plainF
  rw [if_neg h1, if_neg h2, if_neg]
  · rfl
  rintro (h | h | h)
  · exact h3 h
  · exact h4 h
  · rw [h5] at h; cases h
theorem pre_form {l : Bt} (h : Lib.hasPrefix l [48, 120] = true) : ∃ t, l = 48 :: 120 :: t := by
  match l, h with
  | [], h => cases h
  | [a], h => rw [pre_two1] at h; cases h
  | a :: b :: t, h =>
    rw [pre_two, Bool.and_eq_true, beq_iff_eq, beq_iff_eq] at h
    exact ⟨t, by rw [← h.1, ← h.2]⟩
theorem pre_len {l : Bt} (h : Lib.hasPrefix l [48, 120] = true) : 2 ≤ l.length := by
  obtain ⟨t, rfl⟩ := pre_form h
  simp
theorem pre_len1 {l : Bt} {a : UInt8} (h : Lib.hasPrefix l [a] = true) : 1 ≤ l.length := by
  match l, h with
  | [], h => cases h
  | a :: t, h => simp
/-- What Of hands back. -/
def OfPost (w : World) (q : Nat × Bool) (e : Ending) (w' : World) : Prop := e = .returned (.tuple #[.int .u64 (q.1 : Nat), .bool q.2]) ∧ Below w.heap.size w w' 
set_option maxRecDepth 100000 in
set_option maxHeartbeats 16000000 in
theorem of_none (s : ByteArray) (r : Nat) (ok : Bool) (w : World) (hs : s.size ≤ 140737488351232) (h0 : Lib.hasPrefix s.data.toList [48, 120] = false) (hm : Lib.hasPrefix s.data.toList [45] = false) (hp : Lib.hasPrefix s.data.toList [43] = false) (hres : plainF false s.data.toList = (r, ok)) :
    Calls Tryd.prog 14 #[.string s] w (OfPost w (r, ok)) := by
  have HRF := Lib.hid run_from
  have H0 := Lib.hid h0; have HM := Lib.hid hm; clear h0 hm
  have HP := Lib.hid hp; clear hp
  obtain ⟨l, hl⟩ : ∃ l, l = s.data.toList := ⟨_, rfl⟩
  rw [← hl] at hres
  have HL := Lib.hid hl.symm
  have HLL := Lib.hid (show s.toList = l by rw [Lib.toList_data, hl])
  have HSZ := Lib.hid (show (s.size : Int) = (l.length : Int) by rw [hl, Lib.size_eq])
  have HSZ2 := Lib.hid (show s.size = l.length by rw [hl, Lib.size_eq])
  have HRES := Lib.hid hres
  clear hl hres
  by_cases t1 : l = [105, 110, 102]
  · have HR := Lib.hid (plain_inf false t1)
    have f1 : (s.toList == [105, 110, 102]) = true := by rw [HLL.out, t1]; rfl
    have hcv := int_pos
    clear t1
    go_enter Tryd.func14, Tryd.ntmps14
    go_wp2_with fail
    refine (Tryd.strings_CutPrefix s _ _).mono ?_
    rintro e w1 ⟨rfl, hw⟩
    subst hw
    rw [show (⟨#[48, 120]⟩ : ByteArray).data.toList = [48, 120] from rfl, H0.out]
    obtain ⟨T, hT⟩ : ∃ T : ByteArray, T = ⟨(Lib.trimPrefix s.data.toList [48, 120]).toArray⟩ := ⟨_, rfl⟩
    rw [← hT]
    clear hT
    go_wp2_with fail
    refine (Tryd.strings_HasPrefix s _ _).mono ?_
    rintro e w1 ⟨rfl, hw⟩
    subst hw
    rw [show (⟨#[45]⟩ : ByteArray).data.toList = [45] from rfl, HM.out]
    go_wp2_with fail
    refine (Tryd.strings_HasPrefix s _ _).mono ?_
    rintro e w1 ⟨rfl, hw⟩
    subst hw
    rw [show (⟨#[45]⟩ : ByteArray).data.toList = [45] from rfl, HM.out]
    go_wp2_with fail
    refine (Tryd.strings_HasPrefix s _ _).mono ?_
    rintro e w1 ⟨rfl, hw⟩
    subst hw
    rw [show (⟨#[43]⟩ : ByteArray).data.toList = [43] from rfl, HP.out]
    go_wp2_with fail
    refine (inf_any _ _).mono ?_
    rintro e w1 ⟨rfl, rfl⟩
    rw [if_pos (by decide)]
    go_wp2_with fail
    refine (bits_any _ _).mono ?_
    rintro e w1 ⟨rfl, rfl⟩
    rw [show cleanB 9218868437227405312 = 9218868437227405312 by decide +kernel]
    go_wp2_with fail
    go_ret2
    obtain ⟨rfl, rfl⟩ := Prod.mk.inj (HRES.out.symm.trans HR.out)
    exact ⟨rfl, Below.refl _ _⟩
  have f1 : (s.toList == [105, 110, 102]) = false := by rw [HLL.out]; exact beq_eq_false_iff_ne.2 t1
  by_cases t2 : l = [110, 97, 110]
  · have HR := Lib.hid (plain_nan false t2)
    have f2 : (s.toList == [110, 97, 110]) = true := by rw [HLL.out, t2]; rfl
    clear t1 t2
    go_enter Tryd.func14, Tryd.ntmps14
    go_wp2_with fail
    refine (Tryd.strings_CutPrefix s _ _).mono ?_
    rintro e w1 ⟨rfl, hw⟩
    subst hw
    rw [show (⟨#[48, 120]⟩ : ByteArray).data.toList = [48, 120] from rfl, H0.out]
    obtain ⟨T, hT⟩ : ∃ T : ByteArray, T = ⟨(Lib.trimPrefix s.data.toList [48, 120]).toArray⟩ := ⟨_, rfl⟩
    rw [← hT]
    clear hT
    go_wp2_with fail
    refine (Tryd.strings_HasPrefix s _ _).mono ?_
    rintro e w1 ⟨rfl, hw⟩
    subst hw
    rw [show (⟨#[45]⟩ : ByteArray).data.toList = [45] from rfl, HM.out]
    go_wp2_with fail
    refine (Tryd.strings_HasPrefix s _ _).mono ?_
    rintro e w1 ⟨rfl, hw⟩
    subst hw
    rw [show (⟨#[45]⟩ : ByteArray).data.toList = [45] from rfl, HM.out]
    go_wp2_with fail
    refine (Tryd.strings_HasPrefix s _ _).mono ?_
    rintro e w1 ⟨rfl, hw⟩
    subst hw
    rw [show (⟨#[43]⟩ : ByteArray).data.toList = [43] from rfl, HP.out]
    go_wp2_with fail
    go_ret2
    obtain ⟨rfl, rfl⟩ := Prod.mk.inj (HRES.out.symm.trans HR.out)
    exact ⟨rfl, Below.refl _ _⟩
  have f2 : (s.toList == [110, 97, 110]) = false := by rw [HLL.out]; exact beq_eq_false_iff_ne.2 t2
  by_cases t3 : l = []
  · have HR := Lib.hid (plain_bad false t1 t2 (Or.inl t3))
    have f3 : s.toList.isEmpty = true := by rw [HLL.out, t3]; rfl
    clear t1 t2 t3
    go_enter Tryd.func14, Tryd.ntmps14
    go_wp2_with fail
    refine (Tryd.strings_CutPrefix s _ _).mono ?_
    rintro e w1 ⟨rfl, hw⟩
    subst hw
    rw [show (⟨#[48, 120]⟩ : ByteArray).data.toList = [48, 120] from rfl, H0.out]
    obtain ⟨T, hT⟩ : ∃ T : ByteArray, T = ⟨(Lib.trimPrefix s.data.toList [48, 120]).toArray⟩ := ⟨_, rfl⟩
    rw [← hT]
    clear hT
    go_wp2_with fail
    refine (Tryd.strings_HasPrefix s _ _).mono ?_
    rintro e w1 ⟨rfl, hw⟩
    subst hw
    rw [show (⟨#[45]⟩ : ByteArray).data.toList = [45] from rfl, HM.out]
    go_wp2_with fail
    refine (Tryd.strings_HasPrefix s _ _).mono ?_
    rintro e w1 ⟨rfl, hw⟩
    subst hw
    rw [show (⟨#[45]⟩ : ByteArray).data.toList = [45] from rfl, HM.out]
    go_wp2_with fail
    refine (Tryd.strings_HasPrefix s _ _).mono ?_
    rintro e w1 ⟨rfl, hw⟩
    subst hw
    rw [show (⟨#[43]⟩ : ByteArray).data.toList = [43] from rfl, HP.out]
    go_wp2_with fail
    go_ret2
    obtain ⟨rfl, rfl⟩ := Prod.mk.inj (HRES.out.symm.trans HR.out)
    exact ⟨rfl, Below.refl _ _⟩
  have f3 : s.toList.isEmpty = false := by rw [HLL.out]; cases hl : l with | nil => exact absurd hl t3 | cons a t => rfl
  by_cases t4 : 15 < l.length
  · have HR := Lib.hid (plain_bad false t1 t2 (Or.inr (Or.inl t4)))
    have f4 : (15 : Int) < (s.size : Int) := by rw [HSZ.out]; omega
    clear t1 t2 t3 t4
    go_enter Tryd.func14, Tryd.ntmps14
    go_wp2_with fail
    refine (Tryd.strings_CutPrefix s _ _).mono ?_
    rintro e w1 ⟨rfl, hw⟩
    subst hw
    rw [show (⟨#[48, 120]⟩ : ByteArray).data.toList = [48, 120] from rfl, H0.out]
    obtain ⟨T, hT⟩ : ∃ T : ByteArray, T = ⟨(Lib.trimPrefix s.data.toList [48, 120]).toArray⟩ := ⟨_, rfl⟩
    rw [← hT]
    clear hT
    go_wp2_with fail
    refine (Tryd.strings_HasPrefix s _ _).mono ?_
    rintro e w1 ⟨rfl, hw⟩
    subst hw
    rw [show (⟨#[45]⟩ : ByteArray).data.toList = [45] from rfl, HM.out]
    go_wp2_with fail
    refine (Tryd.strings_HasPrefix s _ _).mono ?_
    rintro e w1 ⟨rfl, hw⟩
    subst hw
    rw [show (⟨#[45]⟩ : ByteArray).data.toList = [45] from rfl, HM.out]
    go_wp2_with fail
    refine (Tryd.strings_HasPrefix s _ _).mono ?_
    rintro e w1 ⟨rfl, hw⟩
    subst hw
    rw [show (⟨#[43]⟩ : ByteArray).data.toList = [43] from rfl, HP.out]
    go_wp2_with fail
    go_ret2
    obtain ⟨rfl, rfl⟩ := Prod.mk.inj (HRES.out.symm.trans HR.out)
    exact ⟨rfl, Below.refl _ _⟩
  have f4 : ¬ (15 : Int) < (s.size : Int) := by rw [HSZ.out]; omega
  by_cases t5 : l.all digB = false
  · have HR := Lib.hid (plain_bad false t1 t2 (Or.inr (Or.inr t5)))
    have f5 := Lib.hid (show (s.data.toList.all fun c => decide (0 ≤ Lib.indexByte [48, 49, 50, 51, 52, 53, 54, 55, 56, 57] c)) = false by rw [all_same idx_dig, HL.out]; exact t5)
    clear t1 t2 t3 t4 t5
    go_enter Tryd.func14, Tryd.ntmps14
    go_wp2_with fail
    refine (Tryd.strings_CutPrefix s _ _).mono ?_
    rintro e w1 ⟨rfl, hw⟩
    subst hw
    rw [show (⟨#[48, 120]⟩ : ByteArray).data.toList = [48, 120] from rfl, H0.out]
    obtain ⟨T, hT⟩ : ∃ T : ByteArray, T = ⟨(Lib.trimPrefix s.data.toList [48, 120]).toArray⟩ := ⟨_, rfl⟩
    rw [← hT]
    clear hT
    go_wp2_with fail
    refine (Tryd.strings_HasPrefix s _ _).mono ?_
    rintro e w1 ⟨rfl, hw⟩
    subst hw
    rw [show (⟨#[45]⟩ : ByteArray).data.toList = [45] from rfl, HM.out]
    go_wp2_with fail
    refine (Tryd.strings_HasPrefix s _ _).mono ?_
    rintro e w1 ⟨rfl, hw⟩
    subst hw
    rw [show (⟨#[45]⟩ : ByteArray).data.toList = [45] from rfl, HM.out]
    go_wp2_with fail
    refine (Tryd.strings_HasPrefix s _ _).mono ?_
    rintro e w1 ⟨rfl, hw⟩
    subst hw
    rw [show (⟨#[43]⟩ : ByteArray).data.toList = [43] from rfl, HP.out]
    go_wp2_with fail
    refine (all_any s _ _ (by omega)).mono ?_
    rintro e w1 ⟨rfl, rfl⟩
    rw [show (⟨#[48, 49, 50, 51, 52, 53, 54, 55, 56, 57]⟩ : ByteArray).data.toList = [48, 49, 50, 51, 52, 53, 54, 55, 56, 57] from rfl, f5.out]
    go_wp2_with fail
    go_ret2
    obtain ⟨rfl, rfl⟩ := Prod.mk.inj (HRES.out.symm.trans HR.out)
    exact ⟨rfl, Below.refl _ _⟩
  have t6 : l.all digB = true := by cases h : l.all digB with | true => rfl | false => exact absurd h t5
  have HR := Lib.hid (plain_dig false t1 t2 t3 t4 t6)
  have HD := Lib.hid (show Digs s (decN l) by rw [← HL.out]; exact digs_all (by rw [HL.out]; exact t3) (by rw [HSZ2.out]; omega) (by rw [HL.out]; exact t6))
  obtain ⟨u, hu⟩ : ∃ u, u = decN l := ⟨_, rfl⟩
  rw [← hu] at HD HR
  have A5 := Lib.hid HD.out.all; have A6 := Lib.hid HD.out.reads; have A7 := Lib.hid HD.out.flt; have A8 := Lib.hid HD.out.num
  obtain ⟨F, hF⟩ : ∃ F, F = floatOfInt .f64 u := ⟨_, rfl⟩
  rw [← hF] at A7 A8
  have HF := Lib.hid hF
  have HR2 := Lib.hid (show (r, ok) = (F + 0, true) by rw [← HRES.out, HR.out, hF]; rfl)
  clear t1 t2 t3 t4 t5 t6 hu hF
  go_enter Tryd.func14, Tryd.ntmps14
  go_wp2_with fail
  refine (Tryd.strings_CutPrefix s _ _).mono ?_
  rintro e w1 ⟨rfl, hw⟩
  subst hw
  rw [show (⟨#[48, 120]⟩ : ByteArray).data.toList = [48, 120] from rfl, H0.out]
  obtain ⟨T, hT⟩ : ∃ T : ByteArray, T = ⟨(Lib.trimPrefix s.data.toList [48, 120]).toArray⟩ := ⟨_, rfl⟩
  rw [← hT]
  clear hT
  go_wp2_with fail
  refine (Tryd.strings_HasPrefix s _ _).mono ?_
  rintro e w1 ⟨rfl, hw⟩
  subst hw
  rw [show (⟨#[45]⟩ : ByteArray).data.toList = [45] from rfl, HM.out]
  go_wp2_with fail
  refine (Tryd.strings_HasPrefix s _ _).mono ?_
  rintro e w1 ⟨rfl, hw⟩
  subst hw
  rw [show (⟨#[45]⟩ : ByteArray).data.toList = [45] from rfl, HM.out]
  go_wp2_with fail
  refine (Tryd.strings_HasPrefix s _ _).mono ?_
  rintro e w1 ⟨rfl, hw⟩
  subst hw
  rw [show (⟨#[43]⟩ : ByteArray).data.toList = [43] from rfl, HP.out]
  go_wp2_with fail
  refine (all_any s _ _ (by omega)).mono ?_
  rintro e w1 ⟨rfl, rfl⟩
  rw [show (⟨#[48, 49, 50, 51, 52, 53, 54, 55, 56, 57]⟩ : ByteArray).data.toList = [48, 49, 50, 51, 52, 53, 54, 55, 56, 57] from rfl, A5.out]
  go_wp2_with fail
  refine (Tryd.strconv_ParseUint_10_at64_ok s (by omega) u A6.out _).mono ?_
  rintro e w2 ⟨rfl, hw⟩
  have hb := bytes_below s hw
  have HB := Lib.hid hb; clear hb hw
  go_wp2_with fail
  rw [← HF.out]
  refine (copysign_pos F A7.out _).mono ?_
  rintro e w3 ⟨rfl, rfl⟩
  go_wp2_with fail
  refine (bits_any _ _).mono ?_
  rintro e w4 ⟨rfl, rfl⟩
  rw [clean_same A8.out]
  go_wp2_with fail
  go_ret2
  obtain ⟨rfl, rfl⟩ := Prod.mk.inj HR2.out
  exact ⟨rfl, HB.out⟩
set_option maxHeartbeats 16000000 in
theorem of_minus2 (s d : ByteArray) (r : Nat) (ok : Bool) (w : World) (hs : s.size ≤ 140737488351232) (h0 : Lib.hasPrefix s.data.toList [48, 120] = false) (hm : Lib.hasPrefix s.data.toList [45] = true) (h1 : 1 ≤ s.size) (hx : s.extract 1 s.size = d) (hd : d.size ≤ 140737488351232) (hres : plainF true d.data.toList = (r, ok)) :
    Calls Tryd.prog 14 #[.string s] w (OfPost w (r, ok)) := by
  have HRF := Lib.hid run_from
  have H0 := Lib.hid h0; have HM := Lib.hid hm; clear h0 hm
  have HXX := Lib.hid hx; clear hx
  obtain ⟨l, hl⟩ : ∃ l, l = d.data.toList := ⟨_, rfl⟩
  rw [← hl] at hres
  have HL := Lib.hid hl.symm
  have HLL := Lib.hid (show d.toList = l by rw [Lib.toList_data, hl])
  have HSZ := Lib.hid (show (d.size : Int) = (l.length : Int) by rw [hl, Lib.size_eq])
  have HSZ2 := Lib.hid (show d.size = l.length by rw [hl, Lib.size_eq])
  have HRES := Lib.hid hres
  clear hl hres
  by_cases t1 : l = [105, 110, 102]
  · have HR := Lib.hid (plain_inf true t1)
    have f1 : (d.toList == [105, 110, 102]) = true := by rw [HLL.out, t1]; rfl
    have hcv := int_neg
    clear t1
    go_enter Tryd.func14, Tryd.ntmps14
    go_wp2_with fail
    refine (Tryd.strings_CutPrefix s _ _).mono ?_
    rintro e w1 ⟨rfl, hw⟩
    subst hw
    rw [show (⟨#[48, 120]⟩ : ByteArray).data.toList = [48, 120] from rfl, H0.out]
    obtain ⟨T, hT⟩ : ∃ T : ByteArray, T = ⟨(Lib.trimPrefix s.data.toList [48, 120]).toArray⟩ := ⟨_, rfl⟩
    rw [← hT]
    clear hT
    go_wp2_with fail
    refine (Tryd.strings_HasPrefix s _ _).mono ?_
    rintro e w1 ⟨rfl, hw⟩
    subst hw
    rw [show (⟨#[45]⟩ : ByteArray).data.toList = [45] from rfl, HM.out]
    go_wp2_with fail
    refine (Tryd.strings_HasPrefix s _ _).mono ?_
    rintro e w1 ⟨rfl, hw⟩
    subst hw
    rw [show (⟨#[45]⟩ : ByteArray).data.toList = [45] from rfl, HM.out]
    go_upto_region 10 with (fail)
    rw [HXX.out]
    go_wp2_with fail
    refine (inf_any _ _).mono ?_
    rintro e w1 ⟨rfl, rfl⟩
    rw [if_neg (by decide)]
    go_wp2_with fail
    refine (bits_any _ _).mono ?_
    rintro e w1 ⟨rfl, rfl⟩
    rw [show cleanB 18442240474082181120 = 18442240474082181120 by decide +kernel]
    go_wp2_with fail
    go_ret2
    obtain ⟨rfl, rfl⟩ := Prod.mk.inj (HRES.out.symm.trans HR.out)
    exact ⟨rfl, Below.refl _ _⟩
  have f1 : (d.toList == [105, 110, 102]) = false := by rw [HLL.out]; exact beq_eq_false_iff_ne.2 t1
  by_cases t2 : l = [110, 97, 110]
  · have HR := Lib.hid (plain_nan true t2)
    have f2 : (d.toList == [110, 97, 110]) = true := by rw [HLL.out, t2]; rfl
    clear t1 t2
    go_enter Tryd.func14, Tryd.ntmps14
    go_wp2_with fail
    refine (Tryd.strings_CutPrefix s _ _).mono ?_
    rintro e w1 ⟨rfl, hw⟩
    subst hw
    rw [show (⟨#[48, 120]⟩ : ByteArray).data.toList = [48, 120] from rfl, H0.out]
    obtain ⟨T, hT⟩ : ∃ T : ByteArray, T = ⟨(Lib.trimPrefix s.data.toList [48, 120]).toArray⟩ := ⟨_, rfl⟩
    rw [← hT]
    clear hT
    go_wp2_with fail
    refine (Tryd.strings_HasPrefix s _ _).mono ?_
    rintro e w1 ⟨rfl, hw⟩
    subst hw
    rw [show (⟨#[45]⟩ : ByteArray).data.toList = [45] from rfl, HM.out]
    go_wp2_with fail
    refine (Tryd.strings_HasPrefix s _ _).mono ?_
    rintro e w1 ⟨rfl, hw⟩
    subst hw
    rw [show (⟨#[45]⟩ : ByteArray).data.toList = [45] from rfl, HM.out]
    go_upto_region 10 with (fail)
    rw [HXX.out]
    go_wp2_with fail
    go_ret2
    obtain ⟨rfl, rfl⟩ := Prod.mk.inj (HRES.out.symm.trans HR.out)
    exact ⟨rfl, Below.refl _ _⟩
  have f2 : (d.toList == [110, 97, 110]) = false := by rw [HLL.out]; exact beq_eq_false_iff_ne.2 t2
  by_cases t3 : l = []
  · have HR := Lib.hid (plain_bad true t1 t2 (Or.inl t3))
    have f3 : d.toList.isEmpty = true := by rw [HLL.out, t3]; rfl
    clear t1 t2 t3
    go_enter Tryd.func14, Tryd.ntmps14
    go_wp2_with fail
    refine (Tryd.strings_CutPrefix s _ _).mono ?_
    rintro e w1 ⟨rfl, hw⟩
    subst hw
    rw [show (⟨#[48, 120]⟩ : ByteArray).data.toList = [48, 120] from rfl, H0.out]
    obtain ⟨T, hT⟩ : ∃ T : ByteArray, T = ⟨(Lib.trimPrefix s.data.toList [48, 120]).toArray⟩ := ⟨_, rfl⟩
    rw [← hT]
    clear hT
    go_wp2_with fail
    refine (Tryd.strings_HasPrefix s _ _).mono ?_
    rintro e w1 ⟨rfl, hw⟩
    subst hw
    rw [show (⟨#[45]⟩ : ByteArray).data.toList = [45] from rfl, HM.out]
    go_wp2_with fail
    refine (Tryd.strings_HasPrefix s _ _).mono ?_
    rintro e w1 ⟨rfl, hw⟩
    subst hw
    rw [show (⟨#[45]⟩ : ByteArray).data.toList = [45] from rfl, HM.out]
    go_upto_region 10 with (fail)
    rw [HXX.out]
    go_wp2_with fail
    go_ret2
    obtain ⟨rfl, rfl⟩ := Prod.mk.inj (HRES.out.symm.trans HR.out)
    exact ⟨rfl, Below.refl _ _⟩
  have f3 : d.toList.isEmpty = false := by rw [HLL.out]; cases hl : l with | nil => exact absurd hl t3 | cons a t => rfl
  by_cases t4 : 15 < l.length
  · have HR := Lib.hid (plain_bad true t1 t2 (Or.inr (Or.inl t4)))
    have f4 : (15 : Int) < (d.size : Int) := by rw [HSZ.out]; omega
    clear t1 t2 t3 t4
    go_enter Tryd.func14, Tryd.ntmps14
    go_wp2_with fail
    refine (Tryd.strings_CutPrefix s _ _).mono ?_
    rintro e w1 ⟨rfl, hw⟩
    subst hw
    rw [show (⟨#[48, 120]⟩ : ByteArray).data.toList = [48, 120] from rfl, H0.out]
    obtain ⟨T, hT⟩ : ∃ T : ByteArray, T = ⟨(Lib.trimPrefix s.data.toList [48, 120]).toArray⟩ := ⟨_, rfl⟩
    rw [← hT]
    clear hT
    go_wp2_with fail
    refine (Tryd.strings_HasPrefix s _ _).mono ?_
    rintro e w1 ⟨rfl, hw⟩
    subst hw
    rw [show (⟨#[45]⟩ : ByteArray).data.toList = [45] from rfl, HM.out]
    go_wp2_with fail
    refine (Tryd.strings_HasPrefix s _ _).mono ?_
    rintro e w1 ⟨rfl, hw⟩
    subst hw
    rw [show (⟨#[45]⟩ : ByteArray).data.toList = [45] from rfl, HM.out]
    go_upto_region 10 with (fail)
    rw [HXX.out]
    go_wp2_with fail
    go_ret2
    obtain ⟨rfl, rfl⟩ := Prod.mk.inj (HRES.out.symm.trans HR.out)
    exact ⟨rfl, Below.refl _ _⟩
  have f4 : ¬ (15 : Int) < (d.size : Int) := by rw [HSZ.out]; omega
  by_cases t5 : l.all digB = false
  · have HR := Lib.hid (plain_bad true t1 t2 (Or.inr (Or.inr t5)))
    have f5 := Lib.hid (show (d.data.toList.all fun c => decide (0 ≤ Lib.indexByte [48, 49, 50, 51, 52, 53, 54, 55, 56, 57] c)) = false by rw [all_same idx_dig, HL.out]; exact t5)
    clear t1 t2 t3 t4 t5
    go_enter Tryd.func14, Tryd.ntmps14
    go_wp2_with fail
    refine (Tryd.strings_CutPrefix s _ _).mono ?_
    rintro e w1 ⟨rfl, hw⟩
    subst hw
    rw [show (⟨#[48, 120]⟩ : ByteArray).data.toList = [48, 120] from rfl, H0.out]
    obtain ⟨T, hT⟩ : ∃ T : ByteArray, T = ⟨(Lib.trimPrefix s.data.toList [48, 120]).toArray⟩ := ⟨_, rfl⟩
    rw [← hT]
    clear hT
    go_wp2_with fail
    refine (Tryd.strings_HasPrefix s _ _).mono ?_
    rintro e w1 ⟨rfl, hw⟩
    subst hw
    rw [show (⟨#[45]⟩ : ByteArray).data.toList = [45] from rfl, HM.out]
    go_wp2_with fail
    refine (Tryd.strings_HasPrefix s _ _).mono ?_
    rintro e w1 ⟨rfl, hw⟩
    subst hw
    rw [show (⟨#[45]⟩ : ByteArray).data.toList = [45] from rfl, HM.out]
    go_upto_region 10 with (fail)
    rw [HXX.out]
    go_wp2_with fail
    refine (all_any d _ _ (by omega)).mono ?_
    rintro e w1 ⟨rfl, rfl⟩
    rw [show (⟨#[48, 49, 50, 51, 52, 53, 54, 55, 56, 57]⟩ : ByteArray).data.toList = [48, 49, 50, 51, 52, 53, 54, 55, 56, 57] from rfl, f5.out]
    go_wp2_with fail
    go_ret2
    obtain ⟨rfl, rfl⟩ := Prod.mk.inj (HRES.out.symm.trans HR.out)
    exact ⟨rfl, Below.refl _ _⟩
  have t6 : l.all digB = true := by cases h : l.all digB with | true => rfl | false => exact absurd h t5
  have HR := Lib.hid (plain_dig true t1 t2 t3 t4 t6)
  have HD := Lib.hid (show Digs d (decN l) by rw [← HL.out]; exact digs_all (by rw [HL.out]; exact t3) (by rw [HSZ2.out]; omega) (by rw [HL.out]; exact t6))
  obtain ⟨u, hu⟩ : ∃ u, u = decN l := ⟨_, rfl⟩
  rw [← hu] at HD HR
  have A5 := Lib.hid HD.out.all; have A6 := Lib.hid HD.out.reads; have A7 := Lib.hid HD.out.flt; have A8 := Lib.hid HD.out.neg
  obtain ⟨F, hF⟩ : ∃ F, F = floatOfInt .f64 u := ⟨_, rfl⟩
  rw [← hF] at A7 A8
  have HF := Lib.hid hF
  have HR2 := Lib.hid (show (r, ok) = (F + 9223372036854775808, true) by rw [← HRES.out, HR.out, hF]; rfl)
  clear t1 t2 t3 t4 t5 t6 hu hF
  go_enter Tryd.func14, Tryd.ntmps14
  go_wp2_with fail
  refine (Tryd.strings_CutPrefix s _ _).mono ?_
  rintro e w1 ⟨rfl, hw⟩
  subst hw
  rw [show (⟨#[48, 120]⟩ : ByteArray).data.toList = [48, 120] from rfl, H0.out]
  obtain ⟨T, hT⟩ : ∃ T : ByteArray, T = ⟨(Lib.trimPrefix s.data.toList [48, 120]).toArray⟩ := ⟨_, rfl⟩
  rw [← hT]
  clear hT
  go_wp2_with fail
  refine (Tryd.strings_HasPrefix s _ _).mono ?_
  rintro e w1 ⟨rfl, hw⟩
  subst hw
  rw [show (⟨#[45]⟩ : ByteArray).data.toList = [45] from rfl, HM.out]
  go_wp2_with fail
  refine (Tryd.strings_HasPrefix s _ _).mono ?_
  rintro e w1 ⟨rfl, hw⟩
  subst hw
  rw [show (⟨#[45]⟩ : ByteArray).data.toList = [45] from rfl, HM.out]
  go_upto_region 10 with (fail)
  rw [HXX.out]
  have d2 : d.size ≤ 15 := by omega
  clear h1 H0 HM HXX hd hs HSZ HSZ2 HL HLL HRES f4
  have e15 : ¬ (15 : Int) < (d.size : Int) := by omega
  go_wp2_with fail
  refine (all_any d _ _ (by omega)).mono ?_
  rintro e w1 ⟨rfl, rfl⟩
  rw [show (⟨#[48, 49, 50, 51, 52, 53, 54, 55, 56, 57]⟩ : ByteArray).data.toList = [48, 49, 50, 51, 52, 53, 54, 55, 56, 57] from rfl, A5.out]
  go_wp2_with fail
  refine (Tryd.strconv_ParseUint_10_at64_ok d (by omega) u A6.out _).mono ?_
  rintro e w2 ⟨rfl, hw⟩
  have hb := bytes_below d hw
  have HB := Lib.hid hb; clear hb hw
  go_wp2_with fail
  rw [← HF.out]
  refine (copysign_neg F A7.out _).mono ?_
  rintro e w3 ⟨rfl, rfl⟩
  go_wp2_with fail
  refine (bits_any _ _).mono ?_
  rintro e w4 ⟨rfl, rfl⟩
  rw [clean_same A8.out]
  go_wp2_with fail
  go_ret2
  obtain ⟨rfl, rfl⟩ := Prod.mk.inj HR2.out
  exact ⟨rfl, HB.out⟩
set_option maxRecDepth 100000 in
set_option maxHeartbeats 16000000 in
theorem of_plus (s d : ByteArray) (r : Nat) (ok : Bool) (w : World) (hs : s.size ≤ 140737488351232) (h0 : Lib.hasPrefix s.data.toList [48, 120] = false) (hm : Lib.hasPrefix s.data.toList [45] = false) (hp : Lib.hasPrefix s.data.toList [43] = true) (h1 : 1 ≤ s.size) (hx : s.extract 1 s.size = d) (hd : d.size ≤ 140737488351232) (hres : plainF false d.data.toList = (r, ok)) :
    Calls Tryd.prog 14 #[.string s] w (OfPost w (r, ok)) := by
  have HRF := Lib.hid run_from
  have H0 := Lib.hid h0; have HM := Lib.hid hm; clear h0 hm
  have HP := Lib.hid hp; clear hp
  have HXX := Lib.hid hx; clear hx
  obtain ⟨l, hl⟩ : ∃ l, l = d.data.toList := ⟨_, rfl⟩
  rw [← hl] at hres
  have HL := Lib.hid hl.symm
  have HLL := Lib.hid (show d.toList = l by rw [Lib.toList_data, hl])
  have HSZ := Lib.hid (show (d.size : Int) = (l.length : Int) by rw [hl, Lib.size_eq])
  have HSZ2 := Lib.hid (show d.size = l.length by rw [hl, Lib.size_eq])
  have HRES := Lib.hid hres
  clear hl hres
  by_cases t1 : l = [105, 110, 102]
  · have HR := Lib.hid (plain_inf false t1)
    have f1 : (d.toList == [105, 110, 102]) = true := by rw [HLL.out, t1]; rfl
    have hcv := int_pos
    clear t1
    go_enter Tryd.func14, Tryd.ntmps14
    go_wp2_with fail
    refine (Tryd.strings_CutPrefix s _ _).mono ?_
    rintro e w1 ⟨rfl, hw⟩
    subst hw
    rw [show (⟨#[48, 120]⟩ : ByteArray).data.toList = [48, 120] from rfl, H0.out]
    obtain ⟨T, hT⟩ : ∃ T : ByteArray, T = ⟨(Lib.trimPrefix s.data.toList [48, 120]).toArray⟩ := ⟨_, rfl⟩
    rw [← hT]
    clear hT
    go_wp2_with fail
    refine (Tryd.strings_HasPrefix s _ _).mono ?_
    rintro e w1 ⟨rfl, hw⟩
    subst hw
    rw [show (⟨#[45]⟩ : ByteArray).data.toList = [45] from rfl, HM.out]
    go_wp2_with fail
    refine (Tryd.strings_HasPrefix s _ _).mono ?_
    rintro e w1 ⟨rfl, hw⟩
    subst hw
    rw [show (⟨#[45]⟩ : ByteArray).data.toList = [45] from rfl, HM.out]
    go_wp2_with fail
    refine (Tryd.strings_HasPrefix s _ _).mono ?_
    rintro e w1 ⟨rfl, hw⟩
    subst hw
    rw [show (⟨#[43]⟩ : ByteArray).data.toList = [43] from rfl, HP.out]
    go_upto_region 10 with (fail)
    rw [HXX.out]
    go_wp2_with fail
    refine (inf_any _ _).mono ?_
    rintro e w1 ⟨rfl, rfl⟩
    rw [if_pos (by decide)]
    go_wp2_with fail
    refine (bits_any _ _).mono ?_
    rintro e w1 ⟨rfl, rfl⟩
    rw [show cleanB 9218868437227405312 = 9218868437227405312 by decide +kernel]
    go_wp2_with fail
    go_ret2
    obtain ⟨rfl, rfl⟩ := Prod.mk.inj (HRES.out.symm.trans HR.out)
    exact ⟨rfl, Below.refl _ _⟩
  have f1 : (d.toList == [105, 110, 102]) = false := by rw [HLL.out]; exact beq_eq_false_iff_ne.2 t1
  by_cases t2 : l = [110, 97, 110]
  · have HR := Lib.hid (plain_nan false t2)
    have f2 : (d.toList == [110, 97, 110]) = true := by rw [HLL.out, t2]; rfl
    clear t1 t2
    go_enter Tryd.func14, Tryd.ntmps14
    go_wp2_with fail
    refine (Tryd.strings_CutPrefix s _ _).mono ?_
    rintro e w1 ⟨rfl, hw⟩
    subst hw
    rw [show (⟨#[48, 120]⟩ : ByteArray).data.toList = [48, 120] from rfl, H0.out]
    obtain ⟨T, hT⟩ : ∃ T : ByteArray, T = ⟨(Lib.trimPrefix s.data.toList [48, 120]).toArray⟩ := ⟨_, rfl⟩
    rw [← hT]
    clear hT
    go_wp2_with fail
    refine (Tryd.strings_HasPrefix s _ _).mono ?_
    rintro e w1 ⟨rfl, hw⟩
    subst hw
    rw [show (⟨#[45]⟩ : ByteArray).data.toList = [45] from rfl, HM.out]
    go_wp2_with fail
    refine (Tryd.strings_HasPrefix s _ _).mono ?_
    rintro e w1 ⟨rfl, hw⟩
    subst hw
    rw [show (⟨#[45]⟩ : ByteArray).data.toList = [45] from rfl, HM.out]
    go_wp2_with fail
    refine (Tryd.strings_HasPrefix s _ _).mono ?_
    rintro e w1 ⟨rfl, hw⟩
    subst hw
    rw [show (⟨#[43]⟩ : ByteArray).data.toList = [43] from rfl, HP.out]
    go_upto_region 10 with (fail)
    rw [HXX.out]
    go_wp2_with fail
    go_ret2
    obtain ⟨rfl, rfl⟩ := Prod.mk.inj (HRES.out.symm.trans HR.out)
    exact ⟨rfl, Below.refl _ _⟩
  have f2 : (d.toList == [110, 97, 110]) = false := by rw [HLL.out]; exact beq_eq_false_iff_ne.2 t2
  by_cases t3 : l = []
  · have HR := Lib.hid (plain_bad false t1 t2 (Or.inl t3))
    have f3 : d.toList.isEmpty = true := by rw [HLL.out, t3]; rfl
    clear t1 t2 t3
    go_enter Tryd.func14, Tryd.ntmps14
    go_wp2_with fail
    refine (Tryd.strings_CutPrefix s _ _).mono ?_
    rintro e w1 ⟨rfl, hw⟩
    subst hw
    rw [show (⟨#[48, 120]⟩ : ByteArray).data.toList = [48, 120] from rfl, H0.out]
    obtain ⟨T, hT⟩ : ∃ T : ByteArray, T = ⟨(Lib.trimPrefix s.data.toList [48, 120]).toArray⟩ := ⟨_, rfl⟩
    rw [← hT]
    clear hT
    go_wp2_with fail
    refine (Tryd.strings_HasPrefix s _ _).mono ?_
    rintro e w1 ⟨rfl, hw⟩
    subst hw
    rw [show (⟨#[45]⟩ : ByteArray).data.toList = [45] from rfl, HM.out]
    go_wp2_with fail
    refine (Tryd.strings_HasPrefix s _ _).mono ?_
    rintro e w1 ⟨rfl, hw⟩
    subst hw
    rw [show (⟨#[45]⟩ : ByteArray).data.toList = [45] from rfl, HM.out]
    go_wp2_with fail
    refine (Tryd.strings_HasPrefix s _ _).mono ?_
    rintro e w1 ⟨rfl, hw⟩
    subst hw
    rw [show (⟨#[43]⟩ : ByteArray).data.toList = [43] from rfl, HP.out]
    go_upto_region 10 with (fail)
    rw [HXX.out]
    go_wp2_with fail
    go_ret2
    obtain ⟨rfl, rfl⟩ := Prod.mk.inj (HRES.out.symm.trans HR.out)
    exact ⟨rfl, Below.refl _ _⟩
  have f3 : d.toList.isEmpty = false := by rw [HLL.out]; cases hl : l with | nil => exact absurd hl t3 | cons a t => rfl
  by_cases t4 : 15 < l.length
  · have HR := Lib.hid (plain_bad false t1 t2 (Or.inr (Or.inl t4)))
    have f4 : (15 : Int) < (d.size : Int) := by rw [HSZ.out]; omega
    clear t1 t2 t3 t4
    go_enter Tryd.func14, Tryd.ntmps14
    go_wp2_with fail
    refine (Tryd.strings_CutPrefix s _ _).mono ?_
    rintro e w1 ⟨rfl, hw⟩
    subst hw
    rw [show (⟨#[48, 120]⟩ : ByteArray).data.toList = [48, 120] from rfl, H0.out]
    obtain ⟨T, hT⟩ : ∃ T : ByteArray, T = ⟨(Lib.trimPrefix s.data.toList [48, 120]).toArray⟩ := ⟨_, rfl⟩
    rw [← hT]
    clear hT
    go_wp2_with fail
    refine (Tryd.strings_HasPrefix s _ _).mono ?_
    rintro e w1 ⟨rfl, hw⟩
    subst hw
    rw [show (⟨#[45]⟩ : ByteArray).data.toList = [45] from rfl, HM.out]
    go_wp2_with fail
    refine (Tryd.strings_HasPrefix s _ _).mono ?_
    rintro e w1 ⟨rfl, hw⟩
    subst hw
    rw [show (⟨#[45]⟩ : ByteArray).data.toList = [45] from rfl, HM.out]
    go_wp2_with fail
    refine (Tryd.strings_HasPrefix s _ _).mono ?_
    rintro e w1 ⟨rfl, hw⟩
    subst hw
    rw [show (⟨#[43]⟩ : ByteArray).data.toList = [43] from rfl, HP.out]
    go_upto_region 10 with (fail)
    rw [HXX.out]
    go_wp2_with fail
    go_ret2
    obtain ⟨rfl, rfl⟩ := Prod.mk.inj (HRES.out.symm.trans HR.out)
    exact ⟨rfl, Below.refl _ _⟩
  have f4 : ¬ (15 : Int) < (d.size : Int) := by rw [HSZ.out]; omega
  by_cases t5 : l.all digB = false
  · have HR := Lib.hid (plain_bad false t1 t2 (Or.inr (Or.inr t5)))
    have f5 := Lib.hid (show (d.data.toList.all fun c => decide (0 ≤ Lib.indexByte [48, 49, 50, 51, 52, 53, 54, 55, 56, 57] c)) = false by rw [all_same idx_dig, HL.out]; exact t5)
    clear t1 t2 t3 t4 t5
    go_enter Tryd.func14, Tryd.ntmps14
    go_wp2_with fail
    refine (Tryd.strings_CutPrefix s _ _).mono ?_
    rintro e w1 ⟨rfl, hw⟩
    subst hw
    rw [show (⟨#[48, 120]⟩ : ByteArray).data.toList = [48, 120] from rfl, H0.out]
    obtain ⟨T, hT⟩ : ∃ T : ByteArray, T = ⟨(Lib.trimPrefix s.data.toList [48, 120]).toArray⟩ := ⟨_, rfl⟩
    rw [← hT]
    clear hT
    go_wp2_with fail
    refine (Tryd.strings_HasPrefix s _ _).mono ?_
    rintro e w1 ⟨rfl, hw⟩
    subst hw
    rw [show (⟨#[45]⟩ : ByteArray).data.toList = [45] from rfl, HM.out]
    go_wp2_with fail
    refine (Tryd.strings_HasPrefix s _ _).mono ?_
    rintro e w1 ⟨rfl, hw⟩
    subst hw
    rw [show (⟨#[45]⟩ : ByteArray).data.toList = [45] from rfl, HM.out]
    go_wp2_with fail
    refine (Tryd.strings_HasPrefix s _ _).mono ?_
    rintro e w1 ⟨rfl, hw⟩
    subst hw
    rw [show (⟨#[43]⟩ : ByteArray).data.toList = [43] from rfl, HP.out]
    go_upto_region 10 with (fail)
    rw [HXX.out]
    go_wp2_with fail
    refine (all_any d _ _ (by omega)).mono ?_
    rintro e w1 ⟨rfl, rfl⟩
    rw [show (⟨#[48, 49, 50, 51, 52, 53, 54, 55, 56, 57]⟩ : ByteArray).data.toList = [48, 49, 50, 51, 52, 53, 54, 55, 56, 57] from rfl, f5.out]
    go_wp2_with fail
    go_ret2
    obtain ⟨rfl, rfl⟩ := Prod.mk.inj (HRES.out.symm.trans HR.out)
    exact ⟨rfl, Below.refl _ _⟩
  have t6 : l.all digB = true := by cases h : l.all digB with | true => rfl | false => exact absurd h t5
  have HR := Lib.hid (plain_dig false t1 t2 t3 t4 t6)
  have HD := Lib.hid (show Digs d (decN l) by rw [← HL.out]; exact digs_all (by rw [HL.out]; exact t3) (by rw [HSZ2.out]; omega) (by rw [HL.out]; exact t6))
  obtain ⟨u, hu⟩ : ∃ u, u = decN l := ⟨_, rfl⟩
  rw [← hu] at HD HR
  have A5 := Lib.hid HD.out.all; have A6 := Lib.hid HD.out.reads; have A7 := Lib.hid HD.out.flt; have A8 := Lib.hid HD.out.num
  obtain ⟨F, hF⟩ : ∃ F, F = floatOfInt .f64 u := ⟨_, rfl⟩
  rw [← hF] at A7 A8
  have HF := Lib.hid hF
  have HR2 := Lib.hid (show (r, ok) = (F + 0, true) by rw [← HRES.out, HR.out, hF]; rfl)
  clear t1 t2 t3 t4 t5 t6 hu hF
  go_enter Tryd.func14, Tryd.ntmps14
  go_wp2_with fail
  refine (Tryd.strings_CutPrefix s _ _).mono ?_
  rintro e w1 ⟨rfl, hw⟩
  subst hw
  rw [show (⟨#[48, 120]⟩ : ByteArray).data.toList = [48, 120] from rfl, H0.out]
  obtain ⟨T, hT⟩ : ∃ T : ByteArray, T = ⟨(Lib.trimPrefix s.data.toList [48, 120]).toArray⟩ := ⟨_, rfl⟩
  rw [← hT]
  clear hT
  go_wp2_with fail
  refine (Tryd.strings_HasPrefix s _ _).mono ?_
  rintro e w1 ⟨rfl, hw⟩
  subst hw
  rw [show (⟨#[45]⟩ : ByteArray).data.toList = [45] from rfl, HM.out]
  go_wp2_with fail
  refine (Tryd.strings_HasPrefix s _ _).mono ?_
  rintro e w1 ⟨rfl, hw⟩
  subst hw
  rw [show (⟨#[45]⟩ : ByteArray).data.toList = [45] from rfl, HM.out]
  go_wp2_with fail
  refine (Tryd.strings_HasPrefix s _ _).mono ?_
  rintro e w1 ⟨rfl, hw⟩
  subst hw
  rw [show (⟨#[43]⟩ : ByteArray).data.toList = [43] from rfl, HP.out]
  go_upto_region 10 with (fail)
  rw [HXX.out]
  go_wp2_with fail
  refine (all_any d _ _ (by omega)).mono ?_
  rintro e w1 ⟨rfl, rfl⟩
  rw [show (⟨#[48, 49, 50, 51, 52, 53, 54, 55, 56, 57]⟩ : ByteArray).data.toList = [48, 49, 50, 51, 52, 53, 54, 55, 56, 57] from rfl, A5.out]
  go_wp2_with fail
  refine (Tryd.strconv_ParseUint_10_at64_ok d (by omega) u A6.out _).mono ?_
  rintro e w2 ⟨rfl, hw⟩
  have hb := bytes_below d hw
  have HB := Lib.hid hb; clear hb hw
  go_wp2_with fail
  rw [← HF.out]
  refine (copysign_pos F A7.out _).mono ?_
  rintro e w3 ⟨rfl, rfl⟩
  go_wp2_with fail
  refine (bits_any _ _).mono ?_
  rintro e w4 ⟨rfl, rfl⟩
  rw [clean_same A8.out]
  go_wp2_with fail
  go_ret2
  obtain ⟨rfl, rfl⟩ := Prod.mk.inj HR2.out
  exact ⟨rfl, HB.out⟩

theorem parse16_any (t : ByteArray) (h16 : t.size = 16) (hx : t.data.toList.all hexB = true) (w : World) :
    Calls Tryd.prog 27 #[.string t, .int .i64 16, .int .i64 64] w fun e w' => e = .returned (.tuple #[.int .u64 (hexN t.data.toList : Nat), .nilIface]) ∧ Below w.heap.size w w' := by
  go_enter Tryd.func27, Tryd.ntmps27
  go_wp2_with fail
  refine (parse16_in t h16 hx _).mono ?_
  rintro e w1 ⟨rfl, hw⟩
  have HB := Lib.hid (show Below w.heap.size w (Lib.bytesWorld w 5 t) from Go.Joins.below_bytesWorld _ _ _ _ (Nat.le_refl _))
  rw [← hw] at HB
  clear hw
  go_wp2_with fail
  go_ret2
  exact ⟨rfl, HB.out⟩
set_option maxRecDepth 100000 in
set_option maxHeartbeats 16000000 in
theorem of_hex (s : ByteArray) (r : Nat) (ok : Bool) (w : World) (hs : s.size ≤ 140737488351232) (h0 : Lib.hasPrefix s.data.toList [48, 120] = true) (hres : ofF s.data.toList = (r, ok)) :
    Calls Tryd.prog 14 #[.string s] w (OfPost w (r, ok)) := by
  obtain ⟨T, hT⟩ : ∃ T : ByteArray, T = ⟨(Lib.trimPrefix s.data.toList [48, 120]).toArray⟩ := ⟨_, rfl⟩
  have hTd : T.data.toList = s.data.toList.drop 2 := by rw [hT]; unfold Lib.trimPrefix; rw [if_pos h0]; simp
  have hlen := pre_len h0
  have hts : T.size + 2 = s.size := by rw [Lib.size_eq, hTd, List.length_drop, Lib.size_eq]; omega
  obtain ⟨t, ht⟩ := pre_form h0
  have hm : Lib.hasPrefix s.data.toList [45] = false := by rw [ht, pre_one]; decide
  have hp : Lib.hasPrefix s.data.toList [43] = false := by rw [ht, pre_one]; decide
  unfold ofF at hres
  rw [if_pos h0] at hres
  have HT := Lib.hid hT
  have H0 := Lib.hid h0; have HM := Lib.hid hm; have HP := Lib.hid hp
  have n1 : (s.toList == [105, 110, 102]) = false := by rw [Lib.toList_data, ht]; exact beq_eq_false_iff_ne.2 (by simp)
  have n2 : (s.toList == [110, 97, 110]) = false := by rw [Lib.toList_data, ht]; exact beq_eq_false_iff_ne.2 (by simp)
  have n3 : s.toList.isEmpty = false := by rw [Lib.toList_data, ht]; rfl
  by_cases t1 : T.size = 16
  · have e16 : (T.size : Int) = 16 := by omega
    by_cases t2 : (s.data.toList.drop 2).all hexB = true
    · rw [if_pos ⟨by rw [← Lib.size_eq]; omega, t2⟩] at hres
      have HRES := Lib.hid hres
      have HX := Lib.hid (show T.data.toList.all hexB = true by rw [hTd]; exact t2)
      have HTD := Lib.hid hTd
      have FX := Lib.hid (show (T.data.toList.all fun c => decide (0 ≤ Lib.indexByte [48, 49, 50, 51, 52, 53, 54, 55, 56, 57, 97, 98, 99, 100, 101, 102] c)) = true by rw [all_same idx_hex, hTd]; exact t2)
      clear hT hTd h0 hm hp hres t2 ht
      go_enter Tryd.func14, Tryd.ntmps14
      go_wp2_with fail
      refine (Tryd.strings_CutPrefix s _ _).mono ?_
      rintro e w1 ⟨rfl, hw⟩
      subst hw
      rw [show (⟨#[48, 120]⟩ : ByteArray).data.toList = [48, 120] from rfl, H0.out]
      rw [← HT.out]
      go_wp2_with fail
      refine (all_any T _ _ (by omega)).mono ?_
      rintro e w1 ⟨rfl, rfl⟩
      rw [show (⟨#[48, 49, 50, 51, 52, 53, 54, 55, 56, 57, 97, 98, 99, 100, 101, 102]⟩ : ByteArray).data.toList = [48, 49, 50, 51, 52, 53, 54, 55, 56, 57, 97, 98, 99, 100, 101, 102] from rfl, FX.out]
      go_wp2_with fail
      refine (parse16_any T t1 HX.out _).mono ?_
      rintro e w2 ⟨rfl, hb⟩
      have HB := Lib.hid hb
      clear hb
      go_wp2_with fail
      refine (canon_any _ _).mono ?_
      rintro e w3 ⟨rfl, rfl⟩
      go_wp2_with fail
      go_ret2
      obtain ⟨rfl, rfl⟩ := Prod.mk.inj HRES.out
      exact ⟨by rw [HTD.out]; rfl, HB.out⟩
    · rw [if_neg (fun h => t2 h.2)] at hres
      have HRES := Lib.hid hres
      have f4 : (15 : Int) < (s.size : Int) := by omega
      have FX := Lib.hid (show (T.data.toList.all fun c => decide (0 ≤ Lib.indexByte [48, 49, 50, 51, 52, 53, 54, 55, 56, 57, 97, 98, 99, 100, 101, 102] c)) = false by
        rw [all_same idx_hex, hTd]
        cases h : (s.data.toList.drop 2).all hexB with
        | true => exact absurd h t2
        | false => rfl)
      clear hT hTd h0 hm hp hres t2 ht
      go_enter Tryd.func14, Tryd.ntmps14
      go_wp2_with fail
      refine (Tryd.strings_CutPrefix s _ _).mono ?_
      rintro e w1 ⟨rfl, hw⟩
      subst hw
      rw [show (⟨#[48, 120]⟩ : ByteArray).data.toList = [48, 120] from rfl, H0.out]
      rw [← HT.out]
      go_wp2_with fail
      refine (all_any T _ _ (by omega)).mono ?_
      rintro e w1 ⟨rfl, rfl⟩
      rw [show (⟨#[48, 49, 50, 51, 52, 53, 54, 55, 56, 57, 97, 98, 99, 100, 101, 102]⟩ : ByteArray).data.toList = [48, 49, 50, 51, 52, 53, 54, 55, 56, 57, 97, 98, 99, 100, 101, 102] from rfl, FX.out]
      go_wp2_with fail
      refine (Tryd.strings_HasPrefix s _ _).mono ?_
      rintro e w1 ⟨rfl, hw⟩
      subst hw
      rw [show (⟨#[45]⟩ : ByteArray).data.toList = [45] from rfl, HM.out]
      go_wp2_with fail
      refine (Tryd.strings_HasPrefix s _ _).mono ?_
      rintro e w1 ⟨rfl, hw⟩
      subst hw
      rw [show (⟨#[45]⟩ : ByteArray).data.toList = [45] from rfl, HM.out]
      go_wp2_with fail
      refine (Tryd.strings_HasPrefix s _ _).mono ?_
      rintro e w1 ⟨rfl, hw⟩
      subst hw
      rw [show (⟨#[43]⟩ : ByteArray).data.toList = [43] from rfl, HP.out]
      go_wp2_with fail
      go_ret2
      obtain ⟨rfl, rfl⟩ := Prod.mk.inj HRES.out
      exact ⟨rfl, Below.refl _ _⟩
  · have e16 : ¬ (T.size : Int) = 16 := by omega
    rw [if_neg (fun h => by rw [← Lib.size_eq] at h; omega)] at hres
    have HRES := Lib.hid hres
    have hbad : s.data.toList.all digB = false := by
      rw [ht]
      cases h : List.all (48 :: 120 :: t) digB with
      | false => rfl
      | true =>
        simp only [List.all_cons, Bool.and_eq_true] at h
        exact absurd h.2.1 (by decide)
    have F5 := Lib.hid (show (s.data.toList.all fun c => decide (0 ≤ Lib.indexByte [48, 49, 50, 51, 52, 53, 54, 55, 56, 57] c)) = false by rw [all_same idx_dig]; exact hbad)
    clear hT hTd h0 hm hp hres ht hbad
    by_cases f4 : (15 : Int) < (s.size : Int)
    · go_enter Tryd.func14, Tryd.ntmps14
      go_wp2_with fail
      refine (Tryd.strings_CutPrefix s _ _).mono ?_
      rintro e w1 ⟨rfl, hw⟩
      subst hw
      rw [show (⟨#[48, 120]⟩ : ByteArray).data.toList = [48, 120] from rfl, H0.out]
      rw [← HT.out]
      go_wp2_with fail
      refine (Tryd.strings_HasPrefix s _ _).mono ?_
      rintro e w1 ⟨rfl, hw⟩
      subst hw
      rw [show (⟨#[45]⟩ : ByteArray).data.toList = [45] from rfl, HM.out]
      go_wp2_with fail
      refine (Tryd.strings_HasPrefix s _ _).mono ?_
      rintro e w1 ⟨rfl, hw⟩
      subst hw
      rw [show (⟨#[45]⟩ : ByteArray).data.toList = [45] from rfl, HM.out]
      go_wp2_with fail
      refine (Tryd.strings_HasPrefix s _ _).mono ?_
      rintro e w1 ⟨rfl, hw⟩
      subst hw
      rw [show (⟨#[43]⟩ : ByteArray).data.toList = [43] from rfl, HP.out]
      go_wp2_with fail
      go_ret2
      obtain ⟨rfl, rfl⟩ := Prod.mk.inj HRES.out
      exact ⟨rfl, Below.refl _ _⟩
    · go_enter Tryd.func14, Tryd.ntmps14
      go_wp2_with fail
      refine (Tryd.strings_CutPrefix s _ _).mono ?_
      rintro e w1 ⟨rfl, hw⟩
      subst hw
      rw [show (⟨#[48, 120]⟩ : ByteArray).data.toList = [48, 120] from rfl, H0.out]
      rw [← HT.out]
      go_wp2_with fail
      refine (Tryd.strings_HasPrefix s _ _).mono ?_
      rintro e w1 ⟨rfl, hw⟩
      subst hw
      rw [show (⟨#[45]⟩ : ByteArray).data.toList = [45] from rfl, HM.out]
      go_wp2_with fail
      refine (Tryd.strings_HasPrefix s _ _).mono ?_
      rintro e w1 ⟨rfl, hw⟩
      subst hw
      rw [show (⟨#[45]⟩ : ByteArray).data.toList = [45] from rfl, HM.out]
      go_wp2_with fail
      refine (Tryd.strings_HasPrefix s _ _).mono ?_
      rintro e w1 ⟨rfl, hw⟩
      subst hw
      rw [show (⟨#[43]⟩ : ByteArray).data.toList = [43] from rfl, HP.out]
      go_wp2_with fail
      refine (all_any s _ _ (by omega)).mono ?_
      rintro e w1 ⟨rfl, rfl⟩
      rw [show (⟨#[48, 49, 50, 51, 52, 53, 54, 55, 56, 57]⟩ : ByteArray).data.toList = [48, 49, 50, 51, 52, 53, 54, 55, 56, 57] from rfl, F5.out]
      go_wp2_with fail
      go_ret2
      obtain ⟨rfl, rfl⟩ := Prod.mk.inj HRES.out
      exact ⟨rfl, Below.refl _ _⟩
/-- OF WHOLE. -/
theorem of_any (s : ByteArray) (w : World) (hs : s.size ≤ 140737488351232) : Calls Tryd.prog 14 #[.string s] w (OfPost w (ofF s.data.toList)) := by
  by_cases h0 : Lib.hasPrefix s.data.toList [48, 120] = true
  · exact of_hex s _ _ w hs h0 rfl
  have h0' : Lib.hasPrefix s.data.toList [48, 120] = false := by simpa using h0
  have hdr : (s.extract 1 s.size).data.toList = s.data.toList.drop 1 := Lib.extract_to_end _ _
  have hds : (s.extract 1 s.size).size ≤ 140737488351232 := by rw [Lib.size_eq, hdr, List.length_drop, ← Lib.size_eq]; omega
  by_cases hm : Lib.hasPrefix s.data.toList [45] = true
  · rw [show ofF s.data.toList = plainF true (s.extract 1 s.size).data.toList by unfold ofF; rw [if_neg h0, if_pos hm, hdr]]
    exact of_minus2 s _ _ _ w hs h0' hm (by have := pre_len1 hm; rw [Lib.size_eq]; omega) rfl hds rfl
  have hm' : Lib.hasPrefix s.data.toList [45] = false := by simpa using hm
  by_cases hp : Lib.hasPrefix s.data.toList [43] = true
  · rw [show ofF s.data.toList = plainF false (s.extract 1 s.size).data.toList by unfold ofF; rw [if_neg h0, if_neg hm, if_pos hp, hdr]]
    exact of_plus s _ _ _ w hs h0' hm' hp (by have := pre_len1 hp; rw [Lib.size_eq]; omega) rfl hds rfl
  have hp' : Lib.hasPrefix s.data.toList [43] = false := by simpa using hp
  rw [show ofF s.data.toList = plainF false s.data.toList by unfold ofF; rw [if_neg h0, if_neg hm, if_neg hp]]
  exact of_none s _ _ w hs h0' hm' hp' rfl
end Go.Proofs.YtnddnhjlaojllaaDoor
