/-
  The document's reading of a number.
-/
import Derived.Test.YtnddnhjlaojllaaDoorRealAC
namespace Go.Proofs.YtnddnhjlaojllaaDoor
open Go.RowKit
set_option linter.unusedVariables false

def bAt (s : ByteArray) (k : Nat) : UInt8 := s.data.toList.getD k 0
theorem bAt_in {s : ByteArray} {k : Nat} (h : k < s.size) : s[k] = bAt s k := by
  unfold bAt
  have h' : k < s.data.toList.length := by simpa using h
  rw [List.getD_eq_getElem?_getD, List.getElem?_eq_getElem h']
  simp
  rfl
/-- What the document's Real hands back. -/
def RealPost (w : World) (q : Nat × Bool) (e : Ending) (w' : World) : Prop := e = .returned (.tuple #[.int .u64 (q.1 : Nat), .bool q.2]) ∧ w = w'
theorem or_low {a v : Nat} (ha : a < 1152921504606846976) (hv : v < 16) : bits .or .u64 ((a : Int) * 16) (v : Int) = (a : Int) * 16 + (v : Int) := by
  have e := Nat.two_pow_add_eq_or_of_lt (i := 4) (b := v) (by simpa using hv) a
  have e2 : (2 : Nat) ^ 4 * a = a * 16 := by rw [Nat.mul_comm]
  rw [e2] at e
  rw [show (a : Int) * 16 = ((a * 16 : Nat) : Int) by omega, or_u64 (a * 16) v (by omega) (by omega) (by rw [← e]; omega), ← e]
  omega
theorem slice_two {s : ByteArray} : (s.extract 0 2).toList = s.data.toList.take 2 := by
  rw [Lib.toList_data]
  simp
theorem take_pre {l : Bt} (h : 2 ≤ l.length) : (l.take 2 == [48, 120]) = Lib.hasPrefix l [48, 120] := by
  match l, h with
  | a :: b :: t, _ =>
    rw [pre_two]
    show (a == 48 && (b == 120 && true)) = _
    rw [Bool.and_true, Bool.beq_comm (a := a), Bool.beq_comm (a := b)]
theorem hex_take {t : Bt} {k : Nat} (h : (t.take k).all hexB = true) (hk : k < t.length) (hc : hexB t[k] = true) : (t.take (k + 1)).all hexB = true := by
  rw [List.take_succ_eq_append_getElem hk, List.all_append, h]
  simp [hc]
theorem dig_take {t : Bt} {k : Nat} (h : (t.take k).all digB = true) (hk : k < t.length) (hc : digB t[k] = true) : (t.take (k + 1)).all digB = true := by
  rw [List.take_succ_eq_append_getElem hk, List.all_append, h]
  simp [hc]
theorem not_all {f : UInt8 → Bool} {t : Bt} {k : Nat} (hk : k < t.length) (hc : f t[k] = false) : t.all f = false := by
  rw [List.all_eq_false]
  exact ⟨_, List.getElem_mem hk, by rw [hc]; decide⟩
theorem hexN_small {t : Bt} {k : Nat} (h : (t.take k).all hexB = true) (hk : k ≤ 15) : hexN (t.take k) < 1152921504606846976 := by
  have := hexN_take h hk
  rwa [List.take_take, Nat.min_self] at this
theorem decN_small {t : Bt} {k : Nat} (h : (t.take k).all digB = true) (hk : k ≤ 15) : decN (t.take k) < 1000000000000000 :=
  decN_15 h (by rw [List.length_take]; omega)
theorem decN_step {l : Bt} {k : Nat} (hk : k < l.length) : decN (l.take (k + 1)) = decN (l.take k) * 10 + (l[k].toNat - 48) := by
  rw [List.take_succ_eq_append_getElem hk, decN_snoc]
set_option maxRecDepth 100000 in
set_option maxHeartbeats 8000000 in
theorem real_hex (s : ByteArray) (w : World) (h18 : s.size = 18) (h0 : Lib.hasPrefix s.data.toList [48, 120] = true) (r : Nat) (ok : Bool) (hres : ofF s.data.toList = (r, ok)) :
    Calls Tryd.prog 15 #[.string s] w (RealPost w (r, ok)) := by
  have hf := run_from
  obtain ⟨t, ht⟩ : ∃ t, t = s.data.toList.drop 2 := ⟨_, rfl⟩
  have hsl : s.data.toList.length = 18 := by rw [← Lib.size_eq]; exact h18
  have hl : t.length = 16 := by rw [ht, List.length_drop, hsl]
  have px : ((s.extract 0 2).toList == [48, 120]) = true := by rw [slice_two, take_pre (by omega)]; exact h0
  have HRES := Lib.hid (show (if t.all hexB = true then (cleanB (hexN t), true) else (0, false)) = (r, ok) by
    rw [← hres]
    unfold ofF
    rw [if_pos h0, ← ht]
    by_cases hx : t.all hexB = true
    · rw [if_pos hx, if_pos ⟨hsl, hx⟩]
    · rw [if_neg hx, if_neg (fun h => hx h.2)])
  have i18 : (s.size : Int) = 18 := by omega
  have HT := Lib.hid (show ∀ j (h : j < t.length), t[j] = bAt s (j + 2) from fun j h => by
    unfold bAt
    have h' : j + 2 < s.data.toList.length := by omega
    rw [List.getD_eq_getElem?_getD, List.getElem?_eq_getElem h']
    simp only [ht, List.getElem_drop, Option.getD_some]
    congr 1
    omega)
  clear ht h0 hres
  go_enter Tryd.func15, Tryd.ntmps15
  go_wp2_with fail
  go_loopw [4, 5] (fun vn vi wr => ∃ (k : Nat) (a : Int), vn = .int .u64 a ∧ vi = .int .i64 k ∧ 2 ≤ k ∧ k ≤ 18 ∧ Hid ((t.take (k - 2)).all hexB = true ∧ a = (hexN (t.take (k - 2)) : Nat)) ∧ w = wr) (fun _ vi _ => 18 - (intOf vi).toNat)
  case atStart => exact ⟨2, 0, rfl, rfl, by omega, by omega, Lib.hid ⟨rfl, rfl⟩, rfl⟩
  case round =>
    obtain ⟨k, a, rfl, rfl, hk2, hk18, HA, hw⟩ := hrel
    subst hw
    by_cases hlt : k < 18
    · have p1 : (k : Int) < 18 := by omega
      have hks : k < s.size := by omega
      have hb := bAt_in hks
      obtain ⟨c, hc⟩ : ∃ c, c = bAt s k := ⟨_, rfl⟩
      rw [← hc] at hb
      have hkt : k - 2 < t.length := by omega
      have HC := Lib.hid (show ∃ h : k - 2 < t.length, t[k - 2] = c from ⟨hkt, by rw [HT.out _ hkt, show k - 2 + 2 = k by omega, hc]⟩)
      have HKT := Lib.hid hkt
      clear hc hkt
      cases hx : hexB c with
      | true =>
        obtain ⟨v, hv⟩ : ∃ v, v = hexV c := ⟨_, rfl⟩
        have hv16 : v < 16 := by rw [hv]; exact hexV_lt hx
        have HI := Lib.hid (show hexI c = (v : Int) by unfold hexI; rw [hx, hv]; rfl)
        have HN := Lib.hid (show (t.take (k + 1 - 2)).all hexB = true ∧ a * 16 + (v : Int) = (hexN (t.take (k + 1 - 2)) : Nat) by
          rw [show k + 1 - 2 = k - 2 + 1 by omega]
          obtain ⟨hkt, hce⟩ := HC.out
          refine ⟨hex_take HA.out.1 hkt (by rw [hce]; exact hx), ?_⟩
          rw [hexN_step hkt, hce, ← hv, HA.out.2]
          omega)
        obtain ⟨n, hn⟩ : ∃ n, n = hexN (t.take (k - 2)) := ⟨_, rfl⟩
        have hn60 : n < 1152921504606846976 := by rw [hn]; exact hexN_small HA.out.1 (by omega)
        have han : a = (n : Int) := by rw [hn]; exact HA.out.2
        have ewa : IntKind.u64.wrap (a * 16) = a * 16 := by rw [IntKind.wrap_u64]; omega
        have hor : bits .or .u64 (a * 16) (v : Int) = a * 16 + (v : Int) := by rw [han]; exact or_low hn60 hv16
        have ewv : IntKind.u64.wrap (v : Int) = (v : Int) := by rw [IntKind.wrap_u64]; omega
        have q0 : ¬ (v : Int) < 0 := by omega
        have ewk : IntKind.i64.wrap ((k : Int) + 1) = (k : Int) + 1 := IntWalk.i64_in _ (by omega)
        clear hv hn han hx hn60
        go_wp2_with fail
        refine (hex_any c _).mono ?_
        rintro e w1 ⟨rfl, rfl⟩
        rw [HI.out]
        go_wp2_with fail
        go_roundw
        case rel => exact ⟨k + 1, _, rfl, by go_num, by omega, by omega, HN, by first | rfl | trivial⟩
        case measure => simp [intOf]; omega
      | false =>
        have HI := Lib.hid (show hexI c = -1 by unfold hexI; rw [hx]; rfl)
        have HR := Lib.hid (show (0, false) = (r, ok) by
          rw [← HRES.out, if_neg]
          obtain ⟨hkt, hce⟩ := HC.out
          rw [not_all hkt (by rw [hce]; exact hx)]
          decide)
        clear hx
        go_wp2_with fail
        refine (hex_any c _).mono ?_
        rintro e w1 ⟨rfl, rfl⟩
        rw [HI.out]
        go_wp2_with fail
        go_ret2
        obtain ⟨rfl, rfl⟩ := Prod.mk.inj HR.out
        exact ⟨rfl, rfl⟩
    · obtain rfl : k = 18 := by omega
      have hA := HA.out
      rw [show 18 - 2 = 16 from rfl, List.take_of_length_le (by omega)] at hA
      have HR := Lib.hid (show (cleanB (hexN t), true) = (r, ok) by rw [← HRES.out, if_pos hA.1])
      have HAN := Lib.hid (show a.toNat = hexN t by rw [hA.2]; simp)
      clear hA
      go_wp2_with fail
      refine (clean_any _ _).mono ?_
      rintro e w1 ⟨rfl, rfl⟩
      go_wp2_with fail
      go_ret2
      obtain ⟨rfl, rfl⟩ := Prod.mk.inj HR.out
      exact ⟨by rw [HAN.out]; rfl, rfl⟩

set_option maxRecDepth 100000 in
set_option maxHeartbeats 16000000 in
theorem real_none_a (s : ByteArray) (r : Nat) (ok : Bool) (w : World) (hs : s.size ≤ 140737488351232) (hC : ¬ (s.size : Int) = 18) (hm : Lib.hasPrefix s.data.toList [45] = false) (hp : Lib.hasPrefix s.data.toList [43] = false) (hres : plainF false s.data.toList = (r, ok)) :
    Calls Tryd.prog 15 #[.string s] w (RealPost w (r, ok)) := by
  have hf := run_to
  have HM := Lib.hid hm; clear hm
  have HP := Lib.hid hp; clear hp
  obtain ⟨l, hl⟩ : ∃ l, l = s.data.toList := ⟨_, rfl⟩
  rw [← hl] at hres
  have HL := Lib.hid hl.symm
  have HLL := Lib.hid (show s.toList = l by rw [Lib.toList_data, hl])
  have HSZ := Lib.hid (show (s.size : Int) = (l.length : Int) by rw [hl, Lib.size_eq])
  have HSZ2 := Lib.hid (show s.size = l.length by rw [hl, Lib.size_eq])
  have HRES := Lib.hid hres
  clear hl hres
  by_cases t1 : l = [105, 110, 102]
  · have HR := Lib.hid (plain_inf false t1)
    have f1 : (s.toList == [105, 110, 102]) = true := by rw [HLL.out, t1]; rfl
    have ho : bits .or .u64 9218868437227405312 0 = 9218868437227405312 := by decide +kernel
    clear t1
    go_enter Tryd.func15, Tryd.ntmps15
    go_wp2_with fail
    refine (begins_any s _ _).mono ?_
    rintro e w1 ⟨rfl, rfl⟩
    rw [show (⟨#[45]⟩ : ByteArray).data.toList = [45] from rfl, HM.out]
    go_wp2_with fail
    refine (begins_any s _ _).mono ?_
    rintro e w1 ⟨rfl, rfl⟩
    rw [show (⟨#[43]⟩ : ByteArray).data.toList = [43] from rfl, HP.out]
    go_wp2_with fail
    go_ret2
    obtain ⟨rfl, rfl⟩ := Prod.mk.inj (HRES.out.symm.trans HR.out)
    exact ⟨rfl, rfl⟩
  have f1 : (s.toList == [105, 110, 102]) = false := by rw [HLL.out]; exact beq_eq_false_iff_ne.2 t1
  by_cases t2 : l = [110, 97, 110]
  · have HR := Lib.hid (plain_nan false t2)
    have f2 : (s.toList == [110, 97, 110]) = true := by rw [HLL.out, t2]; rfl
    clear t1 t2
    go_enter Tryd.func15, Tryd.ntmps15
    go_wp2_with fail
    refine (begins_any s _ _).mono ?_
    rintro e w1 ⟨rfl, rfl⟩
    rw [show (⟨#[45]⟩ : ByteArray).data.toList = [45] from rfl, HM.out]
    go_wp2_with fail
    refine (begins_any s _ _).mono ?_
    rintro e w1 ⟨rfl, rfl⟩
    rw [show (⟨#[43]⟩ : ByteArray).data.toList = [43] from rfl, HP.out]
    go_wp2_with fail
    go_ret2
    obtain ⟨rfl, rfl⟩ := Prod.mk.inj (HRES.out.symm.trans HR.out)
    exact ⟨rfl, rfl⟩
  have f2 : (s.toList == [110, 97, 110]) = false := by rw [HLL.out]; exact beq_eq_false_iff_ne.2 t2
  by_cases t3 : l = []
  · have HR := Lib.hid (plain_bad false t1 t2 (Or.inl t3))
    have f3 : (s.size : Int) < 1 := by rw [HSZ.out, t3]; decide
    clear t1 t2 t3
    go_enter Tryd.func15, Tryd.ntmps15
    go_wp2_with fail
    refine (begins_any s _ _).mono ?_
    rintro e w1 ⟨rfl, rfl⟩
    rw [show (⟨#[45]⟩ : ByteArray).data.toList = [45] from rfl, HM.out]
    go_wp2_with fail
    refine (begins_any s _ _).mono ?_
    rintro e w1 ⟨rfl, rfl⟩
    rw [show (⟨#[43]⟩ : ByteArray).data.toList = [43] from rfl, HP.out]
    go_wp2_with fail
    go_ret2
    obtain ⟨rfl, rfl⟩ := Prod.mk.inj (HRES.out.symm.trans HR.out)
    exact ⟨rfl, rfl⟩
  have f3 : ¬ (s.size : Int) < 1 := by rw [HSZ.out]; have := List.length_pos_iff.2 t3; omega
  by_cases t4 : 15 < l.length
  · have HR := Lib.hid (plain_bad false t1 t2 (Or.inr (Or.inl t4)))
    have f4 : (15 : Int) < (s.size : Int) := by rw [HSZ.out]; omega
    clear t1 t2 t3 t4
    go_enter Tryd.func15, Tryd.ntmps15
    go_wp2_with fail
    refine (begins_any s _ _).mono ?_
    rintro e w1 ⟨rfl, rfl⟩
    rw [show (⟨#[45]⟩ : ByteArray).data.toList = [45] from rfl, HM.out]
    go_wp2_with fail
    refine (begins_any s _ _).mono ?_
    rintro e w1 ⟨rfl, rfl⟩
    rw [show (⟨#[43]⟩ : ByteArray).data.toList = [43] from rfl, HP.out]
    go_wp2_with fail
    go_ret2
    obtain ⟨rfl, rfl⟩ := Prod.mk.inj (HRES.out.symm.trans HR.out)
    exact ⟨rfl, rfl⟩
  have f4 : ¬ (15 : Int) < (s.size : Int) := by rw [HSZ.out]; omega
  have f5 : s.size ≤ 15 := by omega
  have HBAD := Lib.hid (show l.all digB = false → (0, false) = (r, ok) from fun t5 => by rw [← HRES.out, plain_bad false t1 t2 (Or.inr (Or.inr t5))])
  have HDIG := Lib.hid (show l.all digB = true → (floatOfInt .f64 (decN l) + 0, true) = (r, ok) from fun t6 => by rw [← HRES.out, plain_dig false t1 t2 t3 t4 t6]; rfl)
  have HFB := Lib.hid (show l.all digB = true → FI (decN l) < 9218868437227405312 from fun t6 => (FI_all (Nat.lt_trans (decN_15 t6 (by omega)) (by decide))).1)
  clear t1 t2 t3 t4 f4
  go_enter Tryd.func15, Tryd.ntmps15
  go_wp2_with fail
  refine (begins_any s _ _).mono ?_
  rintro e w1 ⟨rfl, rfl⟩
  rw [show (⟨#[45]⟩ : ByteArray).data.toList = [45] from rfl, HM.out]
  go_wp2_with fail
  refine (begins_any s _ _).mono ?_
  rintro e w1 ⟨rfl, rfl⟩
  rw [show (⟨#[43]⟩ : ByteArray).data.toList = [43] from rfl, HP.out]
  go_wp2_with fail
  go_loopw [9, 10] (fun vn vi wr => ∃ (k : Nat) (a : Int), vn = .int .i64 a ∧ vi = .int .i64 k ∧ k ≤ s.size ∧ Hid ((l.take k).all digB = true ∧ a = (decN (l.take k) : Nat)) ∧ w = wr) (fun _ vi _ => s.size - (intOf vi).toNat)
  case atStart => exact ⟨0, 0, rfl, rfl, by omega, Lib.hid ⟨rfl, rfl⟩, rfl⟩
  case round =>
    obtain ⟨k, a, rfl, rfl, hk, HA, hw⟩ := hrel
    subst hw
    by_cases hlt : k < s.size
    · have p1 : (k : Int) < (s.size : Int) := by omega
      have hb := bAt_in hlt
      obtain ⟨c, hc⟩ : ∃ c, c = bAt s k := ⟨_, rfl⟩
      rw [← hc] at hb
      have hkt : k < l.length := by rw [← HSZ2.out]; exact hlt
      have HC := Lib.hid (show ∃ h : k < l.length, l[k] = c from ⟨hkt, by
        rw [hc]
        unfold bAt
        rw [HL.out, List.getD_eq_getElem?_getD, List.getElem?_eq_getElem hkt]; rfl⟩)
      have HKT := Lib.hid hkt
      have hc256 := c.toNat_lt
      clear hc hkt
      by_cases c1 : c.toNat < 48
      · have HR := Lib.hid (HBAD.out (by obtain ⟨hkt, hce⟩ := HC.out; exact not_all hkt (by rw [hce]; simp [digB]; omega)))
        have q1 : (c.toNat : Int) < 48 := by omega
        clear c1
        go_wp2_with fail
        go_ret2
        obtain ⟨rfl, rfl⟩ := Prod.mk.inj HR.out
        exact ⟨rfl, rfl⟩
      · have q1 : ¬ (c.toNat : Int) < 48 := by omega
        by_cases c2 : 57 < c.toNat
        · have HR := Lib.hid (HBAD.out (by obtain ⟨hkt, hce⟩ := HC.out; exact not_all hkt (by rw [hce]; simp [digB]; omega)))
          have q2 : (57 : Int) < (c.toNat : Int) := by omega
          clear c1 c2
          go_wp2_with fail
          go_ret2
          obtain ⟨rfl, rfl⟩ := Prod.mk.inj HR.out
          exact ⟨rfl, rfl⟩
        · have q2 : ¬ (57 : Int) < (c.toNat : Int) := by omega
          have HN := Lib.hid (show (l.take (k + 1)).all digB = true ∧ a * 10 + (c.toNat : Int) - 48 = (decN (l.take (k + 1)) : Nat) by
            obtain ⟨hkt, hce⟩ := HC.out
            refine ⟨dig_take HA.out.1 hkt (by rw [hce]; simp [digB]; omega), ?_⟩
            rw [decN_step hkt, hce, HA.out.2]
            omega)
          have hbd := decN_small HA.out.1 (show k ≤ 15 by omega)
          have b0 : 0 ≤ a := by rw [HA.out.2]; omega
          have b1 : a < 1000000000000000 := by rw [HA.out.2]; omega
          have ew1 : IntKind.i64.wrap (a * 10) = a * 10 := IntWalk.i64_in _ (by omega)
          have ew2 : IntKind.i64.wrap (a * 10 + (c.toNat : Int)) = a * 10 + (c.toNat : Int) := IntWalk.i64_in _ (by omega)
          have ew3 : IntKind.i64.wrap (a * 10 + (c.toNat : Int) - 48) = a * 10 + (c.toNat : Int) - 48 := IntWalk.i64_in _ (by omega)
          have ewk : IntKind.i64.wrap ((k : Int) + 1) = (k : Int) + 1 := IntWalk.i64_in _ (by omega)
          clear c1 c2 hbd
          go_wp2_with fail
          go_roundw
          case rel => exact ⟨k + 1, _, rfl, by go_num, by omega, HN, by first | rfl | trivial⟩
          case measure => simp [intOf]; omega
    · obtain rfl : k = s.size := by omega
      have p1 : ¬ (s.size : Int) < (s.size : Int) := by omega
      have hA := HA.out
      rw [List.take_of_length_le (by rw [HSZ2.out]; exact Nat.le_refl _)] at hA
      have HR := Lib.hid (HDIG.out hA.1)
      obtain ⟨F, hF⟩ : ∃ F, F = floatOfInt .f64 a := ⟨_, rfl⟩
      have HF := Lib.hid (show floatOfInt .f64 a = F from hF.symm)
      have HF2 := Lib.hid (show F = floatOfInt .f64 (decN l) by rw [hF, hA.2])
      have hFb : F < 9218868437227405312 := by rw [HF2.out]; exact HFB.out hA.1
      have ho : bits .or .u64 (F : Int) 0 = ((F + 0 : Nat) : Int) := by
        rw [show (0 : Int) = ((0 : Nat) : Int) by rfl, or_u64 F 0 (by omega) (by omega) (by rw [Nat.or_zero]; omega), Nat.or_zero, Nat.add_zero]
      obtain ⟨FT, hFT⟩ : ∃ FT, FT = F + 0 := ⟨_, rfl⟩
      rw [← hFT] at ho
      have HO := Lib.hid ho
      have HFT := Lib.hid (show (FT, true) = (r, ok) by rw [← HR.out, hFT, HF2.out])
      clear hA hF hFT ho
      go_wp2_with (fail)
      rw [HF.out]
      go_wp2_with (fail)
      go_ret2
      obtain ⟨rfl, rfl⟩ := Prod.mk.inj HFT.out
      refine ⟨?_, rfl⟩
      show Ending.returned (.tuple #[.int .u64 (bits .or .u64 (F : Int) 0), .bool true]) = _
      rw [HO.out]
set_option maxRecDepth 100000 in
set_option maxHeartbeats 16000000 in
theorem real_none_b (s : ByteArray) (r : Nat) (ok : Bool) (w : World) (hs : s.size ≤ 140737488351232) (hC : (s.size : Int) = 18) (hC2 : ((s.extract 0 2).toList == [48, 120]) = false) (hm : Lib.hasPrefix s.data.toList [45] = false) (hp : Lib.hasPrefix s.data.toList [43] = false) (hres : plainF false s.data.toList = (r, ok)) :
    Calls Tryd.prog 15 #[.string s] w (RealPost w (r, ok)) := by
  have hf := run_to
  have HM := Lib.hid hm; clear hm
  have HP := Lib.hid hp; clear hp
  obtain ⟨l, hl⟩ : ∃ l, l = s.data.toList := ⟨_, rfl⟩
  rw [← hl] at hres
  have HL := Lib.hid hl.symm
  have HLL := Lib.hid (show s.toList = l by rw [Lib.toList_data, hl])
  have HSZ := Lib.hid (show (s.size : Int) = (l.length : Int) by rw [hl, Lib.size_eq])
  have HSZ2 := Lib.hid (show s.size = l.length by rw [hl, Lib.size_eq])
  have HRES := Lib.hid hres
  clear hl hres
  by_cases t1 : l = [105, 110, 102]
  · have HR := Lib.hid (plain_inf false t1)
    have f1 : (s.toList == [105, 110, 102]) = true := by rw [HLL.out, t1]; rfl
    have ho : bits .or .u64 9218868437227405312 0 = 9218868437227405312 := by decide +kernel
    clear t1
    go_enter Tryd.func15, Tryd.ntmps15
    go_wp2_with fail
    refine (begins_any s _ _).mono ?_
    rintro e w1 ⟨rfl, rfl⟩
    rw [show (⟨#[45]⟩ : ByteArray).data.toList = [45] from rfl, HM.out]
    go_wp2_with fail
    refine (begins_any s _ _).mono ?_
    rintro e w1 ⟨rfl, rfl⟩
    rw [show (⟨#[43]⟩ : ByteArray).data.toList = [43] from rfl, HP.out]
    go_wp2_with fail
    go_ret2
    obtain ⟨rfl, rfl⟩ := Prod.mk.inj (HRES.out.symm.trans HR.out)
    exact ⟨rfl, rfl⟩
  have f1 : (s.toList == [105, 110, 102]) = false := by rw [HLL.out]; exact beq_eq_false_iff_ne.2 t1
  by_cases t2 : l = [110, 97, 110]
  · have HR := Lib.hid (plain_nan false t2)
    have f2 : (s.toList == [110, 97, 110]) = true := by rw [HLL.out, t2]; rfl
    clear t1 t2
    go_enter Tryd.func15, Tryd.ntmps15
    go_wp2_with fail
    refine (begins_any s _ _).mono ?_
    rintro e w1 ⟨rfl, rfl⟩
    rw [show (⟨#[45]⟩ : ByteArray).data.toList = [45] from rfl, HM.out]
    go_wp2_with fail
    refine (begins_any s _ _).mono ?_
    rintro e w1 ⟨rfl, rfl⟩
    rw [show (⟨#[43]⟩ : ByteArray).data.toList = [43] from rfl, HP.out]
    go_wp2_with fail
    go_ret2
    obtain ⟨rfl, rfl⟩ := Prod.mk.inj (HRES.out.symm.trans HR.out)
    exact ⟨rfl, rfl⟩
  have f2 : (s.toList == [110, 97, 110]) = false := by rw [HLL.out]; exact beq_eq_false_iff_ne.2 t2
  by_cases t3 : l = []
  · have HR := Lib.hid (plain_bad false t1 t2 (Or.inl t3))
    have f3 : (s.size : Int) < 1 := by rw [HSZ.out, t3]; decide
    clear t1 t2 t3
    go_enter Tryd.func15, Tryd.ntmps15
    go_wp2_with fail
    refine (begins_any s _ _).mono ?_
    rintro e w1 ⟨rfl, rfl⟩
    rw [show (⟨#[45]⟩ : ByteArray).data.toList = [45] from rfl, HM.out]
    go_wp2_with fail
    refine (begins_any s _ _).mono ?_
    rintro e w1 ⟨rfl, rfl⟩
    rw [show (⟨#[43]⟩ : ByteArray).data.toList = [43] from rfl, HP.out]
    go_wp2_with fail
    go_ret2
    obtain ⟨rfl, rfl⟩ := Prod.mk.inj (HRES.out.symm.trans HR.out)
    exact ⟨rfl, rfl⟩
  have f3 : ¬ (s.size : Int) < 1 := by rw [HSZ.out]; have := List.length_pos_iff.2 t3; omega
  by_cases t4 : 15 < l.length
  · have HR := Lib.hid (plain_bad false t1 t2 (Or.inr (Or.inl t4)))
    have f4 : (15 : Int) < (s.size : Int) := by rw [HSZ.out]; omega
    clear t1 t2 t3 t4
    go_enter Tryd.func15, Tryd.ntmps15
    go_wp2_with fail
    refine (begins_any s _ _).mono ?_
    rintro e w1 ⟨rfl, rfl⟩
    rw [show (⟨#[45]⟩ : ByteArray).data.toList = [45] from rfl, HM.out]
    go_wp2_with fail
    refine (begins_any s _ _).mono ?_
    rintro e w1 ⟨rfl, rfl⟩
    rw [show (⟨#[43]⟩ : ByteArray).data.toList = [43] from rfl, HP.out]
    go_wp2_with fail
    go_ret2
    obtain ⟨rfl, rfl⟩ := Prod.mk.inj (HRES.out.symm.trans HR.out)
    exact ⟨rfl, rfl⟩
  have f4 : ¬ (15 : Int) < (s.size : Int) := by rw [HSZ.out]; omega
  have f5 : s.size ≤ 15 := by omega
  exact absurd hC (by omega)
set_option maxRecDepth 100000 in
set_option maxHeartbeats 16000000 in
theorem real_minus_a (s d : ByteArray) (r : Nat) (ok : Bool) (w : World) (hs : s.size ≤ 140737488351232) (hC : ¬ (s.size : Int) = 18) (hm : Lib.hasPrefix s.data.toList [45] = true) (h1 : 1 ≤ s.size) (hx : s.extract 1 s.size = d) (hd : d.size ≤ 140737488351232) (hres : plainF true d.data.toList = (r, ok)) :
    Calls Tryd.prog 15 #[.string s] w (RealPost w (r, ok)) := by
  have hf := run_to
  have HM := Lib.hid hm; clear hm
  have HXX := Lib.hid hx; clear hx
  obtain ⟨l, hl⟩ : ∃ l, l = d.data.toList := ⟨_, rfl⟩
  rw [← hl] at hres
  have HL := Lib.hid hl.symm
  have HLL := Lib.hid (show d.toList = l by rw [Lib.toList_data, hl])
  have HSZ := Lib.hid (show (d.size : Int) = (l.length : Int) by rw [hl, Lib.size_eq])
  have HSZ2 := Lib.hid (show d.size = l.length by rw [hl, Lib.size_eq])
  have HRES := Lib.hid hres
  clear hl hres
  by_cases t1 : l = [105, 110, 102]
  · have HR := Lib.hid (plain_inf true t1)
    have f1 : (d.toList == [105, 110, 102]) = true := by rw [HLL.out, t1]; rfl
    have ho : bits .or .u64 9218868437227405312 9223372036854775808 = 18442240474082181120 := by decide +kernel
    clear t1
    go_enter Tryd.func15, Tryd.ntmps15
    go_wp2_with fail
    refine (begins_any s _ _).mono ?_
    rintro e w1 ⟨rfl, rfl⟩
    rw [show (⟨#[45]⟩ : ByteArray).data.toList = [45] from rfl, HM.out]
    go_upto_region 14 with (fail)
    rw [HXX.out]
    go_wp2_with fail
    go_ret2
    obtain ⟨rfl, rfl⟩ := Prod.mk.inj (HRES.out.symm.trans HR.out)
    exact ⟨rfl, rfl⟩
  have f1 : (d.toList == [105, 110, 102]) = false := by rw [HLL.out]; exact beq_eq_false_iff_ne.2 t1
  by_cases t2 : l = [110, 97, 110]
  · have HR := Lib.hid (plain_nan true t2)
    have f2 : (d.toList == [110, 97, 110]) = true := by rw [HLL.out, t2]; rfl
    clear t1 t2
    go_enter Tryd.func15, Tryd.ntmps15
    go_wp2_with fail
    refine (begins_any s _ _).mono ?_
    rintro e w1 ⟨rfl, rfl⟩
    rw [show (⟨#[45]⟩ : ByteArray).data.toList = [45] from rfl, HM.out]
    go_upto_region 14 with (fail)
    rw [HXX.out]
    go_wp2_with fail
    go_ret2
    obtain ⟨rfl, rfl⟩ := Prod.mk.inj (HRES.out.symm.trans HR.out)
    exact ⟨rfl, rfl⟩
  have f2 : (d.toList == [110, 97, 110]) = false := by rw [HLL.out]; exact beq_eq_false_iff_ne.2 t2
  by_cases t3 : l = []
  · have HR := Lib.hid (plain_bad true t1 t2 (Or.inl t3))
    have f3 : (d.size : Int) < 1 := by rw [HSZ.out, t3]; decide
    clear t1 t2 t3
    go_enter Tryd.func15, Tryd.ntmps15
    go_wp2_with fail
    refine (begins_any s _ _).mono ?_
    rintro e w1 ⟨rfl, rfl⟩
    rw [show (⟨#[45]⟩ : ByteArray).data.toList = [45] from rfl, HM.out]
    go_upto_region 14 with (fail)
    rw [HXX.out]
    go_wp2_with fail
    go_ret2
    obtain ⟨rfl, rfl⟩ := Prod.mk.inj (HRES.out.symm.trans HR.out)
    exact ⟨rfl, rfl⟩
  have f3 : ¬ (d.size : Int) < 1 := by rw [HSZ.out]; have := List.length_pos_iff.2 t3; omega
  by_cases t4 : 15 < l.length
  · have HR := Lib.hid (plain_bad true t1 t2 (Or.inr (Or.inl t4)))
    have f4 : (15 : Int) < (d.size : Int) := by rw [HSZ.out]; omega
    clear t1 t2 t3 t4
    go_enter Tryd.func15, Tryd.ntmps15
    go_wp2_with fail
    refine (begins_any s _ _).mono ?_
    rintro e w1 ⟨rfl, rfl⟩
    rw [show (⟨#[45]⟩ : ByteArray).data.toList = [45] from rfl, HM.out]
    go_upto_region 14 with (fail)
    rw [HXX.out]
    go_wp2_with fail
    go_ret2
    obtain ⟨rfl, rfl⟩ := Prod.mk.inj (HRES.out.symm.trans HR.out)
    exact ⟨rfl, rfl⟩
  have f4 : ¬ (15 : Int) < (d.size : Int) := by rw [HSZ.out]; omega
  have f5 : d.size ≤ 15 := by omega
  have HBAD := Lib.hid (show l.all digB = false → (0, false) = (r, ok) from fun t5 => by rw [← HRES.out, plain_bad true t1 t2 (Or.inr (Or.inr t5))])
  have HDIG := Lib.hid (show l.all digB = true → (floatOfInt .f64 (decN l) + 9223372036854775808, true) = (r, ok) from fun t6 => by rw [← HRES.out, plain_dig true t1 t2 t3 t4 t6]; rfl)
  have HFB := Lib.hid (show l.all digB = true → FI (decN l) < 9218868437227405312 from fun t6 => (FI_all (Nat.lt_trans (decN_15 t6 (by omega)) (by decide))).1)
  clear t1 t2 t3 t4 f4
  go_enter Tryd.func15, Tryd.ntmps15
  go_wp2_with fail
  refine (begins_any s _ _).mono ?_
  rintro e w1 ⟨rfl, rfl⟩
  rw [show (⟨#[45]⟩ : ByteArray).data.toList = [45] from rfl, HM.out]
  go_upto_region 14 with (fail)
  rw [HXX.out]
  go_wp2_with fail
  go_loopw [9, 10] (fun vn vi wr => ∃ (k : Nat) (a : Int), vn = .int .i64 a ∧ vi = .int .i64 k ∧ k ≤ d.size ∧ Hid ((l.take k).all digB = true ∧ a = (decN (l.take k) : Nat)) ∧ w = wr) (fun _ vi _ => d.size - (intOf vi).toNat)
  case atStart => exact ⟨0, 0, rfl, rfl, by omega, Lib.hid ⟨rfl, rfl⟩, rfl⟩
  case round =>
    obtain ⟨k, a, rfl, rfl, hk, HA, hw⟩ := hrel
    subst hw
    by_cases hlt : k < d.size
    · have p1 : (k : Int) < (d.size : Int) := by omega
      have hb := bAt_in hlt
      obtain ⟨c, hc⟩ : ∃ c, c = bAt d k := ⟨_, rfl⟩
      rw [← hc] at hb
      have hkt : k < l.length := by rw [← HSZ2.out]; exact hlt
      have HC := Lib.hid (show ∃ h : k < l.length, l[k] = c from ⟨hkt, by
        rw [hc]
        unfold bAt
        rw [HL.out, List.getD_eq_getElem?_getD, List.getElem?_eq_getElem hkt]; rfl⟩)
      have HKT := Lib.hid hkt
      have hc256 := c.toNat_lt
      clear hc hkt
      by_cases c1 : c.toNat < 48
      · have HR := Lib.hid (HBAD.out (by obtain ⟨hkt, hce⟩ := HC.out; exact not_all hkt (by rw [hce]; simp [digB]; omega)))
        have q1 : (c.toNat : Int) < 48 := by omega
        clear c1
        go_wp2_with fail
        go_ret2
        obtain ⟨rfl, rfl⟩ := Prod.mk.inj HR.out
        exact ⟨rfl, rfl⟩
      · have q1 : ¬ (c.toNat : Int) < 48 := by omega
        by_cases c2 : 57 < c.toNat
        · have HR := Lib.hid (HBAD.out (by obtain ⟨hkt, hce⟩ := HC.out; exact not_all hkt (by rw [hce]; simp [digB]; omega)))
          have q2 : (57 : Int) < (c.toNat : Int) := by omega
          clear c1 c2
          go_wp2_with fail
          go_ret2
          obtain ⟨rfl, rfl⟩ := Prod.mk.inj HR.out
          exact ⟨rfl, rfl⟩
        · have q2 : ¬ (57 : Int) < (c.toNat : Int) := by omega
          have HN := Lib.hid (show (l.take (k + 1)).all digB = true ∧ a * 10 + (c.toNat : Int) - 48 = (decN (l.take (k + 1)) : Nat) by
            obtain ⟨hkt, hce⟩ := HC.out
            refine ⟨dig_take HA.out.1 hkt (by rw [hce]; simp [digB]; omega), ?_⟩
            rw [decN_step hkt, hce, HA.out.2]
            omega)
          have hbd := decN_small HA.out.1 (show k ≤ 15 by omega)
          have b0 : 0 ≤ a := by rw [HA.out.2]; omega
          have b1 : a < 1000000000000000 := by rw [HA.out.2]; omega
          have ew1 : IntKind.i64.wrap (a * 10) = a * 10 := IntWalk.i64_in _ (by omega)
          have ew2 : IntKind.i64.wrap (a * 10 + (c.toNat : Int)) = a * 10 + (c.toNat : Int) := IntWalk.i64_in _ (by omega)
          have ew3 : IntKind.i64.wrap (a * 10 + (c.toNat : Int) - 48) = a * 10 + (c.toNat : Int) - 48 := IntWalk.i64_in _ (by omega)
          have ewk : IntKind.i64.wrap ((k : Int) + 1) = (k : Int) + 1 := IntWalk.i64_in _ (by omega)
          clear c1 c2 hbd
          go_wp2_with fail
          go_roundw
          case rel => exact ⟨k + 1, _, rfl, by go_num, by omega, HN, by first | rfl | trivial⟩
          case measure => simp [intOf]; omega
    · obtain rfl : k = d.size := by omega
      have p1 : ¬ (d.size : Int) < (d.size : Int) := by omega
      have hA := HA.out
      rw [List.take_of_length_le (by rw [HSZ2.out]; exact Nat.le_refl _)] at hA
      have HR := Lib.hid (HDIG.out hA.1)
      obtain ⟨F, hF⟩ : ∃ F, F = floatOfInt .f64 a := ⟨_, rfl⟩
      have HF := Lib.hid (show floatOfInt .f64 a = F from hF.symm)
      have HF2 := Lib.hid (show F = floatOfInt .f64 (decN l) by rw [hF, hA.2])
      have hFb : F < 9218868437227405312 := by rw [HF2.out]; exact HFB.out hA.1
      have ho : bits .or .u64 (F : Int) 9223372036854775808 = ((F + 9223372036854775808 : Nat) : Int) := by
        rw [show (9223372036854775808 : Int) = ((9223372036854775808 : Nat) : Int) by rfl, or_u64 F 9223372036854775808 (by omega) (by omega) (by rw [or_top F (by omega)]; omega), or_top F (by omega)]
      obtain ⟨FT, hFT⟩ : ∃ FT, FT = F + 9223372036854775808 := ⟨_, rfl⟩
      rw [← hFT] at ho
      have HO := Lib.hid ho
      have HFT := Lib.hid (show (FT, true) = (r, ok) by rw [← HR.out, hFT, HF2.out])
      clear hA hF hFT ho
      go_wp2_with (fail)
      rw [HF.out]
      go_wp2_with (fail)
      go_ret2
      obtain ⟨rfl, rfl⟩ := Prod.mk.inj HFT.out
      refine ⟨?_, rfl⟩
      show Ending.returned (.tuple #[.int .u64 (bits .or .u64 (F : Int) 9223372036854775808), .bool true]) = _
      rw [HO.out]
set_option maxRecDepth 100000 in
set_option maxHeartbeats 16000000 in
theorem real_minus_b (s d : ByteArray) (r : Nat) (ok : Bool) (w : World) (hs : s.size ≤ 140737488351232) (hC : (s.size : Int) = 18) (hC2 : ((s.extract 0 2).toList == [48, 120]) = false) (hm : Lib.hasPrefix s.data.toList [45] = true) (h1 : 1 ≤ s.size) (hx : s.extract 1 s.size = d) (hd : d.size ≤ 140737488351232) (hres : plainF true d.data.toList = (r, ok)) :
    Calls Tryd.prog 15 #[.string s] w (RealPost w (r, ok)) := by
  have hf := run_to
  have HM := Lib.hid hm; clear hm
  have HXX := Lib.hid hx; clear hx
  obtain ⟨l, hl⟩ : ∃ l, l = d.data.toList := ⟨_, rfl⟩
  rw [← hl] at hres
  have HL := Lib.hid hl.symm
  have HLL := Lib.hid (show d.toList = l by rw [Lib.toList_data, hl])
  have HSZ := Lib.hid (show (d.size : Int) = (l.length : Int) by rw [hl, Lib.size_eq])
  have HSZ2 := Lib.hid (show d.size = l.length by rw [hl, Lib.size_eq])
  have HRES := Lib.hid hres
  clear hl hres
  by_cases t1 : l = [105, 110, 102]
  · have HR := Lib.hid (plain_inf true t1)
    have f1 : (d.toList == [105, 110, 102]) = true := by rw [HLL.out, t1]; rfl
    have ho : bits .or .u64 9218868437227405312 9223372036854775808 = 18442240474082181120 := by decide +kernel
    clear t1
    go_enter Tryd.func15, Tryd.ntmps15
    go_wp2_with fail
    refine (begins_any s _ _).mono ?_
    rintro e w1 ⟨rfl, rfl⟩
    rw [show (⟨#[45]⟩ : ByteArray).data.toList = [45] from rfl, HM.out]
    go_upto_region 14 with (fail)
    rw [HXX.out]
    go_wp2_with fail
    go_ret2
    obtain ⟨rfl, rfl⟩ := Prod.mk.inj (HRES.out.symm.trans HR.out)
    exact ⟨rfl, rfl⟩
  have f1 : (d.toList == [105, 110, 102]) = false := by rw [HLL.out]; exact beq_eq_false_iff_ne.2 t1
  by_cases t2 : l = [110, 97, 110]
  · have HR := Lib.hid (plain_nan true t2)
    have f2 : (d.toList == [110, 97, 110]) = true := by rw [HLL.out, t2]; rfl
    clear t1 t2
    go_enter Tryd.func15, Tryd.ntmps15
    go_wp2_with fail
    refine (begins_any s _ _).mono ?_
    rintro e w1 ⟨rfl, rfl⟩
    rw [show (⟨#[45]⟩ : ByteArray).data.toList = [45] from rfl, HM.out]
    go_upto_region 14 with (fail)
    rw [HXX.out]
    go_wp2_with fail
    go_ret2
    obtain ⟨rfl, rfl⟩ := Prod.mk.inj (HRES.out.symm.trans HR.out)
    exact ⟨rfl, rfl⟩
  have f2 : (d.toList == [110, 97, 110]) = false := by rw [HLL.out]; exact beq_eq_false_iff_ne.2 t2
  by_cases t3 : l = []
  · have HR := Lib.hid (plain_bad true t1 t2 (Or.inl t3))
    have f3 : (d.size : Int) < 1 := by rw [HSZ.out, t3]; decide
    clear t1 t2 t3
    go_enter Tryd.func15, Tryd.ntmps15
    go_wp2_with fail
    refine (begins_any s _ _).mono ?_
    rintro e w1 ⟨rfl, rfl⟩
    rw [show (⟨#[45]⟩ : ByteArray).data.toList = [45] from rfl, HM.out]
    go_upto_region 14 with (fail)
    rw [HXX.out]
    go_wp2_with fail
    go_ret2
    obtain ⟨rfl, rfl⟩ := Prod.mk.inj (HRES.out.symm.trans HR.out)
    exact ⟨rfl, rfl⟩
  have f3 : ¬ (d.size : Int) < 1 := by rw [HSZ.out]; have := List.length_pos_iff.2 t3; omega
  by_cases t4 : 15 < l.length
  · have HR := Lib.hid (plain_bad true t1 t2 (Or.inr (Or.inl t4)))
    have f4 : (15 : Int) < (d.size : Int) := by rw [HSZ.out]; omega
    clear t1 t2 t3 t4
    go_enter Tryd.func15, Tryd.ntmps15
    go_wp2_with fail
    refine (begins_any s _ _).mono ?_
    rintro e w1 ⟨rfl, rfl⟩
    rw [show (⟨#[45]⟩ : ByteArray).data.toList = [45] from rfl, HM.out]
    go_upto_region 14 with (fail)
    rw [HXX.out]
    go_wp2_with fail
    go_ret2
    obtain ⟨rfl, rfl⟩ := Prod.mk.inj (HRES.out.symm.trans HR.out)
    exact ⟨rfl, rfl⟩
  have f4 : ¬ (15 : Int) < (d.size : Int) := by rw [HSZ.out]; omega
  have f5 : d.size ≤ 15 := by omega
  have HBAD := Lib.hid (show l.all digB = false → (0, false) = (r, ok) from fun t5 => by rw [← HRES.out, plain_bad true t1 t2 (Or.inr (Or.inr t5))])
  have HDIG := Lib.hid (show l.all digB = true → (floatOfInt .f64 (decN l) + 9223372036854775808, true) = (r, ok) from fun t6 => by rw [← HRES.out, plain_dig true t1 t2 t3 t4 t6]; rfl)
  have HFB := Lib.hid (show l.all digB = true → FI (decN l) < 9218868437227405312 from fun t6 => (FI_all (Nat.lt_trans (decN_15 t6 (by omega)) (by decide))).1)
  clear t1 t2 t3 t4 f4
  go_enter Tryd.func15, Tryd.ntmps15
  go_wp2_with fail
  refine (begins_any s _ _).mono ?_
  rintro e w1 ⟨rfl, rfl⟩
  rw [show (⟨#[45]⟩ : ByteArray).data.toList = [45] from rfl, HM.out]
  go_upto_region 14 with (fail)
  rw [HXX.out]
  go_wp2_with fail
  go_loopw [9, 10] (fun vn vi wr => ∃ (k : Nat) (a : Int), vn = .int .i64 a ∧ vi = .int .i64 k ∧ k ≤ d.size ∧ Hid ((l.take k).all digB = true ∧ a = (decN (l.take k) : Nat)) ∧ w = wr) (fun _ vi _ => d.size - (intOf vi).toNat)
  case atStart => exact ⟨0, 0, rfl, rfl, by omega, Lib.hid ⟨rfl, rfl⟩, rfl⟩
  case round =>
    obtain ⟨k, a, rfl, rfl, hk, HA, hw⟩ := hrel
    subst hw
    by_cases hlt : k < d.size
    · have p1 : (k : Int) < (d.size : Int) := by omega
      have hb := bAt_in hlt
      obtain ⟨c, hc⟩ : ∃ c, c = bAt d k := ⟨_, rfl⟩
      rw [← hc] at hb
      have hkt : k < l.length := by rw [← HSZ2.out]; exact hlt
      have HC := Lib.hid (show ∃ h : k < l.length, l[k] = c from ⟨hkt, by
        rw [hc]
        unfold bAt
        rw [HL.out, List.getD_eq_getElem?_getD, List.getElem?_eq_getElem hkt]; rfl⟩)
      have HKT := Lib.hid hkt
      have hc256 := c.toNat_lt
      clear hc hkt
      by_cases c1 : c.toNat < 48
      · have HR := Lib.hid (HBAD.out (by obtain ⟨hkt, hce⟩ := HC.out; exact not_all hkt (by rw [hce]; simp [digB]; omega)))
        have q1 : (c.toNat : Int) < 48 := by omega
        clear c1
        go_wp2_with fail
        go_ret2
        obtain ⟨rfl, rfl⟩ := Prod.mk.inj HR.out
        exact ⟨rfl, rfl⟩
      · have q1 : ¬ (c.toNat : Int) < 48 := by omega
        by_cases c2 : 57 < c.toNat
        · have HR := Lib.hid (HBAD.out (by obtain ⟨hkt, hce⟩ := HC.out; exact not_all hkt (by rw [hce]; simp [digB]; omega)))
          have q2 : (57 : Int) < (c.toNat : Int) := by omega
          clear c1 c2
          go_wp2_with fail
          go_ret2
          obtain ⟨rfl, rfl⟩ := Prod.mk.inj HR.out
          exact ⟨rfl, rfl⟩
        · have q2 : ¬ (57 : Int) < (c.toNat : Int) := by omega
          have HN := Lib.hid (show (l.take (k + 1)).all digB = true ∧ a * 10 + (c.toNat : Int) - 48 = (decN (l.take (k + 1)) : Nat) by
            obtain ⟨hkt, hce⟩ := HC.out
            refine ⟨dig_take HA.out.1 hkt (by rw [hce]; simp [digB]; omega), ?_⟩
            rw [decN_step hkt, hce, HA.out.2]
            omega)
          have hbd := decN_small HA.out.1 (show k ≤ 15 by omega)
          have b0 : 0 ≤ a := by rw [HA.out.2]; omega
          have b1 : a < 1000000000000000 := by rw [HA.out.2]; omega
          have ew1 : IntKind.i64.wrap (a * 10) = a * 10 := IntWalk.i64_in _ (by omega)
          have ew2 : IntKind.i64.wrap (a * 10 + (c.toNat : Int)) = a * 10 + (c.toNat : Int) := IntWalk.i64_in _ (by omega)
          have ew3 : IntKind.i64.wrap (a * 10 + (c.toNat : Int) - 48) = a * 10 + (c.toNat : Int) - 48 := IntWalk.i64_in _ (by omega)
          have ewk : IntKind.i64.wrap ((k : Int) + 1) = (k : Int) + 1 := IntWalk.i64_in _ (by omega)
          clear c1 c2 hbd
          go_wp2_with fail
          go_roundw
          case rel => exact ⟨k + 1, _, rfl, by go_num, by omega, HN, by first | rfl | trivial⟩
          case measure => simp [intOf]; omega
    · obtain rfl : k = d.size := by omega
      have p1 : ¬ (d.size : Int) < (d.size : Int) := by omega
      have hA := HA.out
      rw [List.take_of_length_le (by rw [HSZ2.out]; exact Nat.le_refl _)] at hA
      have HR := Lib.hid (HDIG.out hA.1)
      obtain ⟨F, hF⟩ : ∃ F, F = floatOfInt .f64 a := ⟨_, rfl⟩
      have HF := Lib.hid (show floatOfInt .f64 a = F from hF.symm)
      have HF2 := Lib.hid (show F = floatOfInt .f64 (decN l) by rw [hF, hA.2])
      have hFb : F < 9218868437227405312 := by rw [HF2.out]; exact HFB.out hA.1
      have ho : bits .or .u64 (F : Int) 9223372036854775808 = ((F + 9223372036854775808 : Nat) : Int) := by
        rw [show (9223372036854775808 : Int) = ((9223372036854775808 : Nat) : Int) by rfl, or_u64 F 9223372036854775808 (by omega) (by omega) (by rw [or_top F (by omega)]; omega), or_top F (by omega)]
      obtain ⟨FT, hFT⟩ : ∃ FT, FT = F + 9223372036854775808 := ⟨_, rfl⟩
      rw [← hFT] at ho
      have HO := Lib.hid ho
      have HFT := Lib.hid (show (FT, true) = (r, ok) by rw [← HR.out, hFT, HF2.out])
      clear hA hF hFT ho
      go_wp2_with (fail)
      rw [HF.out]
      go_wp2_with (fail)
      go_ret2
      obtain ⟨rfl, rfl⟩ := Prod.mk.inj HFT.out
      refine ⟨?_, rfl⟩
      show Ending.returned (.tuple #[.int .u64 (bits .or .u64 (F : Int) 9223372036854775808), .bool true]) = _
      rw [HO.out]
set_option maxRecDepth 100000 in
set_option maxHeartbeats 16000000 in
theorem real_plus_a (s d : ByteArray) (r : Nat) (ok : Bool) (w : World) (hs : s.size ≤ 140737488351232) (hC : ¬ (s.size : Int) = 18) (hm : Lib.hasPrefix s.data.toList [45] = false) (hp : Lib.hasPrefix s.data.toList [43] = true) (h1 : 1 ≤ s.size) (hx : s.extract 1 s.size = d) (hd : d.size ≤ 140737488351232) (hres : plainF false d.data.toList = (r, ok)) :
    Calls Tryd.prog 15 #[.string s] w (RealPost w (r, ok)) := by
  have hf := run_to
  have HM := Lib.hid hm; clear hm
  have HP := Lib.hid hp; clear hp
  have HXX := Lib.hid hx; clear hx
  obtain ⟨l, hl⟩ : ∃ l, l = d.data.toList := ⟨_, rfl⟩
  rw [← hl] at hres
  have HL := Lib.hid hl.symm
  have HLL := Lib.hid (show d.toList = l by rw [Lib.toList_data, hl])
  have HSZ := Lib.hid (show (d.size : Int) = (l.length : Int) by rw [hl, Lib.size_eq])
  have HSZ2 := Lib.hid (show d.size = l.length by rw [hl, Lib.size_eq])
  have HRES := Lib.hid hres
  clear hl hres
  by_cases t1 : l = [105, 110, 102]
  · have HR := Lib.hid (plain_inf false t1)
    have f1 : (d.toList == [105, 110, 102]) = true := by rw [HLL.out, t1]; rfl
    have ho : bits .or .u64 9218868437227405312 0 = 9218868437227405312 := by decide +kernel
    clear t1
    go_enter Tryd.func15, Tryd.ntmps15
    go_wp2_with fail
    refine (begins_any s _ _).mono ?_
    rintro e w1 ⟨rfl, rfl⟩
    rw [show (⟨#[45]⟩ : ByteArray).data.toList = [45] from rfl, HM.out]
    go_wp2_with fail
    refine (begins_any s _ _).mono ?_
    rintro e w1 ⟨rfl, rfl⟩
    rw [show (⟨#[43]⟩ : ByteArray).data.toList = [43] from rfl, HP.out]
    go_upto_region 14 with (fail)
    rw [HXX.out]
    go_wp2_with fail
    go_ret2
    obtain ⟨rfl, rfl⟩ := Prod.mk.inj (HRES.out.symm.trans HR.out)
    exact ⟨rfl, rfl⟩
  have f1 : (d.toList == [105, 110, 102]) = false := by rw [HLL.out]; exact beq_eq_false_iff_ne.2 t1
  by_cases t2 : l = [110, 97, 110]
  · have HR := Lib.hid (plain_nan false t2)
    have f2 : (d.toList == [110, 97, 110]) = true := by rw [HLL.out, t2]; rfl
    clear t1 t2
    go_enter Tryd.func15, Tryd.ntmps15
    go_wp2_with fail
    refine (begins_any s _ _).mono ?_
    rintro e w1 ⟨rfl, rfl⟩
    rw [show (⟨#[45]⟩ : ByteArray).data.toList = [45] from rfl, HM.out]
    go_wp2_with fail
    refine (begins_any s _ _).mono ?_
    rintro e w1 ⟨rfl, rfl⟩
    rw [show (⟨#[43]⟩ : ByteArray).data.toList = [43] from rfl, HP.out]
    go_upto_region 14 with (fail)
    rw [HXX.out]
    go_wp2_with fail
    go_ret2
    obtain ⟨rfl, rfl⟩ := Prod.mk.inj (HRES.out.symm.trans HR.out)
    exact ⟨rfl, rfl⟩
  have f2 : (d.toList == [110, 97, 110]) = false := by rw [HLL.out]; exact beq_eq_false_iff_ne.2 t2
  by_cases t3 : l = []
  · have HR := Lib.hid (plain_bad false t1 t2 (Or.inl t3))
    have f3 : (d.size : Int) < 1 := by rw [HSZ.out, t3]; decide
    clear t1 t2 t3
    go_enter Tryd.func15, Tryd.ntmps15
    go_wp2_with fail
    refine (begins_any s _ _).mono ?_
    rintro e w1 ⟨rfl, rfl⟩
    rw [show (⟨#[45]⟩ : ByteArray).data.toList = [45] from rfl, HM.out]
    go_wp2_with fail
    refine (begins_any s _ _).mono ?_
    rintro e w1 ⟨rfl, rfl⟩
    rw [show (⟨#[43]⟩ : ByteArray).data.toList = [43] from rfl, HP.out]
    go_upto_region 14 with (fail)
    rw [HXX.out]
    go_wp2_with fail
    go_ret2
    obtain ⟨rfl, rfl⟩ := Prod.mk.inj (HRES.out.symm.trans HR.out)
    exact ⟨rfl, rfl⟩
  have f3 : ¬ (d.size : Int) < 1 := by rw [HSZ.out]; have := List.length_pos_iff.2 t3; omega
  by_cases t4 : 15 < l.length
  · have HR := Lib.hid (plain_bad false t1 t2 (Or.inr (Or.inl t4)))
    have f4 : (15 : Int) < (d.size : Int) := by rw [HSZ.out]; omega
    clear t1 t2 t3 t4
    go_enter Tryd.func15, Tryd.ntmps15
    go_wp2_with fail
    refine (begins_any s _ _).mono ?_
    rintro e w1 ⟨rfl, rfl⟩
    rw [show (⟨#[45]⟩ : ByteArray).data.toList = [45] from rfl, HM.out]
    go_wp2_with fail
    refine (begins_any s _ _).mono ?_
    rintro e w1 ⟨rfl, rfl⟩
    rw [show (⟨#[43]⟩ : ByteArray).data.toList = [43] from rfl, HP.out]
    go_upto_region 14 with (fail)
    rw [HXX.out]
    go_wp2_with fail
    go_ret2
    obtain ⟨rfl, rfl⟩ := Prod.mk.inj (HRES.out.symm.trans HR.out)
    exact ⟨rfl, rfl⟩
  have f4 : ¬ (15 : Int) < (d.size : Int) := by rw [HSZ.out]; omega
  have f5 : d.size ≤ 15 := by omega
  have HBAD := Lib.hid (show l.all digB = false → (0, false) = (r, ok) from fun t5 => by rw [← HRES.out, plain_bad false t1 t2 (Or.inr (Or.inr t5))])
  have HDIG := Lib.hid (show l.all digB = true → (floatOfInt .f64 (decN l) + 0, true) = (r, ok) from fun t6 => by rw [← HRES.out, plain_dig false t1 t2 t3 t4 t6]; rfl)
  have HFB := Lib.hid (show l.all digB = true → FI (decN l) < 9218868437227405312 from fun t6 => (FI_all (Nat.lt_trans (decN_15 t6 (by omega)) (by decide))).1)
  clear t1 t2 t3 t4 f4
  go_enter Tryd.func15, Tryd.ntmps15
  go_wp2_with fail
  refine (begins_any s _ _).mono ?_
  rintro e w1 ⟨rfl, rfl⟩
  rw [show (⟨#[45]⟩ : ByteArray).data.toList = [45] from rfl, HM.out]
  go_wp2_with fail
  refine (begins_any s _ _).mono ?_
  rintro e w1 ⟨rfl, rfl⟩
  rw [show (⟨#[43]⟩ : ByteArray).data.toList = [43] from rfl, HP.out]
  go_upto_region 14 with (fail)
  rw [HXX.out]
  go_wp2_with fail
  go_loopw [9, 10] (fun vn vi wr => ∃ (k : Nat) (a : Int), vn = .int .i64 a ∧ vi = .int .i64 k ∧ k ≤ d.size ∧ Hid ((l.take k).all digB = true ∧ a = (decN (l.take k) : Nat)) ∧ w = wr) (fun _ vi _ => d.size - (intOf vi).toNat)
  case atStart => exact ⟨0, 0, rfl, rfl, by omega, Lib.hid ⟨rfl, rfl⟩, rfl⟩
  case round =>
    obtain ⟨k, a, rfl, rfl, hk, HA, hw⟩ := hrel
    subst hw
    by_cases hlt : k < d.size
    · have p1 : (k : Int) < (d.size : Int) := by omega
      have hb := bAt_in hlt
      obtain ⟨c, hc⟩ : ∃ c, c = bAt d k := ⟨_, rfl⟩
      rw [← hc] at hb
      have hkt : k < l.length := by rw [← HSZ2.out]; exact hlt
      have HC := Lib.hid (show ∃ h : k < l.length, l[k] = c from ⟨hkt, by
        rw [hc]
        unfold bAt
        rw [HL.out, List.getD_eq_getElem?_getD, List.getElem?_eq_getElem hkt]; rfl⟩)
      have HKT := Lib.hid hkt
      have hc256 := c.toNat_lt
      clear hc hkt
      by_cases c1 : c.toNat < 48
      · have HR := Lib.hid (HBAD.out (by obtain ⟨hkt, hce⟩ := HC.out; exact not_all hkt (by rw [hce]; simp [digB]; omega)))
        have q1 : (c.toNat : Int) < 48 := by omega
        clear c1
        go_wp2_with fail
        go_ret2
        obtain ⟨rfl, rfl⟩ := Prod.mk.inj HR.out
        exact ⟨rfl, rfl⟩
      · have q1 : ¬ (c.toNat : Int) < 48 := by omega
        by_cases c2 : 57 < c.toNat
        · have HR := Lib.hid (HBAD.out (by obtain ⟨hkt, hce⟩ := HC.out; exact not_all hkt (by rw [hce]; simp [digB]; omega)))
          have q2 : (57 : Int) < (c.toNat : Int) := by omega
          clear c1 c2
          go_wp2_with fail
          go_ret2
          obtain ⟨rfl, rfl⟩ := Prod.mk.inj HR.out
          exact ⟨rfl, rfl⟩
        · have q2 : ¬ (57 : Int) < (c.toNat : Int) := by omega
          have HN := Lib.hid (show (l.take (k + 1)).all digB = true ∧ a * 10 + (c.toNat : Int) - 48 = (decN (l.take (k + 1)) : Nat) by
            obtain ⟨hkt, hce⟩ := HC.out
            refine ⟨dig_take HA.out.1 hkt (by rw [hce]; simp [digB]; omega), ?_⟩
            rw [decN_step hkt, hce, HA.out.2]
            omega)
          have hbd := decN_small HA.out.1 (show k ≤ 15 by omega)
          have b0 : 0 ≤ a := by rw [HA.out.2]; omega
          have b1 : a < 1000000000000000 := by rw [HA.out.2]; omega
          have ew1 : IntKind.i64.wrap (a * 10) = a * 10 := IntWalk.i64_in _ (by omega)
          have ew2 : IntKind.i64.wrap (a * 10 + (c.toNat : Int)) = a * 10 + (c.toNat : Int) := IntWalk.i64_in _ (by omega)
          have ew3 : IntKind.i64.wrap (a * 10 + (c.toNat : Int) - 48) = a * 10 + (c.toNat : Int) - 48 := IntWalk.i64_in _ (by omega)
          have ewk : IntKind.i64.wrap ((k : Int) + 1) = (k : Int) + 1 := IntWalk.i64_in _ (by omega)
          clear c1 c2 hbd
          go_wp2_with fail
          go_roundw
          case rel => exact ⟨k + 1, _, rfl, by go_num, by omega, HN, by first | rfl | trivial⟩
          case measure => simp [intOf]; omega
    · obtain rfl : k = d.size := by omega
      have p1 : ¬ (d.size : Int) < (d.size : Int) := by omega
      have hA := HA.out
      rw [List.take_of_length_le (by rw [HSZ2.out]; exact Nat.le_refl _)] at hA
      have HR := Lib.hid (HDIG.out hA.1)
      obtain ⟨F, hF⟩ : ∃ F, F = floatOfInt .f64 a := ⟨_, rfl⟩
      have HF := Lib.hid (show floatOfInt .f64 a = F from hF.symm)
      have HF2 := Lib.hid (show F = floatOfInt .f64 (decN l) by rw [hF, hA.2])
      have hFb : F < 9218868437227405312 := by rw [HF2.out]; exact HFB.out hA.1
      have ho : bits .or .u64 (F : Int) 0 = ((F + 0 : Nat) : Int) := by
        rw [show (0 : Int) = ((0 : Nat) : Int) by rfl, or_u64 F 0 (by omega) (by omega) (by rw [Nat.or_zero]; omega), Nat.or_zero, Nat.add_zero]
      obtain ⟨FT, hFT⟩ : ∃ FT, FT = F + 0 := ⟨_, rfl⟩
      rw [← hFT] at ho
      have HO := Lib.hid ho
      have HFT := Lib.hid (show (FT, true) = (r, ok) by rw [← HR.out, hFT, HF2.out])
      clear hA hF hFT ho
      go_wp2_with (fail)
      rw [HF.out]
      go_wp2_with (fail)
      go_ret2
      obtain ⟨rfl, rfl⟩ := Prod.mk.inj HFT.out
      refine ⟨?_, rfl⟩
      show Ending.returned (.tuple #[.int .u64 (bits .or .u64 (F : Int) 0), .bool true]) = _
      rw [HO.out]
set_option maxRecDepth 100000 in
set_option maxHeartbeats 16000000 in
theorem real_plus_b (s d : ByteArray) (r : Nat) (ok : Bool) (w : World) (hs : s.size ≤ 140737488351232) (hC : (s.size : Int) = 18) (hC2 : ((s.extract 0 2).toList == [48, 120]) = false) (hm : Lib.hasPrefix s.data.toList [45] = false) (hp : Lib.hasPrefix s.data.toList [43] = true) (h1 : 1 ≤ s.size) (hx : s.extract 1 s.size = d) (hd : d.size ≤ 140737488351232) (hres : plainF false d.data.toList = (r, ok)) :
    Calls Tryd.prog 15 #[.string s] w (RealPost w (r, ok)) := by
  have hf := run_to
  have HM := Lib.hid hm; clear hm
  have HP := Lib.hid hp; clear hp
  have HXX := Lib.hid hx; clear hx
  obtain ⟨l, hl⟩ : ∃ l, l = d.data.toList := ⟨_, rfl⟩
  rw [← hl] at hres
  have HL := Lib.hid hl.symm
  have HLL := Lib.hid (show d.toList = l by rw [Lib.toList_data, hl])
  have HSZ := Lib.hid (show (d.size : Int) = (l.length : Int) by rw [hl, Lib.size_eq])
  have HSZ2 := Lib.hid (show d.size = l.length by rw [hl, Lib.size_eq])
  have HRES := Lib.hid hres
  clear hl hres
  by_cases t1 : l = [105, 110, 102]
  · have HR := Lib.hid (plain_inf false t1)
    have f1 : (d.toList == [105, 110, 102]) = true := by rw [HLL.out, t1]; rfl
    have ho : bits .or .u64 9218868437227405312 0 = 9218868437227405312 := by decide +kernel
    clear t1
    go_enter Tryd.func15, Tryd.ntmps15
    go_wp2_with fail
    refine (begins_any s _ _).mono ?_
    rintro e w1 ⟨rfl, rfl⟩
    rw [show (⟨#[45]⟩ : ByteArray).data.toList = [45] from rfl, HM.out]
    go_wp2_with fail
    refine (begins_any s _ _).mono ?_
    rintro e w1 ⟨rfl, rfl⟩
    rw [show (⟨#[43]⟩ : ByteArray).data.toList = [43] from rfl, HP.out]
    go_upto_region 14 with (fail)
    rw [HXX.out]
    go_wp2_with fail
    go_ret2
    obtain ⟨rfl, rfl⟩ := Prod.mk.inj (HRES.out.symm.trans HR.out)
    exact ⟨rfl, rfl⟩
  have f1 : (d.toList == [105, 110, 102]) = false := by rw [HLL.out]; exact beq_eq_false_iff_ne.2 t1
  by_cases t2 : l = [110, 97, 110]
  · have HR := Lib.hid (plain_nan false t2)
    have f2 : (d.toList == [110, 97, 110]) = true := by rw [HLL.out, t2]; rfl
    clear t1 t2
    go_enter Tryd.func15, Tryd.ntmps15
    go_wp2_with fail
    refine (begins_any s _ _).mono ?_
    rintro e w1 ⟨rfl, rfl⟩
    rw [show (⟨#[45]⟩ : ByteArray).data.toList = [45] from rfl, HM.out]
    go_wp2_with fail
    refine (begins_any s _ _).mono ?_
    rintro e w1 ⟨rfl, rfl⟩
    rw [show (⟨#[43]⟩ : ByteArray).data.toList = [43] from rfl, HP.out]
    go_upto_region 14 with (fail)
    rw [HXX.out]
    go_wp2_with fail
    go_ret2
    obtain ⟨rfl, rfl⟩ := Prod.mk.inj (HRES.out.symm.trans HR.out)
    exact ⟨rfl, rfl⟩
  have f2 : (d.toList == [110, 97, 110]) = false := by rw [HLL.out]; exact beq_eq_false_iff_ne.2 t2
  by_cases t3 : l = []
  · have HR := Lib.hid (plain_bad false t1 t2 (Or.inl t3))
    have f3 : (d.size : Int) < 1 := by rw [HSZ.out, t3]; decide
    clear t1 t2 t3
    go_enter Tryd.func15, Tryd.ntmps15
    go_wp2_with fail
    refine (begins_any s _ _).mono ?_
    rintro e w1 ⟨rfl, rfl⟩
    rw [show (⟨#[45]⟩ : ByteArray).data.toList = [45] from rfl, HM.out]
    go_wp2_with fail
    refine (begins_any s _ _).mono ?_
    rintro e w1 ⟨rfl, rfl⟩
    rw [show (⟨#[43]⟩ : ByteArray).data.toList = [43] from rfl, HP.out]
    go_upto_region 14 with (fail)
    rw [HXX.out]
    go_wp2_with fail
    go_ret2
    obtain ⟨rfl, rfl⟩ := Prod.mk.inj (HRES.out.symm.trans HR.out)
    exact ⟨rfl, rfl⟩
  have f3 : ¬ (d.size : Int) < 1 := by rw [HSZ.out]; have := List.length_pos_iff.2 t3; omega
  by_cases t4 : 15 < l.length
  · have HR := Lib.hid (plain_bad false t1 t2 (Or.inr (Or.inl t4)))
    have f4 : (15 : Int) < (d.size : Int) := by rw [HSZ.out]; omega
    clear t1 t2 t3 t4
    go_enter Tryd.func15, Tryd.ntmps15
    go_wp2_with fail
    refine (begins_any s _ _).mono ?_
    rintro e w1 ⟨rfl, rfl⟩
    rw [show (⟨#[45]⟩ : ByteArray).data.toList = [45] from rfl, HM.out]
    go_wp2_with fail
    refine (begins_any s _ _).mono ?_
    rintro e w1 ⟨rfl, rfl⟩
    rw [show (⟨#[43]⟩ : ByteArray).data.toList = [43] from rfl, HP.out]
    go_upto_region 14 with (fail)
    rw [HXX.out]
    go_wp2_with fail
    go_ret2
    obtain ⟨rfl, rfl⟩ := Prod.mk.inj (HRES.out.symm.trans HR.out)
    exact ⟨rfl, rfl⟩
  have f4 : ¬ (15 : Int) < (d.size : Int) := by rw [HSZ.out]; omega
  have f5 : d.size ≤ 15 := by omega
  have HBAD := Lib.hid (show l.all digB = false → (0, false) = (r, ok) from fun t5 => by rw [← HRES.out, plain_bad false t1 t2 (Or.inr (Or.inr t5))])
  have HDIG := Lib.hid (show l.all digB = true → (floatOfInt .f64 (decN l) + 0, true) = (r, ok) from fun t6 => by rw [← HRES.out, plain_dig false t1 t2 t3 t4 t6]; rfl)
  have HFB := Lib.hid (show l.all digB = true → FI (decN l) < 9218868437227405312 from fun t6 => (FI_all (Nat.lt_trans (decN_15 t6 (by omega)) (by decide))).1)
  clear t1 t2 t3 t4 f4
  go_enter Tryd.func15, Tryd.ntmps15
  go_wp2_with fail
  refine (begins_any s _ _).mono ?_
  rintro e w1 ⟨rfl, rfl⟩
  rw [show (⟨#[45]⟩ : ByteArray).data.toList = [45] from rfl, HM.out]
  go_wp2_with fail
  refine (begins_any s _ _).mono ?_
  rintro e w1 ⟨rfl, rfl⟩
  rw [show (⟨#[43]⟩ : ByteArray).data.toList = [43] from rfl, HP.out]
  go_upto_region 14 with (fail)
  rw [HXX.out]
  go_wp2_with fail
  go_loopw [9, 10] (fun vn vi wr => ∃ (k : Nat) (a : Int), vn = .int .i64 a ∧ vi = .int .i64 k ∧ k ≤ d.size ∧ Hid ((l.take k).all digB = true ∧ a = (decN (l.take k) : Nat)) ∧ w = wr) (fun _ vi _ => d.size - (intOf vi).toNat)
  case atStart => exact ⟨0, 0, rfl, rfl, by omega, Lib.hid ⟨rfl, rfl⟩, rfl⟩
  case round =>
    obtain ⟨k, a, rfl, rfl, hk, HA, hw⟩ := hrel
    subst hw
    by_cases hlt : k < d.size
    · have p1 : (k : Int) < (d.size : Int) := by omega
      have hb := bAt_in hlt
      obtain ⟨c, hc⟩ : ∃ c, c = bAt d k := ⟨_, rfl⟩
      rw [← hc] at hb
      have hkt : k < l.length := by rw [← HSZ2.out]; exact hlt
      have HC := Lib.hid (show ∃ h : k < l.length, l[k] = c from ⟨hkt, by
        rw [hc]
        unfold bAt
        rw [HL.out, List.getD_eq_getElem?_getD, List.getElem?_eq_getElem hkt]; rfl⟩)
      have HKT := Lib.hid hkt
      have hc256 := c.toNat_lt
      clear hc hkt
      by_cases c1 : c.toNat < 48
      · have HR := Lib.hid (HBAD.out (by obtain ⟨hkt, hce⟩ := HC.out; exact not_all hkt (by rw [hce]; simp [digB]; omega)))
        have q1 : (c.toNat : Int) < 48 := by omega
        clear c1
        go_wp2_with fail
        go_ret2
        obtain ⟨rfl, rfl⟩ := Prod.mk.inj HR.out
        exact ⟨rfl, rfl⟩
      · have q1 : ¬ (c.toNat : Int) < 48 := by omega
        by_cases c2 : 57 < c.toNat
        · have HR := Lib.hid (HBAD.out (by obtain ⟨hkt, hce⟩ := HC.out; exact not_all hkt (by rw [hce]; simp [digB]; omega)))
          have q2 : (57 : Int) < (c.toNat : Int) := by omega
          clear c1 c2
          go_wp2_with fail
          go_ret2
          obtain ⟨rfl, rfl⟩ := Prod.mk.inj HR.out
          exact ⟨rfl, rfl⟩
        · have q2 : ¬ (57 : Int) < (c.toNat : Int) := by omega
          have HN := Lib.hid (show (l.take (k + 1)).all digB = true ∧ a * 10 + (c.toNat : Int) - 48 = (decN (l.take (k + 1)) : Nat) by
            obtain ⟨hkt, hce⟩ := HC.out
            refine ⟨dig_take HA.out.1 hkt (by rw [hce]; simp [digB]; omega), ?_⟩
            rw [decN_step hkt, hce, HA.out.2]
            omega)
          have hbd := decN_small HA.out.1 (show k ≤ 15 by omega)
          have b0 : 0 ≤ a := by rw [HA.out.2]; omega
          have b1 : a < 1000000000000000 := by rw [HA.out.2]; omega
          have ew1 : IntKind.i64.wrap (a * 10) = a * 10 := IntWalk.i64_in _ (by omega)
          have ew2 : IntKind.i64.wrap (a * 10 + (c.toNat : Int)) = a * 10 + (c.toNat : Int) := IntWalk.i64_in _ (by omega)
          have ew3 : IntKind.i64.wrap (a * 10 + (c.toNat : Int) - 48) = a * 10 + (c.toNat : Int) - 48 := IntWalk.i64_in _ (by omega)
          have ewk : IntKind.i64.wrap ((k : Int) + 1) = (k : Int) + 1 := IntWalk.i64_in _ (by omega)
          clear c1 c2 hbd
          go_wp2_with fail
          go_roundw
          case rel => exact ⟨k + 1, _, rfl, by go_num, by omega, HN, by first | rfl | trivial⟩
          case measure => simp [intOf]; omega
    · obtain rfl : k = d.size := by omega
      have p1 : ¬ (d.size : Int) < (d.size : Int) := by omega
      have hA := HA.out
      rw [List.take_of_length_le (by rw [HSZ2.out]; exact Nat.le_refl _)] at hA
      have HR := Lib.hid (HDIG.out hA.1)
      obtain ⟨F, hF⟩ : ∃ F, F = floatOfInt .f64 a := ⟨_, rfl⟩
      have HF := Lib.hid (show floatOfInt .f64 a = F from hF.symm)
      have HF2 := Lib.hid (show F = floatOfInt .f64 (decN l) by rw [hF, hA.2])
      have hFb : F < 9218868437227405312 := by rw [HF2.out]; exact HFB.out hA.1
      have ho : bits .or .u64 (F : Int) 0 = ((F + 0 : Nat) : Int) := by
        rw [show (0 : Int) = ((0 : Nat) : Int) by rfl, or_u64 F 0 (by omega) (by omega) (by rw [Nat.or_zero]; omega), Nat.or_zero, Nat.add_zero]
      obtain ⟨FT, hFT⟩ : ∃ FT, FT = F + 0 := ⟨_, rfl⟩
      rw [← hFT] at ho
      have HO := Lib.hid ho
      have HFT := Lib.hid (show (FT, true) = (r, ok) by rw [← HR.out, hFT, HF2.out])
      clear hA hF hFT ho
      go_wp2_with (fail)
      rw [HF.out]
      go_wp2_with (fail)
      go_ret2
      obtain ⟨rfl, rfl⟩ := Prod.mk.inj HFT.out
      refine ⟨?_, rfl⟩
      show Ending.returned (.tuple #[.int .u64 (bits .or .u64 (F : Int) 0), .bool true]) = _
      rw [HO.out]
/-- REAL WHOLE. -/
theorem plain_0x {l : Bt} (h : Lib.hasPrefix l [48, 120] = true) : plainF false l = (0, false) := by
  obtain ⟨t, rfl⟩ := pre_form h
  refine plain_bad false (by simp) (by simp) (Or.inr (Or.inr ?_))
  cases h : List.all (48 :: 120 :: t) digB with
  | false => rfl
  | true =>
    simp only [List.all_cons, Bool.and_eq_true] at h
    exact absurd h.2.1 (by decide)
theorem real_any (s : ByteArray) (w : World) (hs : s.size ≤ 140737488351232) : Calls Tryd.prog 15 #[.string s] w (RealPost w (ofF s.data.toList)) := by
  have hlen := Lib.size_eq s
  by_cases h0 : s.size = 18 ∧ Lib.hasPrefix s.data.toList [48, 120] = true
  · exact real_hex s w h0.1 h0.2 _ _ rfl
  have hC : ¬ (s.size : Int) = 18 ∨ (s.size : Int) = 18 ∧ ((s.extract 0 2).toList == [48, 120]) = false := by
    by_cases h : s.size = 18
    · refine Or.inr ⟨by omega, ?_⟩
      rw [slice_two, take_pre (by omega)]
      cases hp : Lib.hasPrefix s.data.toList [48, 120] with
      | true => exact absurd ⟨h, hp⟩ h0
      | false => rfl
    · exact Or.inl (by omega)
  have hdr : (s.extract 1 s.size).data.toList = s.data.toList.drop 1 := Lib.extract_to_end _ _
  have hds : (s.extract 1 s.size).size ≤ 140737488351232 := by rw [Lib.size_eq, hdr, List.length_drop, ← Lib.size_eq]; omega
  by_cases hm : Lib.hasPrefix s.data.toList [45] = true
  · have hz : ¬ Lib.hasPrefix s.data.toList [48, 120] = true := fun h => by
      obtain ⟨t, ht⟩ := pre_form h
      rw [ht, pre_one] at hm
      revert hm; decide
    rw [show ofF s.data.toList = plainF true (s.extract 1 s.size).data.toList by unfold ofF; rw [if_neg hz, if_pos hm, hdr]]
    have h1 : 1 ≤ s.size := by have := pre_len1 hm; omega
    rcases hC with hC | ⟨hC, hC2⟩
    · exact real_minus_a s _ _ _ w hs hC hm h1 rfl hds rfl
    · exact real_minus_b s _ _ _ w hs hC hC2 hm h1 rfl hds rfl
  have hm' : Lib.hasPrefix s.data.toList [45] = false := by simpa using hm
  by_cases hp : Lib.hasPrefix s.data.toList [43] = true
  · have hz : ¬ Lib.hasPrefix s.data.toList [48, 120] = true := fun h => by
      obtain ⟨t, ht⟩ := pre_form h
      rw [ht, pre_one] at hp
      revert hp; decide
    rw [show ofF s.data.toList = plainF false (s.extract 1 s.size).data.toList by unfold ofF; rw [if_neg hz, if_neg hm, if_pos hp, hdr]]
    have h1 : 1 ≤ s.size := by have := pre_len1 hp; omega
    rcases hC with hC | ⟨hC, hC2⟩
    · exact real_plus_a s _ _ _ w hs hC hm' hp h1 rfl hds rfl
    · exact real_plus_b s _ _ _ w hs hC hC2 hm' hp h1 rfl hds rfl
  have hp' : Lib.hasPrefix s.data.toList [43] = false := by simpa using hp
  rw [show ofF s.data.toList = plainF false s.data.toList by
    unfold ofF
    by_cases hz : Lib.hasPrefix s.data.toList [48, 120] = true
    · rw [if_pos hz, if_neg (fun h => h0 ⟨by omega, hz⟩), plain_0x hz]
    · rw [if_neg hz, if_neg hm, if_neg hp]]
  rcases hC with hC | ⟨hC, hC2⟩
  · exact real_none_a s _ _ w hs hC hm' hp' rfl
  · exact real_none_b s _ _ w hs hC hC2 hm' hp' rfl
end Go.Proofs.YtnddnhjlaojllaaDoor
