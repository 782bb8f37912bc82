/-
  The document's reference.
-/
import Derived.Test.YtglppnpllpfaeaaMacW
namespace Go.Proofs.Ytglppnpllpfaeaa
open Go.RowKit
set_option linter.unusedVariables false

theorem until_lt {c : UInt8} : ∀ {s : Bs} {k : Nat}, untilF c s = some k → k < s.length ∧ s.drop k = c :: s.drop (k + 1)
  | [], _, h => by cases h
  | x :: t, k, h => by
    unfold untilF at h
    cases hx : x == c with
    | true =>
      rw [hx, if_pos rfl] at h
      obtain rfl := Option.some.inj h
      obtain rfl := beq_iff_eq.1 hx
      exact ⟨Nat.succ_pos _, rfl⟩
    | false =>
      rw [hx, if_neg (by simp)] at h
      cases hu : untilF c t with
      | none => rw [hu] at h; cases h
      | some j =>
        rw [hu] at h
        obtain rfl := Option.some.inj h
        have ih := until_lt hu
        exact ⟨show j + 1 < t.length + 1 by omega, ih.2⟩
theorem index_none {c : UInt8} {s : Bs} (h : untilF c s = none) : Lib.indexByte s c = -1 := by rw [until_index, h]
theorem index_some {c : UInt8} {s : Bs} {k : Nat} (h : untilF c s = some k) : Lib.indexByte s c = (k : Int) := by rw [until_index, h]
theorem cutF_some {c : UInt8} {s : Bs} {k : Nat} (h : untilF c s = some k) : cutF c s = (s.take k, s.drop (k + 1), true) := by unfold cutF; rw [h]
theorem cutF_none {c : UInt8} {s : Bs} (h : untilF c s = none) : cutF c s = (s, [], false) := by unfold cutF; rw [h]
theorem parts_none1 {t : Bs} (h : untilF 58 t = none) : partsF t = none := by unfold partsF; rw [cutF_none h]; rfl
theorem parts_none2 {t : Bs} {k : Nat} (h : untilF 58 t = some k) (h2 : untilF 61 (t.drop (k + 1)) = none) : partsF t = none := by unfold partsF; rw [cutF_some h]; dsimp only; rw [cutF_none h2]; rfl
theorem parts_some {t : Bs} {k m : Nat} (h : untilF 58 t = some k) (h2 : untilF 61 (t.drop (k + 1)) = some m) : partsF t = some (t.take k, (t.drop (k + 1)).take m, (t.drop (k + 1)).drop (m + 1)) := by unfold partsF; rw [cutF_some h]; dsimp only; rw [cutF_some h2]; rfl
theorem until_eq {t : Bs} {k : Nat} (h : untilF 58 t = some k) : untilF 61 (t.drop k) = (untilF 61 (t.drop (k + 1))).map (· + 1) := by
  rw [(until_lt h).2]
  rfl
set_option maxRecDepth 100000 in
set_option maxHeartbeats 4000000 in
theorem listBig_any (a : Option Addr) (n c : Nat) (L : List Bs) (w : World) (h : Reads w a n (fun k => .string (nth L k))) (hn : n = L.length) (M : Nat) (hM : ∀ x ∈ L, x.length ≤ M) (hn2 : n * (M + 1) ≤ 100000000000000) :
    Calls Try.prog 18 #[.slice a n c] w fun e w' => e = .returned (strV (joinF L)) ∧ w' = w := by
  have HR := Lib.hid h
  have HN := Lib.hid hn
  have HM := Lib.hid hM
  have hn9 : n ≤ 100000000000000 := Nat.le_trans (Nat.le_mul_of_pos_right _ (Nat.succ_pos M)) hn2
  clear h hn hM
  go_enter Try.func18, Try.ntmps18
  go_wp2_with fail
  go_loopw [3, 4] (fun s' i' wr => ∃ (i : Nat) (S : ByteArray), s' = .string S ∧ i' = .int .i64 i ∧ i ≤ n ∧ Hid (S.data.toList = joinF (L.take i)) ∧ w = wr) (fun _ i' _ => n - (intOf i').toNat)
  case atStart => exact ⟨0, ⟨#[]⟩, rfl, rfl, Nat.zero_le _, Lib.hid rfl, rfl⟩
  case round =>
    obtain ⟨i, S, rfl, rfl, hi, HS, hw⟩ := hrel
    subst hw
    have hSs : S.size ≤ 100000000000000 := by
      rw [Lib.size_eq, HS.out]
      refine Nat.le_trans (joinF_len M _ fun x hx => HM.out x (List.mem_of_mem_take hx)) (Nat.le_trans (Nat.mul_le_mul_right _ ?_) hn2)
      rw [List.length_take]; omega
    rcases Nat.lt_or_ge i n with hlt | hge
    · have p1 : (i : Int) < (n : Int) := by omega
      have hiL : i < L.length := by rw [← HN.out]; exact hlt
      obtain ⟨b, off, rfl, hb, hc0⟩ := HR.out i hlt
      obtain ⟨x, hx⟩ : ∃ x, x = nth L i := ⟨_, rfl⟩
      have hc : w.cell? ⟨b, off + i, none⟩ = some (.string x) := by rw [hx]; exact hc0
      clear hc0
      have hxd : x.data.toList = L[i] := by rw [hx]; unfold nth; rw [List.getD_eq_getElem?_getD, List.getElem?_eq_getElem hiL]; rfl
      have hxs : x.size ≤ 100000000000000 := by
        rw [Lib.size_eq, hxd]
        refine Nat.le_trans (HM.out _ (List.getElem_mem _)) (Nat.le_trans ?_ hn2)
        exact Nat.le_trans (Nat.le_succ M) (Nat.le_mul_of_pos_left _ (by omega))
      have HT := Lib.hid (show joinF (L.take (i + 1)) = if i = 0 then x.data.toList else joinF (L.take i) ++ [32] ++ x.data.toList from by
        rw [List.take_succ_eq_append_getElem hiL, joinF_snoc, hxd]
        by_cases h0 : i = 0
        · rw [if_pos h0, if_pos (by rw [h0]; rfl)]
        · rw [if_neg h0, if_neg (by intro e; have := congrArg List.length e; rw [List.length_take, Nat.min_eq_left (by omega)] at this; exact h0 this)])
      clear hx hxd
      by_cases h0 : i = 0
      · have q1 : ¬ (0 : Int) < (i : Int) := by omega
        have HZ := Lib.hid (show S.data.toList = [] by rw [HS.out, h0]; rfl)
        have H0 := Lib.hid h0
        clear h0
        go_wp2_with fail
        go_roundw
        case rel => exact ⟨i + 1, _, rfl, by go_num, by omega, Lib.hid (by rw [ba_append, HZ.out, HT.out, if_pos H0.out]; rfl), by first | rfl | trivial⟩
        case measure => simp [intOf]; omega
      · have q1 : (0 : Int) < (i : Int) := by omega
        have H0 := Lib.hid h0
        clear h0
        go_wp2_with fail
        go_roundw
        case rel => exact ⟨i + 1, _, rfl, by go_num, by omega, Lib.hid (by rw [ba_append, ba_append, HS.out, HT.out, if_neg H0.out]), by first | rfl | trivial⟩
        case measure => simp [intOf]; omega
    · obtain rfl : i = n := by omega
      have p1 : ¬ (i : Int) < (i : Int) := by omega
      have HF := Lib.hid (show strV (joinF L) = .string S by
        refine strV_of ?_
        rw [HS.out, List.take_of_length_le (by rw [← HN.out]; exact Nat.le_refl _)])
      clear hge
      go_wp2_with fail
      go_ret
      exact ⟨by rw [HF.out]; rfl, rfl⟩
theorem listBig_own (v : Value) (L : List Bs) (B : Nat) (w : World) (h : w.ownsRow B 9 1 v L.length (L.map strV)) (M : Nat) (hM : ∀ x ∈ L, x.length ≤ M) (hn2 : L.length * (M + 1) ≤ 100000000000000) :
    Calls Try.prog 18 #[v] w fun e w' => e = .returned (strV (joinF L)) ∧ w' = w := by
  rcases row_forms h with ⟨rfl, h0⟩ | ⟨g, cap, rfl⟩
  · obtain rfl : L = [] := List.eq_nil_of_length_eq_zero h0
    exact listBig_any none 0 0 [] w (fun k hk => absurd hk (Nat.not_lt_zero _)) rfl M hM hn2
  · refine listBig_any _ _ cap L w (reads_own (B := B) (g := g) (cap := cap) ?_) rfl M hM hn2
    rw [strCells_nth]
    exact h
set_option maxRecDepth 100000 in
set_option maxHeartbeats 4000000 in
theorem refExpand_deep (xb : Nat) (s : ByteArray) (ov : Value) (w : World) :
    Calls Try.prog 23 #[.pointer (some ⟨xb, 0, none⟩), .string s, ov, .int .i64 41] w fun e w' => e = .returned (.tuple #[.string ⟨#[]⟩, .int .i64 3]) ∧ w' = w := by
  rcases Nat.lt_or_ge 16384 s.size with h | h
  · have p1 : (16384 : Int) < (s.size : Int) := by omega
    go_enter Try.func23, Try.ntmps23
    go_wp2_with fail
    go_ret2
    exact ⟨rfl, rfl⟩
  · have p1 : ¬ (16384 : Int) < (s.size : Int) := by omega
    go_enter Try.func23, Try.ntmps23
    go_wp2_with fail
    go_ret2
    exact ⟨rfl, rfl⟩
/-- What the document's reference does, so deep. -/
def RRefOK (l auto : List (Bs × Bs)) (k : Nat) : Prop := ∀ (w : World) (xb : Nat) (lv av ov : Value) (op : List Bs) (deep n : Nat) (s : ByteArray), YAt w xb lv av l auto n → OpAt w xb ov op → op.length ≤ deep → deep + k = 40 → s.size ≤ 140737488351232 →
  Calls Try.prog 33 #[.pointer (some ⟨xb, 0, none⟩), .string s, ov, .int .i64 deep] w (YPost w xb lv av l auto (refF l auto k op n s.data.toList))
theorem refReference_zero (l auto : List (Bs × Bs)) : RRefOK l auto 0 := by
  intro w xb lv av ov op deep n s h ho hop hk hs
  obtain rfl : deep = 40 := by omega
  obtain ⟨oa, oc, rfl, HOC⟩ := ho
  clear h HOC
  rw [show refF l auto 0 op n s.data.toList = .error 3 from rfl]
  go_enter Try.func33, Try.ntmps33
  go_wp2_with fail
  refine (refExpand_deep xb s _ _).mono ?_
  rintro e w1 ⟨rfl, hw1⟩
  rw [hw1]
  clear hw1
  go_wp2_with fail
  go_ret2
  exact ⟨rfl, by omega, Keeps.refl _ _⟩
set_option maxRecDepth 100000 in
set_option maxHeartbeats 16000000 in
theorem refReference_succ (l auto : List (Bs × Bs)) (k : Nat) (HT : RTextOK l auto k) (hsm : Small l ∧ Small auto) : RRefOK l auto (k + 1) := by
  intro w xb lv av ov op deep n s h ho hop hk hs
  have HX := Lib.hid h
  have HOP := Lib.hid ho
  obtain ⟨⟨c0, c1, c2⟩, f2⟩ := h.rc.three
  obtain ⟨la, ln, lc, rfl⟩ : ∃ (a : Option Addr) (n c : Nat), lv = .slice a n c := by obtain ⟨a, c, e, _⟩ := h.hl; exact ⟨_, _, _, e⟩
  obtain ⟨ua, un, uc, rfl⟩ : ∃ (a : Option Addr) (n c : Nat), av = .slice a n c := by obtain ⟨a, c, e, _⟩ := h.ha; exact ⟨_, _, _, e⟩
  obtain ⟨oa, oc, rfl, _⟩ := ho
  obtain ⟨m, hm⟩ : ∃ m, m = op.length := ⟨_, rfl⟩
  rw [← hm] at hop HOP ⊢
  have HM := Lib.hid hm
  have ewd : IntKind.i64.wrap ((deep : Int) + 1) = (deep : Int) + 1 := IntWalk.i64_in _ (by omega)
  obtain ⟨tr, htr⟩ : ∃ tr, tr = textF (refF l auto k op) n s.data.toList := ⟨_, rfl⟩
  have HTR := Lib.hid htr
  obtain ⟨res, hres⟩ : ∃ res, res = refF l auto (k + 1) op n s.data.toList := ⟨_, rfl⟩
  rw [← hres]
  have HRES0 := Lib.hid (show res = refRest l auto k op tr by rw [hres, htr, refF_succ])
  have HTL := Lib.hid (show ∀ t r, tr = .ok (t, r) → t.length ≤ 16384 from fun t r h => textF_len (htr.symm.trans h))
  clear h htr hres hm c0 c1 c2 f2
  go_enter Try.func33, Try.ntmps33
  go_wp2_with fail
  have hcall := HT w xb (.slice la ln lc) (.slice ua un uc) (.slice oa m oc) op (deep + 1) n s HX.out HOP.out (by rw [← HM.out]; omega) (by omega) hs
  rw [← HTR.out, show ((deep + 1 : Nat) : Int) = (deep : Int) + 1 by omega] at hcall
  refine hcall.mono ?_
  intro e w4 hp
  cases tr with
  | error x =>
    obtain ⟨he, hx, hk4⟩ := hp
    subst he
    have HKX := Lib.hid hk4
    have xn : ((x : Int) != 0) = true := by rw [bne_iff_ne]; omega
    clear hk4 hcall
    go_wp2_with fail
    go_ret2
    rw [show res = .error x from HRES0.out]
    exact ⟨rfl, hx, HKX.out⟩
  | ok z =>
    obtain ⟨t, r⟩ := z
    obtain ⟨he, hx4, hk4⟩ := hp
    subst he
    have HX4 := Lib.hid hx4
    have HK4 := Lib.hid hk4
    have HOP4 := Lib.hid (HOP.out.keep hk4 (fun b _ h e => h e))
    have HRES := Lib.hid (show res = partRest l auto k op r t (partsF t) from HRES0.out)
    have htl := HTL.out t r (by first | rfl | trivial)
    clear hx4 hk4 hcall
    obtain ⟨TB, hTB⟩ : ∃ TB : ByteArray, TB = ⟨t.toArray⟩ := ⟨_, rfl⟩
    have HTD := Lib.hid (show TB.data.toList = t by rw [hTB])
    have hTs : TB.size ≤ 16384 := by rw [Lib.size_eq, HTD.out]; omega
    rw [show strV t = .string TB by rw [hTB]; rfl]
    clear hTB htl
    cases hu1 : untilF 58 t with
    | none =>
      have HPN := Lib.hid (parts_none1 hu1)
      have HA1 := Lib.hid (show Lib.indexByte TB.data.toList 58 = -1 by rw [HTD.out]; exact index_none hu1)
      obtain ⟨vr, hvr⟩ : ∃ vr, vr = valueF l auto op (fun o => textF (refF l auto k o)) r t := ⟨_, rfl⟩
      have HVR := Lib.hid hvr
      have HRV := Lib.hid (show res = vr by rw [HRES.out, HPN.out, hvr]; rfl)
      clear hvr
      clear hu1
      go_wp2_with fail
      refine (at_any TB 58 _ (by omega)).mono ?_
      rintro e w5 ⟨rfl, hw5⟩
      rw [← hw5, HA1.out]
      clear hw5
      go_wp2_with fail
      have hcall := refValue_any l auto k HT hsm.1 w4 xb (.slice la ln lc) (.slice ua un uc) (.slice oa m oc) op deep r TB HX4.out HOP4.out (by rw [← HM.out]; exact hop) hk
      rw [HTD.out, ← HVR.out] at hcall
      refine hcall.mono ?_
      intro e w7 hp
      have HP := Lib.hid (hp.from HK4.out)
      clear hp hcall
      cases vr with
      | error x =>
        obtain ⟨he, hx, hk7⟩ := HP.out
        subst he
        have HKX := Lib.hid hk7
        have xn : ((x : Int) != 0) = true := by rw [bne_iff_ne]; omega
        clear hk7
        go_wp2_with fail
        go_ret2
        rw [show res = .error x from HRV.out]
        exact ⟨rfl, hx, HKX.out⟩
      | ok z =>
        obtain ⟨v, r2⟩ := z
        obtain ⟨he, hx, hk7⟩ := HP.out
        subst he
        have HXX := Lib.hid hx
        have HKX := Lib.hid hk7
        clear hx hk7
        rw [show strV v = .string ⟨v.toArray⟩ from rfl]
        go_wp2_with fail
        go_ret2
        rw [show res = .ok (v, r2) from HRV.out]
        exact ⟨rfl, HXX.out, HKX.out⟩
    | some K =>
      obtain ⟨hKl, hKd⟩ := until_lt hu1
      have hK : K < TB.size := by rw [Lib.size_eq, HTD.out]; exact hKl
      have HA1 := Lib.hid (show Lib.indexByte TB.data.toList 58 = (K : Int) by rw [HTD.out]; exact index_some hu1)
      have HED := Lib.hid (show (TB.extract K TB.size).data.toList = t.drop K by rw [exEnd, HTD.out])
      have hes : (TB.extract K TB.size).size ≤ 16384 := by rw [Lib.size_eq, HED.out, List.length_drop, ← HTD.out, ← Lib.size_eq]; omega
      have g1 : (0 : Int) ≤ (K : Int) := by omega
      have g2 : (K : Int) ≤ (TB.size : Int) := by omega
      cases hu2 : untilF 61 (t.drop (K + 1)) with
      | none =>
        have HPN := Lib.hid (parts_none2 hu1 hu2)
        have HA2 := Lib.hid (show Lib.indexByte (TB.extract K TB.size).data.toList 61 = -1 by rw [HED.out]; exact index_none (by rw [until_eq hu1, hu2]; rfl))
        obtain ⟨vr, hvr⟩ : ∃ vr, vr = valueF l auto op (fun o => textF (refF l auto k o)) r t := ⟨_, rfl⟩
        have HVR := Lib.hid hvr
        have HRV := Lib.hid (show res = vr by rw [HRES.out, HPN.out, hvr]; rfl)
        clear hvr
        clear hu1 hu2 hKl hKd
        go_wp2_with fail
        refine (at_any TB 58 _ (by omega)).mono ?_
        rintro e w5 ⟨rfl, hw5⟩
        rw [← hw5, HA1.out]
        clear hw5
        go_wp2_with fail
        refine (at_any _ 61 _ (by omega)).mono ?_
        rintro e w6 ⟨rfl, hw5⟩
        rw [← hw5, HA2.out]
        clear hw5
        go_wp2_with fail
        have hcall := refValue_any l auto k HT hsm.1 w4 xb (.slice la ln lc) (.slice ua un uc) (.slice oa m oc) op deep r TB HX4.out HOP4.out (by rw [← HM.out]; exact hop) hk
        rw [HTD.out, ← HVR.out] at hcall
        refine hcall.mono ?_
        intro e w7 hp
        have HP := Lib.hid (hp.from HK4.out)
        clear hp hcall
        cases vr with
        | error x =>
          obtain ⟨he, hx, hk7⟩ := HP.out
          subst he
          have HKX := Lib.hid hk7
          have xn : ((x : Int) != 0) = true := by rw [bne_iff_ne]; omega
          clear hk7
          go_wp2_with fail
          go_ret2
          rw [show res = .error x from HRV.out]
          exact ⟨rfl, hx, HKX.out⟩
        | ok z =>
          obtain ⟨v, r2⟩ := z
          obtain ⟨he, hx, hk7⟩ := HP.out
          subst he
          have HXX := Lib.hid hx
          have HKX := Lib.hid hk7
          clear hx hk7
          rw [show strV v = .string ⟨v.toArray⟩ from rfl]
          go_wp2_with fail
          go_ret2
          rw [show res = .ok (v, r2) from HRV.out]
          exact ⟨rfl, HXX.out, HKX.out⟩
      | some M =>
        have HPN := Lib.hid (parts_some hu1 hu2)
        obtain ⟨K1, hK1⟩ : ∃ K1, K1 = K + 1 := ⟨_, rfl⟩
        obtain ⟨Mp, hMp⟩ : ∃ Mp, Mp = M + 1 := ⟨_, rfl⟩
        obtain ⟨KM, hKM⟩ : ∃ KM, KM = K + Mp := ⟨_, rfl⟩
        obtain ⟨KN, hKN⟩ : ∃ KN, KN = KM + 1 := ⟨_, rfl⟩
        have hMl := (until_lt hu2).1
        rw [List.length_drop, ← HTD.out, ← Lib.size_eq] at hMl
        have HA2 := Lib.hid (show Lib.indexByte (TB.extract K TB.size).data.toList 61 = (Mp : Int) by rw [HED.out]; refine index_some ?_; rw [until_eq hu1, hu2, hMp]; rfl)
        have g3 : (0 : Int) < (Mp : Int) := by omega
        have g4 : IntKind.i64.wrap ((K : Int) + 1) = (K1 : Int) := by rw [IntWalk.i64_in _ (by omega)]; omega
        have g5 : IntKind.i64.wrap ((K : Int) + (Mp : Int)) = (KM : Int) := by rw [IntWalk.i64_in _ (by omega)]; omega
        have g6 : IntKind.i64.wrap ((KM : Int) + 1) = (KN : Int) := by rw [IntWalk.i64_in _ (by omega)]; omega
        have g7 : (0 : Int) ≤ (K1 : Int) := by omega
        have g8 : (K1 : Int) ≤ (KM : Int) := by omega
        have g9 : (KM : Int) ≤ (TB.size : Int) := by omega
        have g10 : (0 : Int) ≤ (KN : Int) := by omega
        have g11 : (KN : Int) ≤ (TB.size : Int) := by omega
        have hn1 : (TB.extract 0 K).data.toList = t.take K := by rw [ex0, HTD.out]
        have hn2 : (TB.extract K1 KM).data.toList = (t.drop (K + 1)).take M := by rw [extract_seg _ _ _ (by omega) (by omega)]; unfold segB; rw [HTD.out, hK1, show KM - (K + 1) = M by omega]
        have hn3 : (TB.extract KN TB.size).data.toList = (t.drop (K + 1)).drop (M + 1) := by rw [exEnd, HTD.out, List.drop_drop]; congr 1; omega
        have hf1 : (TB.extract K1 KM).size ≤ 16384 := by rw [Lib.size_eq, hn2, List.length_take]; omega
        have hf2 : (TB.extract KN TB.size).size ≤ 16384 := by rw [Lib.size_eq, hn3, List.length_drop, List.length_drop, ← HTD.out, ← Lib.size_eq]; omega
        obtain ⟨NB, hNB⟩ : ∃ NB, NB = TB.extract 0 K := ⟨_, rfl⟩
        obtain ⟨FB, hFB⟩ : ∃ FB, FB = TB.extract K1 KM := ⟨_, rfl⟩
        obtain ⟨GB, hGB⟩ : ∃ GB, GB = TB.extract KN TB.size := ⟨_, rfl⟩
        obtain ⟨N, hN'⟩ : ∃ N, N = t.take K := ⟨_, rfl⟩
        obtain ⟨FF, hFF⟩ : ∃ FF, FF = (t.drop (K + 1)).take M := ⟨_, rfl⟩
        obtain ⟨GG, hGG⟩ : ∃ GG, GG = (t.drop (K + 1)).drop (M + 1) := ⟨_, rfl⟩
        rw [← hNB, ← hN'] at hn1
        rw [← hFB, ← hFF] at hn2
        rw [← hGB, ← hGG] at hn3
        rw [← hFB] at hf1
        rw [← hGB] at hf2
        rw [← hN', ← hFF, ← hGG] at HPN
        have HND := Lib.hid hn1
        have HFD := Lib.hid hn2
        have HGD := Lib.hid hn3
        have HNB := Lib.hid hNB
        have HFB := Lib.hid hFB
        have HGB := Lib.hid hGB
        obtain ⟨vr, hvr⟩ : ∃ vr, vr = valueF l auto op (fun o => textF (refF l auto k o)) r N := ⟨_, rfl⟩
        have HVR := Lib.hid hvr
        have HRV := Lib.hid (show res = swapRest FF GG vr by rw [HRES.out, HPN.out, hvr]; rfl)
        have HVL := Lib.hid (show ∀ v r2, vr = .ok (v, r2) → v.length ≤ 100000 from fun v r2 h => valueF_len hsm.2 (ref := refF l auto k) (hvr.symm.trans h))
        clear hu1 hu2 hKl hKd hK1 hMp hKM hKN hMl hn1 hn2 hn3 hNB hFB hGB hN' hFF hGG hvr
        go_wp2_with fail
        refine (at_any TB 58 _ (by omega)).mono ?_
        rintro e w5 ⟨rfl, hw5⟩
        rw [← hw5, HA1.out]
        clear hw5
        go_wp2_with fail
        refine (at_any _ 61 _ (by omega)).mono ?_
        rintro e w6 ⟨rfl, hw5⟩
        rw [← hw5, HA2.out]
        clear hw5
        go_wp2_with fail
        rw [← HNB.out, ← HFB.out, ← HGB.out]
        have hcall := refValue_any l auto k HT hsm.1 w4 xb (.slice la ln lc) (.slice ua un uc) (.slice oa m oc) op deep r NB HX4.out HOP4.out (by rw [← HM.out]; exact hop) hk
        rw [HND.out, ← HVR.out] at hcall
        refine hcall.mono ?_
        intro e w7 hp
        have HP := Lib.hid (hp.from HK4.out)
        clear hp hcall
        cases vr with
        | error x =>
          obtain ⟨he, hx, hk7⟩ := HP.out
          subst he
          have HKX := Lib.hid hk7
          have xn : ((x : Int) != 0) = true := by rw [bne_iff_ne]; omega
          clear hk7
          go_wp2_with fail
          go_ret2
          rw [show res = .error x from HRV.out]
          exact ⟨rfl, hx, HKX.out⟩
        | ok z =>
          obtain ⟨v, r2⟩ := z
          obtain ⟨he, hx, hk7⟩ := HP.out
          subst he
          have HXX := Lib.hid hx
          have HKX := Lib.hid hk7
          obtain ⟨VB, hVB⟩ : ∃ VB : ByteArray, VB = ⟨v.toArray⟩ := ⟨_, rfl⟩
          have HVD := Lib.hid (show VB.data.toList = v by rw [hVB])
          have hvs : VB.size ≤ 100000 := by rw [Lib.size_eq, HVD.out]; exact HVL.out v r2 (by first | rfl | trivial)
          rw [show strV v = .string VB by rw [hVB]; rfl]
          clear hVB hx hk7
          obtain ⟨W, hW⟩ : ∃ W, W = wordsF VB.data.toList := ⟨_, rfl⟩
          have hwl := wordsG_len VB.data.toList []
          rw [show wordsG [] VB.data.toList = W from hW.symm, ← Lib.size_eq] at hwl
          have HWL := Lib.hid hwl
          obtain ⟨n, hn⟩ : ∃ n, n = W.length := ⟨_, rfl⟩
          have hnb : n ≤ 100001 := by rw [hn]; have := hwl.1; omega
          have HN := Lib.hid hn
          have HWO := Lib.hid (show ∀ w : World, Calls Try.prog 40 #[.string VB] w (RefWordsPost W w) from fun w => by
            have h := refWords_any VB w (by omega)
            rw [← hW] at h
            exact h)
          obtain ⟨LL, hLL⟩ : ∃ LL, LL = W.map (swapW FB.data.toList GB.data.toList) := ⟨_, rfl⟩
          have HLW := Lib.hid hLL
          have HLL := Lib.hid (show LL.length = n by rw [hLL, List.length_map, hn])
          have HLM := Lib.hid (show ∀ x ∈ LL, x.length ≤ 116384 from fun x hx => by
            rw [hLL] at hx
            obtain ⟨y, hy, rfl⟩ := List.mem_map.1 hx
            have h1 := hwl.2 y hy
            have h2 := swapW_len FB.data.toList GB.data.toList y
            rw [← Lib.size_eq] at h2
            simp at h1
            omega)
          have HRES2 := Lib.hid (show res = .ok (joinF LL, r2) by
            rw [HRV.out, hLL, hW, HVD.out, HFD.out, HGD.out]
            rfl)
          obtain ⟨JB, hJB⟩ : ∃ JB : ByteArray, JB = ⟨(joinF LL).toArray⟩ := ⟨_, rfl⟩
          have HJV := Lib.hid (show strV (joinF LL) = .string JB by rw [hJB]; rfl)
          clear hW hwl hn hLL hJB
          go_wp2_with fail
          refine (HWO.out _).mono ?_
          rintro e w8 ⟨wv, rfl, hown8, hbl8⟩
          have HO8' := Lib.hid hown8
          have HB8 := Lib.hid hbl8
          clear hown8 hbl8
          have hforms : (wv = .slice none 0 0 ∧ n = 0) ∨ ∃ g cap, wv = .slice (some ⟨g, 0, none⟩) n cap := by
            have h := row_forms HO8'.out
            rw [← HN.out] at h
            exact h
          by_cases hp : 0 ≤ pct FB.data.toList
          · have HPP := Lib.hid hp
            obtain ⟨pi, hpi⟩ : ∃ pi : Int, pi = Lib.indexByte FB.data.toList 37 := ⟨_, rfl⟩
            have hpl : ¬ pi < 0 := by rw [hpi]; exact Int.not_lt.2 hp
            have HPI := Lib.hid hpi.symm
            clear hp hpi
            rcases hforms with ⟨rfl, h0⟩ | ⟨A, wc, rfl⟩
            · subst h0
              have HW0 := Lib.hid (show W = [] from List.eq_nil_of_length_eq_zero HN.out.symm)
              have HO8 := Lib.hid (show w8.ownsRow w7.heap.size 9 1 (.slice none 0 0) W.length (W.map strV) from HO8'.out)
              go_wp2_with fail
              refine (at_any FB 37 _ (by omega)).mono ?_
              rintro e w9 ⟨rfl, hw5⟩
              rw [← hw5, HPI.out]
              clear hw5
              go_wp2_with fail
              go_loopw [21] (fun i' wr => i' = .int .i64 0 ∧ w8 = wr) (fun _ _ => 0)
              case atStart => exact ⟨rfl, rfl⟩
              case round =>
                obtain ⟨rfl, hw⟩ := hrel
                subst hw
                go_wp2_with fail
                have HB9 := Lib.hid (show Below w7.heap.size w7 w8 from HB8.out)
                have HJO := Lib.hid (show w8.ownsRow w7.heap.size 9 1 (.slice none 0 0) LL.length (LL.map strV) from by
                  have e : LL = [] := by rw [HLW.out, HW0.out]; rfl
                  rw [e]
                  exact World.ownsRow_nil _ _ _ _)
                refine (listBig_own _ LL w7.heap.size _ HJO.out 116384 HLM.out (by rw [HLL.out, Nat.zero_mul]; exact Nat.zero_le _)).mono ?_
                rintro e w10 ⟨rfl, hw10⟩
                rw [hw10, HJV.out]
                clear hw10
                go_wp2_with fail
                go_ret2
                rw [HRES2.out]
                exact ⟨by rw [HJV.out]; rfl, HXX.out.keep (Keeps.of_below HB9.out (fun _ => False)) (fun _ _ h => h), HKX.out.trans (Keeps.of_below HB9.out (fun b => b = xb)) (fun _ _ e => e)⟩
            · have hA : w7.heap.size ≤ A := (HO8'.out.lt A rfl).1
              have HO8 := Lib.hid (show w8.ownsRow w7.heap.size 9 1 (.slice (some ⟨A, 0, none⟩) n wc) n (W.map strV) from by have h := HO8'.out; rw [← HN.out] at h; exact h)
              go_wp2_with fail
              refine (at_any FB 37 _ (by omega)).mono ?_
              rintro e w9 ⟨rfl, hw5⟩
              rw [← hw5, HPI.out]
              clear hw5
              go_wp2_with fail
              go_loopw [21] (fun i' wr => ∃ i : Nat, i' = .int .i64 i ∧ i ≤ n ∧ Hid (wr.ownsRow w7.heap.size 9 1 (.slice (some ⟨A, 0, none⟩) n wc) n (((W.map (swapW FB.data.toList GB.data.toList)).take i ++ W.drop i).map strV)) ∧ Hid (Below w7.heap.size w7 wr)) (fun i' _ => n - (intOf i').toNat)
              case atStart => exact ⟨0, rfl, Nat.zero_le _, Lib.hid (by rw [List.take_zero, List.nil_append, List.drop_zero]; exact HO8.out), HB8⟩
              case round =>
                obtain ⟨i, rfl, hi, HO, HBR⟩ := hrel
                rcases Nat.lt_or_ge i n with hlt | hge
                · have p1 : (i : Int) < (n : Int) := by omega
                  have hkW : i < W.length := by rw [← HN.out]; exact hlt
                  have hown := HO.out
                  have hfz := hown.frozenAt i
                  have hc0 := hown.cellAt i (by omega)
                  obtain ⟨x, hx⟩ : ∃ x : ByteArray, x = ⟨W[i].toArray⟩ := ⟨_, rfl⟩
                  have hxd : x.data.toList = W[i] := by rw [hx]
                  rw [List.getElem?_map, List.getElem?_append_right (by rw [List.length_take, List.length_map]; omega), List.length_take, List.length_map, Nat.min_eq_left (by omega), Nat.sub_self, List.getElem?_drop, Nat.add_zero, List.getElem?_eq_getElem hkW] at hc0
                  have hc : wr.cell? ⟨A, i, none⟩ = some (.string x) := by rw [hc0, hx]; rfl
                  have hxs : x.size ≤ 100000 := by
                    rw [Lib.size_eq, hxd]
                    have := HWL.out.2 W[i] (List.getElem_mem _)
                    simp at this
                    omega
                  have HXD := Lib.hid hxd
                  clear hc0 hx hxd hown
                  obtain ⟨y, ok, hmt⟩ : ∃ (y : ByteArray) (ok : Bool), stemF FB.data.toList x.data.toList = (y.data.toList, ok) := ⟨⟨(stemF FB.data.toList x.data.toList).1.toArray⟩, (stemF FB.data.toList x.data.toList).2, rfl⟩
                  have HMT := Lib.hid hmt
                  have hyl : y.size ≤ 100000 := by
                    have := stemF_len FB.data.toList x.data.toList
                    rw [hmt, ← Lib.size_eq, ← Lib.size_eq] at this
                    exact Nat.le_trans this hxs
                  clear hmt
                  go_wp2_with fail
                  refine (refStem_any FB x _ (by omega) (by omega)).mono ?_
                  rintro e w9 ⟨rfl, hw9⟩
                  rw [← hw9, HMT.out]
                  dsimp only
                  rw [show (⟨y.data.toList.toArray⟩ : ByteArray) = y from Lib.mk_data y]
                  clear hw9
                  cases ok with
                  | false =>
                    have HSN := Lib.hid (show wr.ownsRow w7.heap.size 9 1 (.slice (some ⟨A, 0, none⟩) n wc) n (((W.map (swapW FB.data.toList GB.data.toList)).take (i + 1) ++ W.drop (i + 1)).map strV) from by
                      rw [← take_same' hkW (by unfold swapW; rw [if_pos HPP.out, ← HXD.out, HMT.out]; rfl)]
                      exact HO.out)
                    go_wp2_with fail
                    go_roundw
                    case rel => exact ⟨i + 1, by go_num, by omega, HSN, HBR⟩
                    case measure => simp [intOf]; omega
                  | true =>
                    obtain ⟨u, hu⟩ : ∃ u : ByteArray, u = ⟨(fillF GB.data.toList y.data.toList).toArray⟩ := ⟨_, rfl⟩
                    have HU := Lib.hid hu
                    clear hu
                    have HSX := Lib.hid (show ∀ q, ((wr.drewN q).setCell ⟨A, i, none⟩ (.string u)).ownsRow w7.heap.size 9 1 (.slice (some ⟨A, 0, none⟩) n wc) n (((W.map (swapW FB.data.toList GB.data.toList)).take (i + 1) ++ W.drop (i + 1)).map strV) ∧ Below w7.heap.size w7 ((wr.drewN q).setCell ⟨A, i, none⟩ (.string u)) from fun q => by
                      have hown4 : (wr.drewN q).ownsRow w7.heap.size 9 1 (.slice (some ⟨A, 0, none⟩) n wc) n (((W.map (swapW FB.data.toList GB.data.toList)).take i ++ W.drop i).map strV) := ownsRow_keep (S := fun _ => False) HO.out ((Keeps.refl _ _).drewN q) (fun _ _ x => x)
                      refine ⟨?_, (bl_drewN HBR.out q).setCell (p := ⟨A, i, none⟩) hA _⟩
                      have h := (hown4.stored i (.string u)).1
                      rw [show ((((W.map (swapW FB.data.toList GB.data.toList)).take i ++ W.drop i).map strV).set i (.string u)) = ((W.map (swapW FB.data.toList GB.data.toList)).take (i + 1) ++ W.drop (i + 1)).map strV by
                        rw [← take_step hkW, List.map_set]
                        congr 1
                        have hg : swapW FB.data.toList GB.data.toList W[i] = fillF GB.data.toList y.data.toList := by
                          unfold swapW; rw [if_pos HPP.out, ← HXD.out, HMT.out]; rfl
                        rw [hg, HU.out]
                        rfl] at h
                      exact h)
                    go_wp2_with fail
                    refine (refFill_any GB y _ (by omega) (by omega)).mono ?_
                    rintro e w9 ⟨rfl, q4, hw9⟩
                    rw [← HU.out]
                    have HS9 := Lib.hid (HSX.out q4)
                    rw [← hw9] at HS9
                    have hfz9 : w9.frozen? ⟨A, i, none⟩ = false := by rw [hw9]; exact hfz
                    have hc9 : w9.cell? ⟨A, i, none⟩ = some (.string x) := by rw [hw9]; exact hc
                    clear hw9 hfz hc
                    go_wp2_with fail
                    go_roundw
                    case rel => exact ⟨i + 1, by go_num, by omega, Lib.hid HS9.out.1, Lib.hid HS9.out.2⟩
                    case measure => simp [intOf]; omega
                · obtain rfl : i = n := by omega
                  have p1 : ¬ (i : Int) < (i : Int) := by omega
                  clear hge
                  go_wp2_with fail
                  have HB9 := Lib.hid (show Below w7.heap.size w7 wr from HBR.out)
                  have HJO := Lib.hid (show wr.ownsRow w7.heap.size 9 1 (.slice (some ⟨A, 0, none⟩) i wc) LL.length (LL.map strV) from by
                    have h := HO.out
                    rw [List.take_of_length_le (by rw [List.length_map, HN.out]; exact Nat.le_refl _), List.drop_eq_nil_of_le (by rw [HN.out]; exact Nat.le_refl _), List.append_nil, ← HLW.out] at h
                    rw [HLL.out]
                    exact h)
                  refine (listBig_own _ LL w7.heap.size _ HJO.out 116384 HLM.out (by rw [HLL.out]; have : i * (116384 + 1) ≤ 100001 * (116384 + 1) := Nat.mul_le_mul_right _ hnb; omega)).mono ?_
                  rintro e w10 ⟨rfl, hw10⟩
                  rw [hw10, HJV.out]
                  clear hw10
                  go_wp2_with fail
                  go_ret2
                  rw [HRES2.out]
                  exact ⟨by rw [HJV.out]; rfl, HXX.out.keep (Keeps.of_below HB9.out (fun _ => False)) (fun _ _ h => h), HKX.out.trans (Keeps.of_below HB9.out (fun b => b = xb)) (fun _ _ e => e)⟩
          · have HPP := Lib.hid hp
            obtain ⟨pi, hpi⟩ : ∃ pi : Int, pi = Lib.indexByte FB.data.toList 37 := ⟨_, rfl⟩
            have hpl : pi < 0 := by rw [hpi]; exact Int.not_le.1 hp
            have HPI := Lib.hid hpi.symm
            have HNZ := Lib.hid (show ∀ k, (nth W k).size ≤ 1000000000000000 from fun k => by
              unfold nth
              rw [Lib.size_eq]
              show (W.getD k []).length ≤ _
              rw [List.getD_eq_getElem?_getD]
              cases hk : W[k]? with
              | none => exact Nat.zero_le _
              | some y =>
                have := HWL.out.2 y (List.mem_of_getElem? hk)
                simp at this
                show y.length ≤ _
                omega)
            have HEW := Lib.hid (show LL = W.map (swapOne FB.data.toList GB.data.toList) from by
              rw [HLW.out]
              exact List.map_congr_left fun x _ => by unfold swapW; rw [if_neg HPP.out])
            obtain ⟨wa, wn, wc, hwv, hwn, HRD⟩ : ∃ (a : Option Addr) (n' c : Nat), wv = .slice a n' c ∧ n' = n ∧ Hid (Reads w8 a n' (fun k => .string (nth W k))) := by
              rcases hforms with ⟨h, h0⟩ | ⟨A, wc, h⟩
              · exact ⟨none, 0, 0, h, h0.symm, Lib.hid (reads_none _)⟩
              · refine ⟨_, n, wc, h, rfl, Lib.hid (reads_own (B := w7.heap.size) (g := A) (cap := wc) ?_)⟩
                have h2 := HO8'.out
                rw [h, ← strCells_nth, ← HN.out] at h2
                exact h2
            subst hwv hwn
            clear hp hpi hforms
            go_wp2_with fail
            refine (at_any FB 37 _ (by omega)).mono ?_
            rintro e w9 ⟨rfl, hw5⟩
            rw [← hw5, HPI.out]
            clear hw5
            go_wp2_with fail
            refine (refSwapOwn_any wa wn wc (nth W) FB GB _ (by omega) HNZ.out (by omega) (by omega) HRD.out).mono ?_
            rintro e w10 ⟨u, rfl, hown10, hb10⟩
            have HJ0 := Lib.hid (show w10.ownsRow w8.heap.size 9 1 u LL.length (LL.map strV) from by
              rw [HN.out, strCells_map W (swapB FB GB) (swapOne FB.data.toList GB.data.toList) (fun x => swapB_one FB GB x)] at hown10
              rw [HEW.out, List.length_map]
              exact hown10)
            have HB10 := Lib.hid (HB8.out.trans (hb10.mono HB8.out.size))
            have hfo := row_forms hown10
            obtain ⟨xa, xn, xc, rfl⟩ : ∃ (a : Option Addr) (n c : Nat), u = .slice a n c := by
              rcases hfo with ⟨h, _⟩ | ⟨g, cap, h⟩
              · exact ⟨_, _, _, h⟩
              · exact ⟨_, _, _, h⟩
            clear hown10 hb10 hfo
            go_wp2_with fail
            have HB9 := Lib.hid (show Below w7.heap.size w7 w10 from HB10.out)
            have HJO := Lib.hid (show w10.ownsRow w8.heap.size 9 1 (.slice xa xn xc) LL.length (LL.map strV) from HJ0.out)
            refine (listBig_own _ LL w8.heap.size _ HJO.out 116384 HLM.out (by rw [HLL.out]; have : wn * (116384 + 1) ≤ 100001 * (116384 + 1) := Nat.mul_le_mul_right _ hnb; omega)).mono ?_
            rintro e w11 ⟨rfl, hw11⟩
            rw [hw11, HJV.out]
            clear hw11
            go_wp2_with fail
            go_ret2
            rw [HRES2.out]
            exact ⟨by rw [HJV.out]; rfl, HXX.out.keep (Keeps.of_below HB9.out (fun _ => False)) (fun _ _ h => h), HKX.out.trans (Keeps.of_below HB9.out (fun b => b = xb)) (fun _ _ e => e)⟩
end Go.Proofs.Ytglppnpllpfaeaa
