/-
  The document's expand, walked.
-/
import Derived.Test.YtglppnpllpfaeaaMacYP
namespace Go.Proofs.Ytglppnpllpfaeaa
open Go.RowKit
set_option linter.unusedVariables false

set_option maxRecDepth 100000 in
set_option maxHeartbeats 16000000 in
theorem refExpand_any (l auto : List (Bs × Bs)) (k : Nat) (HR : RRefOK l auto k) (HV : ∀ k', k = k' + 1 → ∀ (w : World) (xb : Nat) (lv av ov : Value) (op : List Bs) (deep n : Nat) (name : ByteArray), YAt w xb lv av l auto n → OpAt w xb ov op → op.length ≤ deep → deep + (k' + 1) = 40 →
    Calls Try.prog 34 #[.pointer (some ⟨xb, 0, none⟩), .string name, ov, .int .i64 deep] w (YPost w xb lv av l auto (valueF l auto op (fun o => textF (refF l auto k' o)) n name.data.toList))) (hsm : Small auto) : RTextOK l auto k := by
  intro w xb lv av ov op deep n s h ho hop hk hs
  have HX0 := Lib.hid h
  have HOPS := Lib.hid (show ∀ W, Keeps (fun b => b = xb) w W → OpAt W xb ov op from fun W hW => ho.keep hW fun b _ hb e => hb e)
  obtain ⟨la, ln, lc, rfl⟩ : ∃ (a : Option Addr) (n c : Nat), lv = .slice a n c := by obtain ⟨a, c, e, _⟩ := h.hl; exact ⟨_, _, _, e⟩
  obtain ⟨ua, un, uc, rfl⟩ : ∃ (a : Option Addr) (n c : Nat), av = .slice a n c := by obtain ⟨a, c, e, _⟩ := h.ha; exact ⟨_, _, _, e⟩
  obtain ⟨oa, oc, rfl, _⟩ := ho
  obtain ⟨m, hm⟩ : ∃ m, m = op.length := ⟨_, rfl⟩
  rw [← hm] at hop HOPS ⊢
  have HM := Lib.hid hm
  have d40 : ¬ (40 : Int) < (deep : Int) := by omega
  have ewd : IntKind.i64.wrap ((deep : Int) + 1) = (deep : Int) + 1 := IntWalk.i64_in _ (by omega)
  obtain ⟨res, hres⟩ : ∃ res, res = textF (refF l auto k op) n s.data.toList := ⟨_, rfl⟩
  rw [← hres]
  have HRES := Lib.hid hres
  clear h hm hres
  rcases Nat.lt_or_ge 16384 s.size with hbig | hsz0
  · have p1 : (16384 : Int) < (s.size : Int) := by omega
    have HE := Lib.hid (show res = .error 3 by rw [HRES.out]; unfold textF; rw [if_pos (by rw [← Lib.size_eq]; exact hbig)])
    go_enter Try.func23, Try.ntmps23
    go_wp2_with fail
    go_ret2
    rw [HE.out]
    exact ⟨rfl, by omega, Keeps.refl _ _⟩
  have p1 : ¬ (16384 : Int) < (s.size : Int) := by omega
  have HRL := Lib.hid (show res = loopC (refF l auto k op) (⟨#[]⟩ : ByteArray).data.toList n (rest s 0) by
    rw [HRES.out, textF_loop _ _ (by rw [← Lib.size_eq]; exact hsz0)]; rfl)
  go_enter Try.func23, Try.ntmps23
  go_wp2_with fail
  go_loopw [10, 11] (fun o' i' wr => ∃ (i r : Nat) (S : ByteArray), o' = .string S ∧ i' = .int .i64 i ∧ i ≤ s.size ∧ S.size ≤ 16384 ∧ Hid (res = loopC (refF l auto k op) S.data.toList r (rest s i)) ∧ Hid (YAt wr xb (.slice la ln lc) (.slice ua un uc) l auto r) ∧ Hid (Keeps (fun b => b = xb) w wr)) (fun _ i' _ => s.size - (intOf i').toNat)
  case atStart => exact ⟨0, n, ⟨#[]⟩, rfl, rfl, Nat.zero_le _, Nat.zero_le _, HRL, HX0, Lib.hid (Keeps.refl _ _)⟩
  case round =>
    obtain ⟨i, r, S, rfl, rfl, hi, hS, HI, HX, HK⟩ := hrel
    have hSl : S.data.toList.length ≤ 16384 := by rw [← Lib.size_eq]; exact hS
    have HSL := Lib.hid hSl
    clear hSl
    rcases Nat.lt_or_ge i s.size with hlt | hge
    · have p2 : (i : Int) < (s.size : Int) := by omega
      have hb := byteAt_in hlt
      obtain ⟨c, hc⟩ : ∃ c, c = byteAt s i := ⟨_, rfl⟩
      rw [← hc] at hb
      obtain ⟨i1, hi1⟩ : ∃ i1, i1 = i + 1 := ⟨_, rfl⟩
      have e1 : IntKind.i64.wrap ((i : Int) + 1) = (i1 : Int) := by rw [IntWalk.i64_in _ (by omega)]; omega
      have HRC := Lib.hid (show rest s i = c :: rest s i1 by rw [rest_cons hlt, hc, hi1])
      have HSX := Lib.hid (show (s.extract i i1).data.toList = [c] by
        rw [extract_seg _ _ _ (by omega) (by omega), hi1, segB_more hlt (Nat.le_refl _), segB_self, hc]; rfl)
      have hx1 : (s.extract i i1).size ≤ 1 := by rw [Lib.size_eq, HSX.out]; exact Nat.le_refl _
      have g01 : (i : Int) ≤ (i1 : Int) := by omega
      have g02 : (i1 : Int) ≤ (s.size : Int) := by omega
      have g03 : i < i1 := by omega
      have g04 : i1 ≤ s.size := by omega
      have HC := Lib.hid hc
      have HI1 := Lib.hid hi1
      clear hc hi1
      by_cases hc36 : c = 36
      · have b1 : ((c.toNat : Int) != 36) = false := by rw [bne, show ((c.toNat : Int) == 36) = (c == 36) from u8_eq c 36, hc36]; rfl
        rcases Nat.lt_or_ge i1 s.size with hlt1 | hge1
        · have b2 : ((i1 : Int) == (s.size : Int)) = false := beq_eq_false_iff_ne.2 (by omega)
          have hb1 := byteAt_in hlt1
          obtain ⟨d, hd0⟩ : ∃ d, d = byteAt s i1 := ⟨_, rfl⟩
          rw [← hd0] at hb1
          obtain ⟨i2, hi2⟩ : ∃ i2, i2 = i1 + 1 := ⟨_, rfl⟩
          have e2 : IntKind.i64.wrap ((i1 : Int) + 1) = (i2 : Int) := by rw [IntWalk.i64_in _ (by omega)]; omega
          have HRS := Lib.hid (show res = contF (refF l auto k op) S.data.toList (d :: rest s i2) (oneF (refF l auto k op) r (d :: rest s i2)) by
            rw [HI.out, HRC.out, hc36, loopC_sign _ _ _ HSL.out, rest_cons hlt1, ← hd0, ← hi2])
          have HDB := Lib.hid hd0.symm
          have HI2 := Lib.hid hi2
          have hi2s : i2 ≤ s.size := by omega
          have hi12 : i1 < i2 := by omega
          have p3 : (i1 : Int) < (s.size : Int) := by omega
          have hr10 := HX.out.le
          have ewr : IntKind.i64.wrap ((r : Int) + 1) = (r : Int) + 1 := IntWalk.i64_in _ (by omega)
          obtain ⟨⟨c0, c1, c2⟩, f2⟩ := HX.out.rc.three
          have HKS := Lib.hid (show Keeps (fun b => b = xb) wr (wr.setCell ⟨xb, 2, none⟩ (.int .i64 ((r : Int) + 1))) from (Keeps.refl _ _).setCell _ _ fun _ => rfl)
          have HXR := Lib.hid (show r + 1 ≤ 10000 → YAt (wr.setCell ⟨xb, 2, none⟩ (.int .i64 ((r : Int) + 1))) xb (.slice la ln lc) (.slice ua un uc) l auto (r + 1) from fun h => HX.out.set h)
          clear hd0 hi2 hc36
          by_cases h36 : d = 36
          · have f36 : ((d.toNat : Int) == 36) = true := by rw [show ((d.toNat : Int) == 36) = (d == 36) from u8_eq d 36]; exact beq_iff_eq.2 h36
            have HNX := Lib.hid (show res = if 16384 < (S.data.toList ++ [36]).length then .error 3 else loopC (refF l auto k op) (S.data.toList ++ [36]) r (rest s i2) by
              rw [HRS.out, h36, one_dollar]; rfl)
            have hsz : (S ++ (⟨#[36]⟩ : ByteArray)).size = S.size + 1 := by rw [ba_size]; rfl
            clear h36
            by_cases hlen : 16384 < S.size + 1
            · have q9 : (16384 : Int) < (S.size : Int) + 1 := by omega
              have HE := Lib.hid (show res = .error 3 by
                rw [HNX.out, if_pos]
                rw [List.length_append, ← Lib.size_eq]; exact hlen)
              clear hlen hsz
              go_wp2_with fail
              go_ret2
              rw [HE.out]
              exact ⟨rfl, by omega, HK.out⟩
            · have q9 : ¬ (16384 : Int) < (S.size : Int) + 1 := by omega
              have HE := Lib.hid (show res = loopC (refF l auto k op) (S ++ (⟨#[36]⟩ : ByteArray)).data.toList r (rest s i2) by
                rw [HNX.out, if_neg, ba_append]
                rw [List.length_append, ← Lib.size_eq]; exact hlen)
              have HSZ := Lib.hid (show (S ++ (⟨#[36]⟩ : ByteArray)).size ≤ 16384 by rw [hsz]; omega)
              clear hlen hsz
              go_wp2_with fail
              go_roundw
              case rel => exact ⟨i2, r, S ++ (⟨#[36]⟩ : ByteArray), rfl, by first | rfl | go_num, by omega, HSZ.out, HE, HX, HK⟩
              case measure => simp [intOf]; omega
          by_cases h40 : d = 40
          · have hd := h40
            clear h36 h40
            have f40 : ((d.toNat : Int) == 40) = true := by rw [show ((d.toNat : Int) == 40) = (d == 40) from u8_eq d 40]; exact beq_iff_eq.2 hd
            have f123 : ((d.toNat : Int) == 123) = false := by rw [show ((d.toNat : Int) == 123) = (d == 123) from u8_eq d 123, hd]; rfl
            have f36 : ((d.toNat : Int) == 36) = false := by rw [show ((d.toNat : Int) == 36) = (d == 36) from u8_eq d 36, hd]; rfl
            have hne : d ≠ 36 := by rw [hd]; decide
            by_cases hr : 10000 < r + 1
            · have q1 : (10000 : Int) < (r : Int) + 1 := by omega
              have HE := Lib.hid (show res = .error 3 by rw [HRS.out, one_much _ hne hr]; rfl)
              clear hr hd hne
              go_wp2_with fail
              go_ret2
              rw [HE.out]
              exact ⟨rfl, by omega, HK.out.trans HKS.out fun _ _ e => e⟩
            · have q1 : ¬ (10000 : Int) < (r : Int) + 1 := by omega
              have HRO := Lib.hid (show res = contF (refF l auto k op) S.data.toList (d :: rest s i2) (closeF (refF l auto k op) r (rest s i2) (closedF d 41 0 (rest s i2))) by rw [HRS.out, one_open _ (Or.inl ⟨hd, rfl⟩) hr])
              have HXS := Lib.hid (HXR.out (by omega))
              clear hr hd hne
              cases hcl : closedF d 41 0 (rest s i2) with
              | none =>
                have HCL := Lib.hid hcl
                have HE := Lib.hid (show res = .error 2 by rw [HRO.out, hcl]; rfl)
                clear hcl
                go_wp2_with fail
                refine (refClosing_any s i2 d 41 _ (by omega) (by omega)).mono ?_
                rintro e w3 ⟨rfl, hw3⟩
                rw [hw3, HCL.out, show closedI i2 none = -1 from rfl]
                clear hw3
                go_wp2_with fail
                go_ret2
                rw [HE.out]
                exact ⟨rfl, by omega, HK.out.trans HKS.out fun _ _ e => e⟩
              | some j =>
                have HCL := Lib.hid hcl
                have hjl := closedF_lt hcl
                have hrl : (rest s i2).length = s.size - i2 := by unfold rest; rw [List.length_drop, ← Lib.size_eq]
                obtain ⟨K, hK⟩ : ∃ K, K = j + i2 := ⟨_, rfl⟩
                obtain ⟨K1, hK1⟩ : ∃ K1, K1 = K + 1 := ⟨_, rfl⟩
                have hKs : K < s.size := by omega
                obtain ⟨q, hq⟩ : ∃ q, q = refF l auto k op (r + 1) ((rest s i2).take j) := ⟨_, rfl⟩
                have HQ := Lib.hid hq
                have HNX := Lib.hid (show res = contQ (refF l auto k op) S.data.toList (rest s K1) q by
                  rw [HRO.out, hcl]
                  show contF _ _ _ (refStep (j + 2) _) = _
                  rw [← hq]
                  refine cont_step _ _ _ _ _ _ ?_
                  show (rest s i2).drop (j + 1) = _
                  exact rest_drop (by omega))
                have HTX := Lib.hid (show (s.extract i2 K).data.toList = (rest s i2).take j by rw [ex_mid]; unfold rest; rw [show K - i2 = j by omega])
                have hTXs : (s.extract i2 K).size ≤ 16384 := by rw [Lib.size_eq, HTX.out, List.length_take, hrl]; omega
                have HQL := Lib.hid (show ∀ y r4, q = .ok (y, r4) → y.length ≤ 20000000000 from fun y r4 h => refF_len hsm (hq.symm.trans h))
                have HKI := Lib.hid (show closedI i2 (some j) = (K : Int) by rw [hK]; rfl)
                have g1 : ¬ (K : Int) < 0 := by omega
                have g2 : (i2 : Int) ≤ (K : Int) := by omega
                have g3 : (K : Int) ≤ (s.size : Int) := by omega
                have g4 : IntKind.i64.wrap ((K : Int) + 1) = (K1 : Int) := by rw [IntWalk.i64_in _ (by omega)]; omega
                have g5 : K1 ≤ s.size := by omega
                have g6 : i < K1 := by omega
                clear hcl hjl hrl hK hK1 hq hKs
                go_wp2_with fail
                refine (refClosing_any s i2 d 41 _ (by omega) (by omega)).mono ?_
                rintro e w3 ⟨rfl, hw3⟩
                rw [hw3, HCL.out, HKI.out]
                clear hw3
                go_wp2_with fail
                have hcall := HR (wr.setCell ⟨xb, 2, none⟩ (.int .i64 ((r : Int) + 1))) xb (.slice la ln lc) (.slice ua un uc) (.slice oa m oc) op deep (r + 1) (s.extract i2 K) HXS.out (HOPS.out _ (HK.out.trans HKS.out fun _ _ e => e)) (by rw [← HM.out]; exact hop) hk (by omega)
                rw [HTX.out, ← HQ.out] at hcall
                refine hcall.mono ?_
                intro e w4 hp
                have HP := Lib.hid (hp.from HKS.out)
                clear hp hcall
                cases q with
                | error x =>
                  obtain ⟨he, hx, hk4⟩ := HP.out
                  subst he
                  have HKX := Lib.hid hk4
                  have xn : ((x : Int) != 0) = true := by rw [bne_iff_ne]; omega
                  clear hk4
                  go_wp2_with fail
                  go_ret2
                  rw [show res = .error x from HNX.out]
                  exact ⟨rfl, hx, HK.out.trans HKX.out fun _ _ e => e⟩
                | ok z =>
                  obtain ⟨y, r4⟩ := z
                  obtain ⟨he, hx, hk4⟩ := HP.out
                  subst he
                  have HX4 := Lib.hid hx
                  have HK4 := Lib.hid (HK.out.trans hk4 fun _ _ e => e)
                  have HYL := Lib.hid (HQL.out y r4 (by first | rfl | trivial))
                  obtain ⟨Y, hY⟩ : ∃ Y : ByteArray, Y = ⟨y.toArray⟩ := ⟨_, rfl⟩
                  have HYD := Lib.hid (show Y.data.toList = y by rw [hY])
                  have hYs : Y.size ≤ 20000000000 := by rw [Lib.size_eq, HYD.out]; exact HYL.out
                  rw [show strV y = .string Y by rw [hY]; rfl]
                  have HSY := Lib.hid (show (S ++ Y).data.toList = S.data.toList ++ y by rw [ba_append, HYD.out])
                  have hsz : (S ++ Y).size = S.size + Y.size := ba_size _ _
                  clear hx hk4 hY
                  by_cases hlen : 16384 < S.size + Y.size
                  · have q9 : (16384 : Int) < (S.size : Int) + (Y.size : Int) := by omega
                    have HE := Lib.hid (show res = .error 3 by
                      refine HNX.out.trans ?_
                      show (if 16384 < (S.data.toList ++ y).length then _ else _) = _
                      rw [if_pos]
                      rw [← HSY.out, ← Lib.size_eq, hsz]; exact hlen)
                    clear hlen hsz
                    go_wp2_with fail
                    go_ret2
                    rw [HE.out]
                    exact ⟨rfl, by omega, HK4.out⟩
                  · have q9 : ¬ (16384 : Int) < (S.size : Int) + (Y.size : Int) := by omega
                    have HE := Lib.hid (show res = loopC (refF l auto k op) (S ++ Y).data.toList r4 (rest s K1) by
                      refine HNX.out.trans ?_
                      show (if 16384 < (S.data.toList ++ y).length then _ else _) = _
                      rw [if_neg, HSY.out]
                      rw [← HSY.out, ← Lib.size_eq, hsz]; exact hlen)
                    have HSZ := Lib.hid (show (S ++ Y).size ≤ 16384 by rw [hsz]; omega)
                    clear hlen hsz
                    go_wp2_with fail
                    go_roundw
                    case rel => exact ⟨K1, r4, S ++ Y, rfl, by first | rfl | go_num, by omega, HSZ.out, HE, HX4, HK4⟩
                    case measure => simp [intOf]; omega
          by_cases h123 : d = 123
          · have hd := h123
            clear h36 h40 h123
            have f40 : ((d.toNat : Int) == 40) = false := by rw [show ((d.toNat : Int) == 40) = (d == 40) from u8_eq d 40, hd]; rfl
            have f123 : ((d.toNat : Int) == 123) = true := by rw [show ((d.toNat : Int) == 123) = (d == 123) from u8_eq d 123]; exact beq_iff_eq.2 hd
            have f36 : ((d.toNat : Int) == 36) = false := by rw [show ((d.toNat : Int) == 36) = (d == 36) from u8_eq d 36, hd]; rfl
            have hne : d ≠ 36 := by rw [hd]; decide
            by_cases hr : 10000 < r + 1
            · have q1 : (10000 : Int) < (r : Int) + 1 := by omega
              have HE := Lib.hid (show res = .error 3 by rw [HRS.out, one_much _ hne hr]; rfl)
              clear hr hd hne
              go_wp2_with fail
              go_ret2
              rw [HE.out]
              exact ⟨rfl, by omega, HK.out.trans HKS.out fun _ _ e => e⟩
            · have q1 : ¬ (10000 : Int) < (r : Int) + 1 := by omega
              have HRO := Lib.hid (show res = contF (refF l auto k op) S.data.toList (d :: rest s i2) (closeF (refF l auto k op) r (rest s i2) (closedF d 125 0 (rest s i2))) by rw [HRS.out, one_open _ (Or.inr ⟨hd, rfl⟩) hr])
              have HXS := Lib.hid (HXR.out (by omega))
              clear hr hd hne
              cases hcl : closedF d 125 0 (rest s i2) with
              | none =>
                have HCL := Lib.hid hcl
                have HE := Lib.hid (show res = .error 2 by rw [HRO.out, hcl]; rfl)
                clear hcl
                go_wp2_with fail
                refine (refClosing_any s i2 d 125 _ (by omega) (by omega)).mono ?_
                rintro e w3 ⟨rfl, hw3⟩
                rw [hw3, HCL.out, show closedI i2 none = -1 from rfl]
                clear hw3
                go_wp2_with fail
                go_ret2
                rw [HE.out]
                exact ⟨rfl, by omega, HK.out.trans HKS.out fun _ _ e => e⟩
              | some j =>
                have HCL := Lib.hid hcl
                have hjl := closedF_lt hcl
                have hrl : (rest s i2).length = s.size - i2 := by unfold rest; rw [List.length_drop, ← Lib.size_eq]
                obtain ⟨K, hK⟩ : ∃ K, K = j + i2 := ⟨_, rfl⟩
                obtain ⟨K1, hK1⟩ : ∃ K1, K1 = K + 1 := ⟨_, rfl⟩
                have hKs : K < s.size := by omega
                obtain ⟨q, hq⟩ : ∃ q, q = refF l auto k op (r + 1) ((rest s i2).take j) := ⟨_, rfl⟩
                have HQ := Lib.hid hq
                have HNX := Lib.hid (show res = contQ (refF l auto k op) S.data.toList (rest s K1) q by
                  rw [HRO.out, hcl]
                  show contF _ _ _ (refStep (j + 2) _) = _
                  rw [← hq]
                  refine cont_step _ _ _ _ _ _ ?_
                  show (rest s i2).drop (j + 1) = _
                  exact rest_drop (by omega))
                have HTX := Lib.hid (show (s.extract i2 K).data.toList = (rest s i2).take j by rw [ex_mid]; unfold rest; rw [show K - i2 = j by omega])
                have hTXs : (s.extract i2 K).size ≤ 16384 := by rw [Lib.size_eq, HTX.out, List.length_take, hrl]; omega
                have HQL := Lib.hid (show ∀ y r4, q = .ok (y, r4) → y.length ≤ 20000000000 from fun y r4 h => refF_len hsm (hq.symm.trans h))
                have HKI := Lib.hid (show closedI i2 (some j) = (K : Int) by rw [hK]; rfl)
                have g1 : ¬ (K : Int) < 0 := by omega
                have g2 : (i2 : Int) ≤ (K : Int) := by omega
                have g3 : (K : Int) ≤ (s.size : Int) := by omega
                have g4 : IntKind.i64.wrap ((K : Int) + 1) = (K1 : Int) := by rw [IntWalk.i64_in _ (by omega)]; omega
                have g5 : K1 ≤ s.size := by omega
                have g6 : i < K1 := by omega
                clear hcl hjl hrl hK hK1 hq hKs
                go_wp2_with fail
                refine (refClosing_any s i2 d 125 _ (by omega) (by omega)).mono ?_
                rintro e w3 ⟨rfl, hw3⟩
                rw [hw3, HCL.out, HKI.out]
                clear hw3
                go_wp2_with fail
                have hcall := HR (wr.setCell ⟨xb, 2, none⟩ (.int .i64 ((r : Int) + 1))) xb (.slice la ln lc) (.slice ua un uc) (.slice oa m oc) op deep (r + 1) (s.extract i2 K) HXS.out (HOPS.out _ (HK.out.trans HKS.out fun _ _ e => e)) (by rw [← HM.out]; exact hop) hk (by omega)
                rw [HTX.out, ← HQ.out] at hcall
                refine hcall.mono ?_
                intro e w4 hp
                have HP := Lib.hid (hp.from HKS.out)
                clear hp hcall
                cases q with
                | error x =>
                  obtain ⟨he, hx, hk4⟩ := HP.out
                  subst he
                  have HKX := Lib.hid hk4
                  have xn : ((x : Int) != 0) = true := by rw [bne_iff_ne]; omega
                  clear hk4
                  go_wp2_with fail
                  go_ret2
                  rw [show res = .error x from HNX.out]
                  exact ⟨rfl, hx, HK.out.trans HKX.out fun _ _ e => e⟩
                | ok z =>
                  obtain ⟨y, r4⟩ := z
                  obtain ⟨he, hx, hk4⟩ := HP.out
                  subst he
                  have HX4 := Lib.hid hx
                  have HK4 := Lib.hid (HK.out.trans hk4 fun _ _ e => e)
                  have HYL := Lib.hid (HQL.out y r4 (by first | rfl | trivial))
                  obtain ⟨Y, hY⟩ : ∃ Y : ByteArray, Y = ⟨y.toArray⟩ := ⟨_, rfl⟩
                  have HYD := Lib.hid (show Y.data.toList = y by rw [hY])
                  have hYs : Y.size ≤ 20000000000 := by rw [Lib.size_eq, HYD.out]; exact HYL.out
                  rw [show strV y = .string Y by rw [hY]; rfl]
                  have HSY := Lib.hid (show (S ++ Y).data.toList = S.data.toList ++ y by rw [ba_append, HYD.out])
                  have hsz : (S ++ Y).size = S.size + Y.size := ba_size _ _
                  clear hx hk4 hY
                  by_cases hlen : 16384 < S.size + Y.size
                  · have q9 : (16384 : Int) < (S.size : Int) + (Y.size : Int) := by omega
                    have HE := Lib.hid (show res = .error 3 by
                      refine HNX.out.trans ?_
                      show (if 16384 < (S.data.toList ++ y).length then _ else _) = _
                      rw [if_pos]
                      rw [← HSY.out, ← Lib.size_eq, hsz]; exact hlen)
                    clear hlen hsz
                    go_wp2_with fail
                    go_ret2
                    rw [HE.out]
                    exact ⟨rfl, by omega, HK4.out⟩
                  · have q9 : ¬ (16384 : Int) < (S.size : Int) + (Y.size : Int) := by omega
                    have HE := Lib.hid (show res = loopC (refF l auto k op) (S ++ Y).data.toList r4 (rest s K1) by
                      refine HNX.out.trans ?_
                      show (if 16384 < (S.data.toList ++ y).length then _ else _) = _
                      rw [if_neg, HSY.out]
                      rw [← HSY.out, ← Lib.size_eq, hsz]; exact hlen)
                    have HSZ := Lib.hid (show (S ++ Y).size ≤ 16384 by rw [hsz]; omega)
                    clear hlen hsz
                    go_wp2_with fail
                    go_roundw
                    case rel => exact ⟨K1, r4, S ++ Y, rfl, by first | rfl | go_num, by omega, HSZ.out, HE, HX4, HK4⟩
                    case measure => simp [intOf]; omega
          have f40 : ((d.toNat : Int) == 40) = false := by rw [show ((d.toNat : Int) == 40) = (d == 40) from u8_eq d 40]; exact beq_eq_false_iff_ne.2 h40
          have f123 : ((d.toNat : Int) == 123) = false := by rw [show ((d.toNat : Int) == 123) = (d == 123) from u8_eq d 123]; exact beq_eq_false_iff_ne.2 h123
          have f36 : ((d.toNat : Int) == 36) = false := by rw [show ((d.toNat : Int) == 36) = (d == 36) from u8_eq d 36]; exact beq_eq_false_iff_ne.2 h36
          by_cases hr : 10000 < r + 1
          · have q1 : (10000 : Int) < (r : Int) + 1 := by omega
            have HE := Lib.hid (show res = .error 3 by rw [HRS.out, one_much _ h36 hr]; rfl)
            clear hr h36 h40 h123
            go_wp2_with fail
            go_ret2
            rw [HE.out]
            exact ⟨rfl, by omega, HK.out.trans HKS.out fun _ _ e => e⟩
          · have q1 : ¬ (10000 : Int) < (r : Int) + 1 := by omega
            obtain ⟨q, hq⟩ : ∃ q, q = refF l auto k op (r + 1) [d] := ⟨_, rfl⟩
            have HQ := Lib.hid hq
            have HNX := Lib.hid (show res = contQ (refF l auto k op) S.data.toList (rest s i2) q by
              rw [HRS.out, one_other _ h36 h40 h123 hr, ← hq]
              exact cont_step _ _ _ _ _ _ rfl)
            have HXS := Lib.hid (HXR.out (by omega))
            have H36 := Lib.hid h36
            have HQL := Lib.hid (show ∀ y r4, q = .ok (y, r4) → y.length ≤ 20000000000 from fun y r4 h => refF_len hsm (hq.symm.trans h))
            clear hr h36 h40 h123 hq
            cases k with
            | zero =>
              have q2 : (40 : Int) < (deep : Int) + 1 := by omega
              have HE := Lib.hid (show res = .error 3 by rw [HNX.out, HQ.out]; rfl)
              go_wp2_with fail
              go_ret2
              rw [HE.out]
              exact ⟨rfl, by omega, HK.out.trans HKS.out fun _ _ e => e⟩
            | succ k' =>
              have q2 : ¬ (40 : Int) < (deep : Int) + 1 := by omega
              have HTX := Lib.hid (show (s.extract i1 i2).data.toList = [d] by
                rw [extract_seg _ _ _ (by omega) (by omega), HI2.out, segB_more (by omega) (Nat.le_refl _), segB_self, HDB.out]; rfl)
              have HQV := Lib.hid (show q = valueF l auto op (fun o => textF (refF l auto k' o)) (r + 1) [d] by rw [HQ.out, ref_single H36.out])
              have g2 : (i1 : Int) ≤ (i2 : Int) := by omega
              have g3 : (i2 : Int) ≤ (s.size : Int) := by omega
              have g5 : i2 ≤ s.size := by omega
              have g6 : i < i2 := by omega
              go_wp2_with fail
              have hcall := HV k' rfl (wr.setCell ⟨xb, 2, none⟩ (.int .i64 ((r : Int) + 1))) xb (.slice la ln lc) (.slice ua un uc) (.slice oa m oc) op deep (r + 1) (s.extract i1 i2) HXS.out (HOPS.out _ (HK.out.trans HKS.out fun _ _ e => e)) (by rw [← HM.out]; exact hop) hk
              rw [HTX.out, ← HQV.out] at hcall
              refine hcall.mono ?_
              intro e w4 hp
              have HP := Lib.hid (hp.from HKS.out)
              clear hp hcall
              cases q with
              | error x =>
                obtain ⟨he, hx, hk4⟩ := HP.out
                subst he
                have HKX := Lib.hid hk4
                have xn : ((x : Int) != 0) = true := by rw [bne_iff_ne]; omega
                clear hk4
                go_wp2_with fail
                go_ret2
                rw [show res = .error x from HNX.out]
                exact ⟨rfl, hx, HK.out.trans HKX.out fun _ _ e => e⟩
              | ok z =>
                obtain ⟨y, r4⟩ := z
                obtain ⟨he, hx, hk4⟩ := HP.out
                subst he
                have HX4 := Lib.hid hx
                have HK4 := Lib.hid (HK.out.trans hk4 fun _ _ e => e)
                have HYL := Lib.hid (HQL.out y r4 (by first | rfl | trivial))
                obtain ⟨Y, hY⟩ : ∃ Y : ByteArray, Y = ⟨y.toArray⟩ := ⟨_, rfl⟩
                have HYD := Lib.hid (show Y.data.toList = y by rw [hY])
                have hYs : Y.size ≤ 20000000000 := by rw [Lib.size_eq, HYD.out]; exact HYL.out
                rw [show strV y = .string Y by rw [hY]; rfl]
                have HSY := Lib.hid (show (S ++ Y).data.toList = S.data.toList ++ y by rw [ba_append, HYD.out])
                have hsz : (S ++ Y).size = S.size + Y.size := ba_size _ _
                clear hx hk4 hY
                by_cases hlen : 16384 < S.size + Y.size
                · have q9 : (16384 : Int) < (S.size : Int) + (Y.size : Int) := by omega
                  have HE := Lib.hid (show res = .error 3 by
                    refine HNX.out.trans ?_
                    show (if 16384 < (S.data.toList ++ y).length then _ else _) = _
                    rw [if_pos]
                    rw [← HSY.out, ← Lib.size_eq, hsz]; exact hlen)
                  clear hlen hsz
                  go_wp2_with fail
                  go_ret2
                  rw [HE.out]
                  exact ⟨rfl, by omega, HK4.out⟩
                · have q9 : ¬ (16384 : Int) < (S.size : Int) + (Y.size : Int) := by omega
                  have HE := Lib.hid (show res = loopC (refF l auto (k' + 1) op) (S ++ Y).data.toList r4 (rest s i2) by
                    refine HNX.out.trans ?_
                    show (if 16384 < (S.data.toList ++ y).length then _ else _) = _
                    rw [if_neg, HSY.out]
                    rw [← HSY.out, ← Lib.size_eq, hsz]; exact hlen)
                  have HSZ := Lib.hid (show (S ++ Y).size ≤ 16384 by rw [hsz]; omega)
                  clear hlen hsz
                  go_wp2_with fail
                  go_roundw
                  case rel => exact ⟨i2, r4, S ++ Y, rfl, by first | rfl | go_num, by omega, HSZ.out, HE, HX4, HK4⟩
                  case measure => simp [intOf]; omega
        · have b2 : ((i1 : Int) == (s.size : Int)) = true := by rw [beq_iff_eq]; omega
          have HNX := Lib.hid (show res = if 16384 < (S.data.toList ++ [c]).length then .error 3 else loopC (refF l auto k op) (S.data.toList ++ [c]) r (rest s i1) by
            rw [HI.out, HRC.out, rest_nil (by omega), hc36, loopC_last _ _ _ HSL.out])
          clear hc36
          have hsz : (S ++ s.extract i i1).size = S.size + 1 := by rw [ba_size, Lib.size_eq (s.extract i i1), HSX.out]; rfl
          by_cases hlen : 16384 < S.size + 1
          · have q9 : (16384 : Int) < (S.size : Int) + ((s.extract i i1).size : Int) := by
              have := ba_size S (s.extract i i1)
              omega
            have q8 : (16384 : Int) < (S.size : Int) + ((i1 - i : Nat) : Int) := by
              have := HI1.out
              omega
            have HE := Lib.hid (show res = .error 3 by
              rw [HNX.out, if_pos]
              rw [List.length_append, ← Lib.size_eq]; exact hlen)
            clear hlen hsz
            go_wp2_with fail
            go_ret2
            rw [HE.out]
            exact ⟨rfl, by omega, HK.out⟩
          · have q9 : ¬ (16384 : Int) < (S.size : Int) + ((s.extract i i1).size : Int) := by
              have := ba_size S (s.extract i i1)
              omega
            have q8 : ¬ (16384 : Int) < (S.size : Int) + ((i1 - i : Nat) : Int) := by
              have := HI1.out
              omega
            have HE := Lib.hid (show res = loopC (refF l auto k op) (S ++ s.extract i i1).data.toList r (rest s i1) by
              rw [HNX.out, if_neg, ba_append, HSX.out]
              rw [List.length_append, ← Lib.size_eq]; exact hlen)
            have HSZ := Lib.hid (show (S ++ s.extract i i1).size ≤ 16384 by rw [hsz]; omega)
            clear hlen hsz
            go_wp2_with fail
            go_roundw
            case rel => exact ⟨i1, r, S ++ s.extract i i1, rfl, by first | rfl | go_num, by omega, HSZ.out, HE, HX, HK⟩
            case measure => simp [intOf]; omega
      · have b1 : ((c.toNat : Int) != 36) = true := by rw [bne, show ((c.toNat : Int) == 36) = (c == 36) from u8_eq c 36, beq_eq_false_iff_ne.2 hc36]; rfl
        have HNX := Lib.hid (show res = if 16384 < (S.data.toList ++ [c]).length then .error 3 else loopC (refF l auto k op) (S.data.toList ++ [c]) r (rest s i1) by
          rw [HI.out, HRC.out, loopC_byte _ _ _ hc36])
        clear hc36
        have hsz : (S ++ s.extract i i1).size = S.size + 1 := by rw [ba_size, Lib.size_eq (s.extract i i1), HSX.out]; rfl
        by_cases hlen : 16384 < S.size + 1
        · have q9 : (16384 : Int) < (S.size : Int) + ((s.extract i i1).size : Int) := by
            have := ba_size S (s.extract i i1)
            omega
          have q8 : (16384 : Int) < (S.size : Int) + ((i1 - i : Nat) : Int) := by
            have := HI1.out
            omega
          have HE := Lib.hid (show res = .error 3 by
            rw [HNX.out, if_pos]
            rw [List.length_append, ← Lib.size_eq]; exact hlen)
          clear hlen hsz
          go_wp2_with fail
          go_ret2
          rw [HE.out]
          exact ⟨rfl, by omega, HK.out⟩
        · have q9 : ¬ (16384 : Int) < (S.size : Int) + ((s.extract i i1).size : Int) := by
            have := ba_size S (s.extract i i1)
            omega
          have q8 : ¬ (16384 : Int) < (S.size : Int) + ((i1 - i : Nat) : Int) := by
            have := HI1.out
            omega
          have HE := Lib.hid (show res = loopC (refF l auto k op) (S ++ s.extract i i1).data.toList r (rest s i1) by
            rw [HNX.out, if_neg, ba_append, HSX.out]
            rw [List.length_append, ← Lib.size_eq]; exact hlen)
          have HSZ := Lib.hid (show (S ++ s.extract i i1).size ≤ 16384 by rw [hsz]; omega)
          clear hlen hsz
          go_wp2_with fail
          go_roundw
          case rel => exact ⟨i1, r, S ++ s.extract i i1, rfl, by first | rfl | go_num, by omega, HSZ.out, HE, HX, HK⟩
          case measure => simp [intOf]; omega
    · have p2 : ¬ (i : Int) < (s.size : Int) := by omega
      have HE := Lib.hid (show res = .ok (S.data.toList, r) by rw [HI.out, rest_nil hge, loopC_end _ _ _ HSL.out])
      go_wp2_with fail
      go_ret2
      rw [HE.out]
      exact ⟨by rw [strV_of (s := S) rfl]; rfl, HX.out, HK.out⟩
theorem refText_all (l auto : List (Bs × Bs)) (hsm : Small l ∧ Small auto) : ∀ k, RTextOK l auto k
  | 0 => refExpand_any l auto 0 (refReference_zero l auto) (fun k' h => by cases h) hsm.2
  | k + 1 => refExpand_any l auto (k + 1) (refReference_succ l auto k (refText_all l auto hsm k) hsm) (fun k' h => by
      obtain rfl : k = k' := by omega
      exact refValue_any l auto k (refText_all l auto hsm k) hsm.1) hsm.2
end Go.Proofs.Ytglppnpllpfaeaa
