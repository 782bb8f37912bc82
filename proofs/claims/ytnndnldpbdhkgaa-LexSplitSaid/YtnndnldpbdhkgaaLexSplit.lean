/-
  LexSplit's walk.
-/
import Derived.Test.YtnndnldpbdhkgaaLexR6
import Derived.Test.YtnndnldpbdhkgaaLexP1
import Derived.Test.YtnndnldpbdhkgaaLexBD
namespace Go.Proofs.Ytnndnldpbdhkgaa
open Go.RowKit
set_option linter.unusedVariables false

set_option maxRecDepth 100000 in
set_option maxHeartbeats 16000000 in
theorem lexSplit_walk (a0 a1 : ByteArray) (a2 : Bool) (w : World) (h0 : a0.size ≤ 140737488351232) (h1 : a1.size ≤ 140737488351232) (hsh : w.ShapedOpen Try.prog) :
    Calls Try.prog 4 #[.string a0, .string a1, .bool a2] w fun e w' => e = .returned (.bool true) ∧ Below w.heap.size w w' := by
  have hc3 := cells_token
  obtain ⟨i0, hi0, hz0, hz1, hz2⟩ := info_parts info_token
  obtain ⟨resA, hresA⟩ : ∃ res, res = tokensF a0.data.toList := ⟨_, rfl⟩
  obtain ⟨resB, hresB⟩ : ∃ res, res = tokensF a1.data.toList := ⟨_, rfl⟩
  have ha := fun w => rtoks_any a0 w h0
  have hb := fun w => rtoks_any a1 w h1
  rw [← hresA] at ha
  rw [← hresB] at hb
  have HRA := Lib.hid ha
  have HRB := Lib.hid hb
  have HA := Lib.hid hresA.symm
  have HB := Lib.hid hresB.symm
  clear ha hb hresA hresB
  rcases Nat.lt_or_ge 300 a0.size with hl0 | hl0
  · have q1 : (300 : Int) < (a0.size : Int) := by omega
    clear hl0
    go_enter Try.func4, Try.ntmps4
    go_wp2_with fail
    refine (alive_any w).mono ?_
    rintro e w1 ⟨rfl, hk⟩
    have HK1 := Lib.hid hk
    clear hk
    go_wp2_with fail
    refine (HRA.out w1).mono ?_
    intro e w2 hp
    cases resA with
    | error x =>
      obtain ⟨hx0, rfl, hk2⟩ := hp
      have b0 : ((x : Int) != 0) = true := by rw [bne_iff_ne]; omega
      have HK2 := Lib.hid (HK1.out.trans hk2 (fun _ _ h => h))
      clear hk2 hx0
      go_wp2_with fail
      refine (HRB.out w2).mono ?_
      intro e w3 hp
      cases resB with
      | error y =>
        obtain ⟨hy0, rfl, hk3⟩ := hp
        have c0 : ((y : Int) != 0) = true := by rw [bne_iff_ne]; omega
        have HK3 := Lib.hid (HK2.out.trans hk3 (fun _ _ h => h))
        clear hk3 hy0
        go_wp2_with fail
        go_ret
        exact ⟨rfl, HK3.out.below0 (fun _ h => h.elim)⟩
      | ok y =>
        obtain ⟨u, rfl, hu, hul, hk3⟩ := hp
        obtain ⟨ya, yc, rfl, _, _⟩ := hu.shape
        have HU := Lib.hid hu
        have HUL := Lib.hid hul
        have HK23 := Lib.hid hk3
        have HK3 := Lib.hid (HK2.out.trans hk3 (fun _ _ h => h))
        obtain ⟨yn, hyn⟩ : ∃ yn, yn = y.length := ⟨_, rfl⟩
        have HYN := Lib.hid hyn
        rw [← hyn] at HU HUL
        rw [← hyn]
        clear hk3 hu hul hyn
        go_wp2_with fail
        go_ret
        exact ⟨rfl, HK3.out.below0 (fun _ h => h.elim)⟩
    | ok x =>
      obtain ⟨v, rfl, hv, hvl, hk2⟩ := hp
      obtain ⟨xa, xc, rfl, _, _⟩ := hv.shape
      have HV := Lib.hid hv
      have HVL := Lib.hid hvl
      have HK12 := Lib.hid hk2
      have HK2 := Lib.hid (HK1.out.trans hk2 (fun _ _ h => h))
      obtain ⟨xn, hxn⟩ : ∃ xn, xn = x.length := ⟨_, rfl⟩
      have HXN := Lib.hid hxn
      rw [← hxn] at HV HVL
      rw [← hxn]
      clear hk2 hv hvl hxn
      go_wp2_with fail
      refine (HRB.out w2).mono ?_
      intro e w3 hp
      cases resB with
      | error y =>
        obtain ⟨hy0, rfl, hk3⟩ := hp
        have c0 : ((y : Int) != 0) = true := by rw [bne_iff_ne]; omega
        have HK3 := Lib.hid (HK2.out.trans hk3 (fun _ _ h => h))
        clear hk3 hy0
        go_wp2_with fail
        go_ret
        exact ⟨rfl, HK3.out.below0 (fun _ h => h.elim)⟩
      | ok y =>
        obtain ⟨u, rfl, hu, hul, hk3⟩ := hp
        obtain ⟨ya, yc, rfl, _, _⟩ := hu.shape
        have HU := Lib.hid hu
        have HUL := Lib.hid hul
        have HK23 := Lib.hid hk3
        have HK3 := Lib.hid (HK2.out.trans hk3 (fun _ _ h => h))
        obtain ⟨yn, hyn⟩ : ∃ yn, yn = y.length := ⟨_, rfl⟩
        have HYN := Lib.hid hyn
        rw [← hyn] at HU HUL
        rw [← hyn]
        clear hk3 hu hul hyn
        go_wp2_with fail
        go_ret
        exact ⟨rfl, HK3.out.below0 (fun _ h => h.elim)⟩
  have q1 : ¬ (300 : Int) < (a0.size : Int) := by omega
  rcases Nat.lt_or_ge 300 a1.size with hl1 | hl1
  · have q2 : (300 : Int) < (a1.size : Int) := by omega
    clear hl1
    go_enter Try.func4, Try.ntmps4
    go_wp2_with fail
    refine (alive_any w).mono ?_
    rintro e w1 ⟨rfl, hk⟩
    have HK1 := Lib.hid hk
    clear hk
    go_wp2_with fail
    refine (HRA.out w1).mono ?_
    intro e w2 hp
    cases resA with
    | error x =>
      obtain ⟨hx0, rfl, hk2⟩ := hp
      have b0 : ((x : Int) != 0) = true := by rw [bne_iff_ne]; omega
      have HK2 := Lib.hid (HK1.out.trans hk2 (fun _ _ h => h))
      clear hk2 hx0
      go_wp2_with fail
      refine (HRB.out w2).mono ?_
      intro e w3 hp
      cases resB with
      | error y =>
        obtain ⟨hy0, rfl, hk3⟩ := hp
        have c0 : ((y : Int) != 0) = true := by rw [bne_iff_ne]; omega
        have HK3 := Lib.hid (HK2.out.trans hk3 (fun _ _ h => h))
        clear hk3 hy0
        go_wp2_with fail
        go_ret
        exact ⟨rfl, HK3.out.below0 (fun _ h => h.elim)⟩
      | ok y =>
        obtain ⟨u, rfl, hu, hul, hk3⟩ := hp
        obtain ⟨ya, yc, rfl, _, _⟩ := hu.shape
        have HU := Lib.hid hu
        have HUL := Lib.hid hul
        have HK23 := Lib.hid hk3
        have HK3 := Lib.hid (HK2.out.trans hk3 (fun _ _ h => h))
        obtain ⟨yn, hyn⟩ : ∃ yn, yn = y.length := ⟨_, rfl⟩
        have HYN := Lib.hid hyn
        rw [← hyn] at HU HUL
        rw [← hyn]
        clear hk3 hu hul hyn
        go_wp2_with fail
        go_ret
        exact ⟨rfl, HK3.out.below0 (fun _ h => h.elim)⟩
    | ok x =>
      obtain ⟨v, rfl, hv, hvl, hk2⟩ := hp
      obtain ⟨xa, xc, rfl, _, _⟩ := hv.shape
      have HV := Lib.hid hv
      have HVL := Lib.hid hvl
      have HK12 := Lib.hid hk2
      have HK2 := Lib.hid (HK1.out.trans hk2 (fun _ _ h => h))
      obtain ⟨xn, hxn⟩ : ∃ xn, xn = x.length := ⟨_, rfl⟩
      have HXN := Lib.hid hxn
      rw [← hxn] at HV HVL
      rw [← hxn]
      clear hk2 hv hvl hxn
      go_wp2_with fail
      refine (HRB.out w2).mono ?_
      intro e w3 hp
      cases resB with
      | error y =>
        obtain ⟨hy0, rfl, hk3⟩ := hp
        have c0 : ((y : Int) != 0) = true := by rw [bne_iff_ne]; omega
        have HK3 := Lib.hid (HK2.out.trans hk3 (fun _ _ h => h))
        clear hk3 hy0
        go_wp2_with fail
        go_ret
        exact ⟨rfl, HK3.out.below0 (fun _ h => h.elim)⟩
      | ok y =>
        obtain ⟨u, rfl, hu, hul, hk3⟩ := hp
        obtain ⟨ya, yc, rfl, _, _⟩ := hu.shape
        have HU := Lib.hid hu
        have HUL := Lib.hid hul
        have HK23 := Lib.hid hk3
        have HK3 := Lib.hid (HK2.out.trans hk3 (fun _ _ h => h))
        obtain ⟨yn, hyn⟩ : ∃ yn, yn = y.length := ⟨_, rfl⟩
        have HYN := Lib.hid hyn
        rw [← hyn] at HU HUL
        rw [← hyn]
        clear hk3 hu hul hyn
        go_wp2_with fail
        go_ret
        exact ⟨rfl, HK3.out.below0 (fun _ h => h.elim)⟩
  have q2 : ¬ (300 : Int) < (a1.size : Int) := by omega
  go_enter Try.func4, Try.ntmps4
  go_wp2_with fail
  refine (alive_any w).mono ?_
  rintro e w1 ⟨rfl, hk⟩
  have HK1 := Lib.hid hk
  clear hk
  go_wp2_with fail
  refine (HRA.out w1).mono ?_
  intro e w2 hp
  cases resA with
  | error x =>
    obtain ⟨hx0, rfl, hk2⟩ := hp
    have b0 : ((x : Int) != 0) = true := by rw [bne_iff_ne]; omega
    have HK2 := Lib.hid (HK1.out.trans hk2 (fun _ _ h => h))
    clear hk2 hx0
    go_wp2_with fail
    refine (HRB.out w2).mono ?_
    intro e w3 hp
    cases resB with
    | error y =>
      obtain ⟨hy0, rfl, hk3⟩ := hp
      have c0 : ((y : Int) != 0) = true := by rw [bne_iff_ne]; omega
      have HK3 := Lib.hid (HK2.out.trans hk3 (fun _ _ h => h))
      clear hk3 hy0
      go_wp2_with fail
      go_ret
      exact ⟨rfl, HK3.out.below0 (fun _ h => h.elim)⟩
    | ok y =>
      obtain ⟨u, rfl, hu, hul, hk3⟩ := hp
      obtain ⟨ya, yc, rfl, _, _⟩ := hu.shape
      have HU := Lib.hid hu
      have HUL := Lib.hid hul
      have HK23 := Lib.hid hk3
      have HK3 := Lib.hid (HK2.out.trans hk3 (fun _ _ h => h))
      obtain ⟨yn, hyn⟩ : ∃ yn, yn = y.length := ⟨_, rfl⟩
      have HYN := Lib.hid hyn
      rw [← hyn] at HU HUL
      rw [← hyn]
      clear hk3 hu hul hyn
      go_wp2_with fail
      go_ret
      exact ⟨rfl, HK3.out.below0 (fun _ h => h.elim)⟩
  | ok x =>
    obtain ⟨v, rfl, hv, hvl, hk2⟩ := hp
    obtain ⟨xa, xc, rfl, _, _⟩ := hv.shape
    have HV := Lib.hid hv
    have HVL := Lib.hid hvl
    have HK12 := Lib.hid hk2
    have HK2 := Lib.hid (HK1.out.trans hk2 (fun _ _ h => h))
    obtain ⟨xn, hxn⟩ : ∃ xn, xn = x.length := ⟨_, rfl⟩
    have HXN := Lib.hid hxn
    rw [← hxn] at HV HVL
    rw [← hxn]
    clear hk2 hv hvl hxn
    go_wp2_with fail
    refine (HRB.out w2).mono ?_
    intro e w3 hp
    cases resB with
    | error y =>
      obtain ⟨hy0, rfl, hk3⟩ := hp
      have c0 : ((y : Int) != 0) = true := by rw [bne_iff_ne]; omega
      have HK3 := Lib.hid (HK2.out.trans hk3 (fun _ _ h => h))
      clear hk3 hy0
      go_wp2_with fail
      go_ret
      exact ⟨rfl, HK3.out.below0 (fun _ h => h.elim)⟩
    | ok y =>
      obtain ⟨u, rfl, hu, hul, hk3⟩ := hp
      obtain ⟨ya, yc, rfl, _, _⟩ := hu.shape
      have HU := Lib.hid hu
      have HUL := Lib.hid hul
      have HK23 := Lib.hid hk3
      have HK3 := Lib.hid (HK2.out.trans hk3 (fun _ _ h => h))
      obtain ⟨yn, hyn⟩ : ∃ yn, yn = y.length := ⟨_, rfl⟩
      have HYN := Lib.hid hyn
      rw [← hyn] at HU HUL
      rw [← hyn]
      clear hk3 hu hul hyn
      go_wp2_with fail
      go_loopw [12] (fun k' wr => ∃ k : Nat, k' = .int .i64 k ∧ k ≤ a0.size ∧ Hid (∀ j, j < k → (byteAt a0 j == 35) = false ∧ (byteAt a0 j == 92) = false) ∧ w3 = wr) (fun k' _ => a0.size - (intOf k').toNat)
      case atStart => exact ⟨0, rfl, Nat.zero_le _, Lib.hid (fun j hj => absurd hj (Nat.not_lt_zero _)), rfl⟩
      case round =>
        obtain ⟨k, rfl, hk, HL, hwr⟩ := hrel
        subst hwr
        rcases Nat.lt_or_ge k a0.size with hlt | hge
        · have p1 : (k : Int) < (a0.size : Int) := by omega
          have hb := byteAt_in hlt
          obtain ⟨c, hc⟩ : ∃ c, c = byteAt a0 k := ⟨_, rfl⟩
          rw [← hc] at hb
          have HX := Lib.hid hc
          clear hc
          by_cases t35 : c = 35
          · have f35 : ((c.toNat : Int) == 35) = true := test_yes (c := c) (k := 35) t35
            clear t35
            go_wp2_with fail
            go_ret
            exact ⟨rfl, HK3.out.below0 (fun _ h => h.elim)⟩
          have f35 : ((c.toNat : Int) == 35) = false := test_no (c := c) (k := 35) t35
          by_cases t92 : c = 92
          · have f92 : ((c.toNat : Int) == 92) = true := test_yes (c := c) (k := 92) t92
            clear t35 t92
            go_wp2_with fail
            go_ret
            exact ⟨rfl, HK3.out.below0 (fun _ h => h.elim)⟩
          have f92 : ((c.toNat : Int) == 92) = false := test_no (c := c) (k := 92) t92
          have HL2 := Lib.hid (show (c == 35) = false ∧ (c == 92) = false from ⟨beq_eq_false_iff_ne.2 t35, beq_eq_false_iff_ne.2 t92⟩)
          clear t35 t92
          go_wp2_with fail
          go_roundw
          case rel => exact ⟨k + 1, by go_num, by omega, Lib.hid (fun j hj => by
            rcases Nat.lt_or_ge j k with h | h
            · exact HL.out j h
            · obtain rfl : j = k := by omega
              rw [← HX.out]; exact HL2.out), by first | rfl | trivial⟩
          case measure => simp [intOf]; omega
        · obtain rfl : k = a0.size := by omega
          have HFR := Lib.hid (show FreeL a0.data.toList from fun c hc => by
            obtain ⟨j, hj⟩ := List.mem_iff_getElem?.1 hc
            have h2 := HL.out j (by rw [Lib.size_eq]; exact (List.getElem?_eq_some_iff.1 hj).1)
            unfold byteAt at h2
            rw [List.getD_eq_getElem?_getD, hj] at h2
            exact h2)
          have p1 : ¬ (a0.size : Int) < (a0.size : Int) := by omega
          clear hge HL
          have HXB := Lib.hid (show xn ≤ 300 by rw [HXN.out]; have := tokC_count _ _ (may_ok HA.out).2; rw [← Lib.size_eq] at this; omega)
          have HYB := Lib.hid (show yn ≤ 300 by rw [HYN.out]; have := tokC_count _ _ (may_ok HB.out).2; rw [← Lib.size_eq] at this; omega)
          have HWW := Lib.hid (show w.heap.size ≤ w1.heap.size ∧ w1.heap.size ≤ w2.heap.size ∧ w2.heap.size ≤ w3.heap.size from ⟨HK1.out.size, HK12.out.size, HK23.out.size⟩)
          cases a2 with
          | false =>
            obtain ⟨S, hS⟩ : ∃ S, S = a0 ++ (⟨#[32]⟩ : ByteArray) ++ a1 := ⟨_, rfl⟩
            have hT := fun W => tokens_any S W (by rw [hS, ba_size, ba_size]; show a0.size + 1 + a1.size ≤ _; omega)
            rw [show tokensF S.data.toList = .ok (x ++ y) by rw [hS, ba_append, ba_append]; exact split_blank HA.out HB.out HFR.out (by rw [← Lib.size_eq, ← Lib.size_eq]; omega)] at hT
            have HT := Lib.hid hT
            have HS := Lib.hid hS
            clear hT hS
            go_wp2_with fail
            rw [← HS.out]
            refine (HT.out _).mono ?_
            rintro e w4 ⟨t, n, rfl, ht, hk4⟩
            obtain ⟨ta, tc, rfl, _, _⟩ := ht.shape
            obtain ⟨tn, htn⟩ : ∃ tn, tn = (x ++ y).length := ⟨_, rfl⟩
            rw [← htn] at ht
            rw [← htn]
            have HTK := Lib.hid ht
            have HOX := Lib.hid (((HV.out.keep HK23.out (fun _ _ _ s => s) (fun _ _ s => s)).keep hk4 (fun _ _ _ s => s) (fun _ _ s => s)).mono' (D' := fun _ => True) fun _ _ => trivial)
            have HU5 := Lib.hid (HU.out.keep hk4 (fun _ _ _ s => s) (fun _ _ s => s))
            have HKW := Lib.hid ((HK3.out.trans hk4 (fun _ _ h => h)).mono (T := fun b => w.heap.size ≤ b) fun _ _ h => h.elim)
            have hvlt : ∀ b, (Value.slice xa xn xc).ownBlock = some b → w1.heap.size ≤ b ∧ b < w2.heap.size := fun b e => ⟨HVL.out b e, HV.out.lt e⟩
            have HNB := Lib.hid (show ∀ b, w2.heap.size ≤ b → (Value.slice xa xn xc).ownBlock ≠ some b from fun b hb e => by have := (hvlt b e).2; omega)
            have HLOWX := Lib.hid (show ∀ b, (Value.slice xa xn xc).ownBlock = some b → w.heap.size ≤ b from fun b e => by have := (hvlt b e).1; have := HWW.out; omega)
            have HNX := Lib.hid (show ∀ b, (Value.slice xa xn xc).ownBlock = some b → ¬ w3.heap.size ≤ b from fun b e => by have := (hvlt b e).2; have := HWW.out; omega)
            clear ht hk4 htn hvlt
            rcases Nat.eq_zero_or_pos yn with hy0 | hy0
            · have HYE := Lib.hid (show y = [] from List.eq_nil_of_length_eq_zero (by rw [← HYN.out]; exact hy0))
              obtain ⟨m1, hm1⟩ := (HOX).out.reads (fun _ _ => trivial)
              have hsm := sametokens_any _ m1 _ _ _ _ _ _ w4 HTK.out hm1
              have hle : xn ≤ xc := by obtain ⟨a, c, e, h1, _⟩ := (HOX).out.shape; injection e with e1 e2 e3; omega
              have hsm2 : Calls Try.prog 17 #[.slice ta tn tc, .slice xa xn xc] w4 (SamePost w4 ((x) ++ y = x)) := hsm
              rw [HYE.out, List.append_nil] at hsm2
              have HM := Lib.hid hsm2
              clear hsm hsm2 hm1
              obtain rfl : yn = 0 := hy0
              go_wp2_with fail
              refine (num_any 0 _).mono ?_
              rintro e w5 ⟨rfl, hw5⟩
              rw [hw5]
              clear hw5
              go_wp2_with (at_builtin; refine wpList_append_none (by rfl) (.tmp 83) (.tmp 84) _ rfl 34 i0 Try.underlying23 hi0 xa xn xc rfl hle ya yc rfl ?_)
              refine HM.out.mono ?_
              rintro e w9 ⟨r, rfl, hr, hk9⟩
              obtain rfl : r = true := hr.2 (by first | rfl | trivial)
              have HK9 := Lib.hid (HKW.out.trans hk9 (fun _ _ h => h.elim))
              clear hr hk9
              go_wp2_with fail
              go_ret
              exact ⟨rfl, HK9.out.below (Nat.le_refl _)⟩
            · obtain ⟨hyn2, ad, xs, news, rfl, hown, hnl, hnc, hn1, hF⟩ := (HOX).out.join HU5.out (by rw [← HYN.out]; exact hy0) HNB.out
              have hxl : (x).length = xn := by obtain ⟨a, c, e, _⟩ := (HOX).out.shape; injection e with e1 e2 e3; exact e2.symm
              rw [hxl] at hown hF
              rw [← HYN.out] at hnl hF
              have HF := Lib.hid hF
              have hb1 := HXB.out
              have hb2 := HYB.out
              clear hF hxl hyn2
              go_wp2_with fail
              refine (num_any 0 _).mono ?_
              rintro e w5 ⟨rfl, hw5⟩
              rw [hw5]
              clear hw5
              go_wp2_with (at_builtin; refine wpList_append_g (by rfl) (.tmp 83) (.tmp 84) _ rfl 0 34 i0 _ 3 48 Try.underlying23 hi0 hz0 hz1 hz2 rfl (by omega) (.slice xa xn xc) xn xs rfl hown ad yn yc news rfl hnl hnc hn1 hy0 (by unfold maxLen; omega) (by omega) (by simp) w4.heap.size rfl ?_; intro gg cap w6 hown6 hgrow6 hat6 hlt6; have HJ := Lib.hid (HF.out gg cap w6 hown6 hgrow6 hat6))
              obtain ⟨⟨m1, hm1⟩, hkj⟩ := HJ.out
              have hkj2 : Keeps (fun b => w.heap.size ≤ b) w4 w6 := hkj.mono fun b _ e => HLOWX.out b e
              have hsm := sametokens_any _ m1 _ _ _ _ _ _ w6 (HTK.out.keep hkj (fun b _ hb e => HNX.out b e hb)) hm1
              have HM := Lib.hid hsm
              have HKJ := Lib.hid ((HKW.out).trans hkj2 (fun _ _ h => h))
              clear hsm hm1 hkj hkj2
              refine HM.out.mono ?_
              rintro e w9 ⟨r, rfl, hr, hk9⟩
              obtain rfl : r = true := hr.2 (by first | rfl | trivial)
              have HK9 := Lib.hid (HKJ.out.trans hk9 (fun _ _ h => h.elim))
              clear hr hk9
              go_wp2_with fail
              go_ret
              exact ⟨rfl, HK9.out.below (Nat.le_refl _)⟩
          | true =>
            obtain ⟨S, hS⟩ : ∃ S, S = a0 ++ (⟨#[10]⟩ : ByteArray) ++ a1 := ⟨_, rfl⟩
            have hT := fun W => tokens_any S W (by rw [hS, ba_size, ba_size]; show a0.size + 1 + a1.size ≤ _; omega)
            rw [show tokensF S.data.toList = .ok (x ++ [⟨2, [10], []⟩] ++ y) by rw [hS, ba_append, ba_append]; exact split_line HA.out HB.out HFR.out (by rw [← Lib.size_eq, ← Lib.size_eq]; omega)] at hT
            have HT := Lib.hid hT
            have HS := Lib.hid hS
            clear hT hS
            have hv3 := HV.out.keep HK23.out (fun _ _ _ s => s) (fun _ _ s => s)
            obtain ⟨xs0, hown0, hF0⟩ := hv3.line (o := .cells #[.int .i64 2, .string ⟨#[10]⟩, .slice none 0 0] 34 (0, 0)) ⟨#[10]⟩ HVL.out (by have := HWW.out; omega)
            rw [← HXN.out] at hown0 hF0
            have HF0 := Lib.hid hF0
            have hb1 := HXB.out
            clear hv3 hF0
            go_wp2_with (at_builtin; refine wpList_append_lies _ rfl (.tmp 65) (.tmp 67) _ rfl 0 34 i0 _ 3 48 Try.underlying23 hi0 hz0 hz1 hz2 rfl (by omega) (.slice xa xn xc) xn xs0 rfl hown0 ⟨w3.heap.size, 0, none⟩ 1 1 [.int .i64 2, .string ⟨#[10]⟩, .slice none 0 0] rfl rfl (World.news_of_block (cs := #[.int .i64 2, .string ⟨#[10]⟩, .slice none 0 0]) (t := 34) (fr := (0, 0)) (heap_alloc_new w3 _)) (by simp [Value.oneCell']) (by omega) (by unfold maxLen; omega) (by omega) (by simp) (w3.heap.size + 1) (by simp) ?_; intro gg cap w7 hown6 hgrow6 hat6 hlt6; have HL0 := Lib.hid (HF0.out gg cap w7 hown6 hgrow6 hat6))
            obtain ⟨hx7, hgB, hgo, hk7⟩ := HL0.out
            rw [← HS.out]
            refine (HT.out _).mono ?_
            rintro e w4 ⟨t, n, rfl, ht, hk4⟩
            obtain ⟨ta, tc, rfl, _, _⟩ := ht.shape
            obtain ⟨tn, htn⟩ : ∃ tn, tn = (x ++ [(⟨2, [10], []⟩ : Tk)] ++ y).length := ⟨_, rfl⟩
            rw [← htn] at ht
            rw [← htn]
            have HTK := Lib.hid ht
            have HOX := Lib.hid ((hx7.keep hk4 (fun _ _ _ s => s) (fun _ _ s => s)).mono' (D' := fun _ => True) fun _ _ => trivial)
            have hvlt : ∀ b, (Value.slice xa xn xc).ownBlock = some b → w1.heap.size ≤ b ∧ b < w2.heap.size := fun b e => ⟨HVL.out b e, HV.out.lt e⟩
            have hu7 := HU.out.bound.keep hk7 (fun b _ hb e => by have := (hvlt b e).2; omega) (fun b hb e => by have := (hvlt b e).2; have := HUL.out b hb; omega)
            have HU5 := Lib.hid (hu7.keep hk4 (fun _ _ _ s => s) (fun _ _ s => s))
            have HKW := Lib.hid (((HK3.out.mono (T := fun b => w.heap.size ≤ b) fun _ _ h => h.elim).trans hk7 (fun b _ e => by have := (hvlt b e).1; have := HWW.out; omega)).trans hk4 (fun _ _ h => h.elim))
            have hggc : (gg < w2.heap.size ∨ w3.heap.size ≤ gg) ∧ w1.heap.size ≤ gg := by
              refine ⟨?_, hgB⟩
              rcases hgo with e | e
              · exact .inl (hvlt gg e).2
              · exact .inr e
            have HNB := Lib.hid (show ∀ b, w2.heap.size ≤ b ∧ b < w3.heap.size → (Value.slice (some ⟨gg, 0, none⟩) (xn + 1) cap).ownBlock ≠ some b from fun b hb e => by
              obtain rfl : gg = b := Option.some.inj e
              omega)
            have HLOWX := Lib.hid (show ∀ b, (Value.slice (some ⟨gg, 0, none⟩) (xn + 1) cap).ownBlock = some b → w.heap.size ≤ b from fun b e => by
              obtain rfl : gg = b := Option.some.inj e
              have := HWW.out; omega)
            have HNX := Lib.hid (show ∀ b, (Value.slice (some ⟨gg, 0, none⟩) (xn + 1) cap).ownBlock = some b → ¬ w7.heap.size ≤ b from fun b e => by
              obtain rfl : gg = b := Option.some.inj e
              omega)
            clear ht hk4 htn hvlt hu7 hx7 hgB hgo hk7 hggc hown6 hgrow6 hat6 hown0
            rcases Nat.eq_zero_or_pos yn with hy0 | hy0
            · have HYE := Lib.hid (show y = [] from List.eq_nil_of_length_eq_zero (by rw [← HYN.out]; exact hy0))
              obtain ⟨m1, hm1⟩ := (HOX).out.reads (fun _ _ => trivial)
              have hsm := sametokens_any _ m1 _ _ _ _ _ _ w4 HTK.out hm1
              have hle : (xn + 1) ≤ cap := by obtain ⟨a, c, e, h1, _⟩ := (HOX).out.shape; injection e with e1 e2 e3; omega
              have hsm2 : Calls Try.prog 17 #[.slice ta tn tc, .slice (some ⟨gg, 0, none⟩) (xn + 1) cap] w4 (SamePost w4 ((x ++ [(⟨2, [10], []⟩ : Tk)]) ++ y = x ++ [(⟨2, [10], []⟩ : Tk)])) := hsm
              rw [HYE.out, List.append_nil] at hsm2
              have HM := Lib.hid hsm2
              clear hsm hsm2 hm1
              obtain rfl : yn = 0 := hy0
              go_wp2_with fail
              refine (num_any 0 _).mono ?_
              rintro e w5 ⟨rfl, hw5⟩
              rw [hw5]
              clear hw5
              go_wp2_with (at_builtin; refine wpList_append_none (by rfl) (.tmp 83) (.tmp 84) _ rfl 34 i0 Try.underlying23 hi0 (some ⟨gg, 0, none⟩) (xn + 1) cap rfl hle ya yc rfl ?_)
              refine HM.out.mono ?_
              rintro e w9 ⟨r, rfl, hr, hk9⟩
              obtain rfl : r = true := hr.2 (by first | rfl | trivial)
              have HK9 := Lib.hid (HKW.out.trans hk9 (fun _ _ h => h.elim))
              clear hr hk9
              go_wp2_with fail
              go_ret
              exact ⟨rfl, HK9.out.below (Nat.le_refl _)⟩
            · obtain ⟨hyn2, ad, xs, news, rfl, hown, hnl, hnc, hn1, hF⟩ := (HOX).out.join HU5.out (by rw [← HYN.out]; exact hy0) HNB.out
              have hxl : (x ++ [(⟨2, [10], []⟩ : Tk)]).length = (xn + 1) := by obtain ⟨a, c, e, _⟩ := (HOX).out.shape; injection e with e1 e2 e3; exact e2.symm
              rw [hxl] at hown hF
              rw [← HYN.out] at hnl hF
              have HF := Lib.hid hF
              have hb1 := HXB.out
              have hb2 := HYB.out
              clear hF hxl hyn2
              go_wp2_with fail
              refine (num_any 0 _).mono ?_
              rintro e w5 ⟨rfl, hw5⟩
              rw [hw5]
              clear hw5
              go_wp2_with (at_builtin; refine wpList_append_g (by rfl) (.tmp 83) (.tmp 84) _ rfl 0 34 i0 _ 3 48 Try.underlying23 hi0 hz0 hz1 hz2 rfl (by omega) (.slice (some ⟨gg, 0, none⟩) (xn + 1) cap) (xn + 1) xs rfl hown ad yn yc news rfl hnl hnc hn1 hy0 (by unfold maxLen; omega) (by omega) (by simp) w4.heap.size rfl ?_; intro gg cap w6 hown6 hgrow6 hat6 hlt6; have HJ := Lib.hid (HF.out gg cap w6 hown6 hgrow6 hat6))
              obtain ⟨⟨m1, hm1⟩, hkj⟩ := HJ.out
              have hkj2 : Keeps (fun b => w.heap.size ≤ b) w4 w6 := hkj.mono fun b _ e => HLOWX.out b e
              have hsm := sametokens_any _ m1 _ _ _ _ _ _ w6 (HTK.out.keep hkj (fun b _ hb e => HNX.out b e hb)) hm1
              have HM := Lib.hid hsm
              have HKJ := Lib.hid ((HKW.out).trans hkj2 (fun _ _ h => h))
              clear hsm hm1 hkj hkj2
              refine HM.out.mono ?_
              rintro e w9 ⟨r, rfl, hr, hk9⟩
              obtain rfl : r = true := hr.2 (by first | rfl | trivial)
              have HK9 := Lib.hid (HKJ.out.trans hk9 (fun _ _ h => h.elim))
              clear hr hk9
              go_wp2_with fail
              go_ret
              exact ⟨rfl, HK9.out.below (Nat.le_refl _)⟩
end Go.Proofs.Ytnndnldpbdhkgaa
