/-
  The document's own reader: one thing in double quotes.
-/
import Derived.Test.YtnndnldpbdhkgaaLexRJ
namespace Go.Proofs.Ytnndnldpbdhkgaa
open Go.RowKit
set_option linter.unusedVariables false

set_option maxRecDepth 100000 in
set_option maxHeartbeats 8000000 in
theorem rinner_any (N : Nat) (IH : DolOK N) : InnOK N := by
  intro B cs s I d v raw w h hI hs hd hr hcB hB hl hN
  obtain ⟨res, hres⟩ : ∃ res, res = lexC (.one true) d (rest s I) := ⟨_, rfl⟩
  rw [← hres]
  obtain ⟨c, hc⟩ : ∃ c, c = byteAt s I := ⟨_, rfl⟩
  obtain ⟨x, hx⟩ : ∃ x, x = byteAt s (I + 1) := ⟨_, rfl⟩
  have hhd : (rest s (I + 1)).headD 0 = x := by
    rw [hx]
    rcases Nat.lt_or_ge (I + 1) s.size with h | h
    · rw [rest_cons h]; rfl
    · rw [rest_nil h]
      unfold byteAt
      rw [List.getD_eq_getElem?_getD, List.getElem?_eq_none (by rw [← Lib.size_eq]; omega)]; rfl
  have hh10 : headIs 10 (rest s (I + 1)) = (x == 10) := by
    rw [hx]
    rcases Nat.lt_or_ge (I + 1) s.size with h | h
    · rw [rest_cons h]; rfl
    · rw [rest_nil h]
      unfold byteAt
      rw [List.getD_eq_getElem?_getD, List.getElem?_eq_none (by rw [← Lib.size_eq]; omega)]; rfl
  rw [rest_cons hI, ← hc, lexC_inn, hhd, hh10, rest_tail] at hres
  have HIN := Lib.hid (show x ≠ 0 → I + 1 < s.size from fun hc0 => by
    rcases Nat.lt_or_ge (I + 1) s.size with h | h
    · exact h
    · exfalso; apply hc0
      rw [hx]; unfold byteAt
      rw [List.getD_eq_getElem?_getD, List.getElem?_eq_none (by rw [← Lib.size_eq]; omega)]; rfl)
  obtain ⟨va, vc, rfl, _, _⟩ := hr.shape
  obtain ⟨R0, hR0⟩ : ∃ R0, R0 = raw.length := ⟨_, rfl⟩
  have hlw := wtF_len raw
  rw [← hR0] at hr hlw ⊢
  have HROW := Lib.hid hr
  have HR0 := Lib.hid hR0
  have HRES := Lib.hid hres
  have HC := Lib.hid hc.symm
  have HX := Lib.hid hx.symm
  have lcs := h.lt
  clear hr hres hR0 hc hx hhd hh10
  by_cases t34 : c = 34
  · have f34 : ((c.toNat : Int) == 34) = true := test_yes (c := c) (k := 34) t34
    have HE2 := Lib.hid (show res = .error 2 by rw [HRES.out, t34]; rfl)
    clear t34
    go_enter Try.func48, Try.ntmps48
    go_wp2_with fail
    refine (see0_any cs s I _ _ h (by omega) (by omega)).mono ?_
    rintro e w1 ⟨rfl, q1, rfl⟩
    rw [HC.out]
    obtain ⟨W0, hW⟩ : ∃ W0, W0 = w.drewN q1 := ⟨_, rfl⟩
    rw [← hW]
    have hsW0 : ScanAt W0 cs s I ((0 : Nat) : Int) := by rw [hW]; exact h.drewN _
    have HKW0 := Lib.hid (show Keeps (fun b => b = cs) w W0 by rw [hW]; exact (Keeps.refl _ _).drewN _)
    clear hW
    go_wp2_with fail
    refine (rfail_any cs s I 0 2 _ hsW0).mono ?_
    rintro e w2 ⟨rfl, hs2, hk2⟩
    have HS2 := Lib.hid hs2
    have HK2 := Lib.hid (HKW0.out.trans hk2 (fun _ _ e => e))
    clear hs2 hk2
    go_wp2_with fail
    go_ret
    rw [HE2.out]
    exact ⟨by decide, _, I, raw, rfl, by omega, HS2.out, HROW.out.keep HK2.out (fun _ _ e => by omega), by omega, HK2.out.mono fun _ _ e => .inl e⟩
  have f34 : ((c.toNat : Int) == 34) = false := test_no (c := c) (k := 34) t34
  have G34 := Lib.hid (show (c == 34) = false from beq_eq_false_iff_ne.2 t34)
  clear t34
  by_cases t96 : c = 96
  · have f96 : ((c.toNat : Int) == 96) = true := test_yes (c := c) (k := 96) t96
    have HE2 := Lib.hid (show res = .error 2 by rw [HRES.out, t96]; rfl)
    clear t96
    go_enter Try.func48, Try.ntmps48
    go_wp2_with fail
    refine (see0_any cs s I _ _ h (by omega) (by omega)).mono ?_
    rintro e w1 ⟨rfl, q1, rfl⟩
    rw [HC.out]
    obtain ⟨W0, hW⟩ : ∃ W0, W0 = w.drewN q1 := ⟨_, rfl⟩
    rw [← hW]
    have hsW0 : ScanAt W0 cs s I ((0 : Nat) : Int) := by rw [hW]; exact h.drewN _
    have HKW0 := Lib.hid (show Keeps (fun b => b = cs) w W0 by rw [hW]; exact (Keeps.refl _ _).drewN _)
    clear hW
    go_wp2_with fail
    refine (rfail_any cs s I 0 2 _ hsW0).mono ?_
    rintro e w2 ⟨rfl, hs2, hk2⟩
    have HS2 := Lib.hid hs2
    have HK2 := Lib.hid (HKW0.out.trans hk2 (fun _ _ e => e))
    clear hs2 hk2
    go_wp2_with fail
    go_ret
    rw [HE2.out]
    exact ⟨by decide, _, I, raw, rfl, by omega, HS2.out, HROW.out.keep HK2.out (fun _ _ e => by omega), by omega, HK2.out.mono fun _ _ e => .inl e⟩
  have f96 : ((c.toNat : Int) == 96) = false := test_no (c := c) (k := 96) t96
  have G96 := Lib.hid (show (c == 96) = false from beq_eq_false_iff_ne.2 t96)
  clear t96
  by_cases t36 : c = 36
  · have f36 : ((c.toNat : Int) == 36) = true := test_yes (c := c) (k := 36) t36
    have HRB := Lib.hid (show res = lexC (.dol true) d (rest s (I + 1)) by
      rw [HRES.out, G34.out, G96.out, t36]; rfl)
    clear t36
    go_enter Try.func48, Try.ntmps48
    go_wp2_with fail
    refine (see0_any cs s I _ _ h (by omega) (by omega)).mono ?_
    rintro e w1 ⟨rfl, q1, rfl⟩
    rw [HC.out]
    obtain ⟨W0, hW⟩ : ∃ W0, W0 = w.drewN q1 := ⟨_, rfl⟩
    rw [← hW]
    have hsW0 : ScanAt W0 cs s I ((0 : Nat) : Int) := by rw [hW]; exact h.drewN _
    have HKW0 := Lib.hid (show Keeps (fun b => b = cs) w W0 by rw [hW]; exact (Keeps.refl _ _).drewN _)
    clear hW
    have hcall := IH B cs s I d true (.slice va R0 vc) raw W0 hsW0 hI hs hd (HROW.out.keep HKW0.out (fun _ _ e => by omega)) hcB (Nat.le_trans hB HKW0.out.size) hl hN
    have HCALL := Lib.hid hcall
    clear hcall
    go_wp2_with fail
    refine HCALL.out.mono ?_
    intro e w6 hp
    rw [← HRB.out] at hp
    obtain ⟨a, n, cc, rfl, hp2⟩ := hp.from HKW0.out
    have HP := Lib.hid hp2
    clear hp hp2
    go_wp2_with fail
    go_ret
    exact HP.out
  have f36 : ((c.toNat : Int) == 36) = false := test_no (c := c) (k := 36) t36
  have G36 := Lib.hid (show (c == 36) = false from beq_eq_false_iff_ne.2 t36)
  clear t36
  by_cases t92 : c = 92
  · have f92 : ((c.toNat : Int) == 92) = true := test_yes (c := c) (k := 92) t92
    have HR92 := Lib.hid (show res = if x == 10 then .ok ([], rest s (I + 1 + 1)) else if escB x then .ok ([quoP [x]], rest s (I + 1 + 1)) else .ok ([quoP [c]], rest s (I + 1)) by
      rw [HRES.out, G34.out, G96.out, G36.out, t92]
      rfl)
    clear t92
    by_cases t10 : x = 10
    · have x10 : ((x.toNat : Int) == 10) = true := test_yes (c := x) (k := 10) t10
      have hin := HIN.out (by rw [t10]; decide)
      have HOK := Lib.hid (show res = .ok ([], rest s (I + 2)) by rw [HR92.out, t10]; rfl)
      clear t10
      go_enter Try.func48, Try.ntmps48
      go_wp2_with fail
      refine (see0_any cs s I _ _ h (by omega) (by omega)).mono ?_
      rintro e w1 ⟨rfl, q1, rfl⟩
      rw [HC.out]
      obtain ⟨W0, hW⟩ : ∃ W0, W0 = w.drewN q1 := ⟨_, rfl⟩
      rw [← hW]
      have hsW0 : ScanAt W0 cs s I ((0 : Nat) : Int) := by rw [hW]; exact h.drewN _
      have HKW0 := Lib.hid (show Keeps (fun b => b = cs) w W0 by rw [hW]; exact (Keeps.refl _ _).drewN _)
      clear hW
      go_wp2_with fail
      refine (see1_any cs s I _ _ hsW0 (by omega) (by omega)).mono ?_
      rintro e w2 ⟨rfl, q2, rfl⟩
      rw [HX.out]
      obtain ⟨W1, hW⟩ : ∃ Z : World, Z = W0.drewN q2 := ⟨_, rfl⟩
      rw [← hW]
      have hsW1 : ScanAt W1 cs s I ((0 : Nat) : Int) := by rw [hW]; exact hsW0.drewN _
      have HKW1 := Lib.hid (show Keeps (fun b => b = cs) w W1 by rw [hW]; exact HKW0.out.drewN _)
      clear hW
      obtain ⟨d0, d1, d2, g1, g2⟩ := hsW1.cells
      obtain ⟨hs5, hk5⟩ := rmoved hsW1 (j := (I : Int) + 2) (J := I + 2) (by omega)
      have HS5 := Lib.hid hs5
      have HK5 := Lib.hid (HKW1.out.trans hk5 (fun _ _ e => e))
      clear hs5 hk5
      go_wp2_with fail
      go_ret
      rw [HOK.out]
      exact ⟨_, I + 2, rfl, by omega, rfl, HS5.out, by rw [List.append_nil]; exact HROW.out.keep HK5.out (fun _ _ e => by omega), by rw [List.append_nil]; omega, HK5.out.mono fun _ _ e => .inl e⟩
    have x10 : ((x.toNat : Int) == 10) = false := test_no (c := x) (k := 10) t10
    have G10 := Lib.hid (show (x == 10) = false from beq_eq_false_iff_ne.2 t10)
    clear t10
    by_cases u36 : x = 36
    · have x36 : ((x.toNat : Int) == 36) = true := test_yes (c := x) (k := 36) u36
      have hin := HIN.out (by rw [u36]; decide)
      have HOK := Lib.hid (show res = .ok ([quoP [x]], rest s (I + 2)) by rw [HR92.out, G10.out, u36]; rfl)
      clear u36
      go_enter Try.func48, Try.ntmps48
      go_wp2_with fail
      refine (see0_any cs s I _ _ h (by omega) (by omega)).mono ?_
      rintro e w1 ⟨rfl, q1, rfl⟩
      rw [HC.out]
      obtain ⟨W0, hW⟩ : ∃ W0, W0 = w.drewN q1 := ⟨_, rfl⟩
      rw [← hW]
      have hsW0 : ScanAt W0 cs s I ((0 : Nat) : Int) := by rw [hW]; exact h.drewN _
      have HKW0 := Lib.hid (show Keeps (fun b => b = cs) w W0 by rw [hW]; exact (Keeps.refl _ _).drewN _)
      clear hW
      go_wp2_with fail
      refine (see1_any cs s I _ _ hsW0 (by omega) (by omega)).mono ?_
      rintro e w2 ⟨rfl, q2, rfl⟩
      rw [HX.out]
      obtain ⟨W1, hW⟩ : ∃ Z : World, Z = W0.drewN q2 := ⟨_, rfl⟩
      rw [← hW]
      have hsW1 : ScanAt W1 cs s I ((0 : Nat) : Int) := by rw [hW]; exact hsW0.drewN _
      have HKW1 := Lib.hid (show Keeps (fun b => b = cs) w W1 by rw [hW]; exact HKW0.out.drewN _)
      clear hW
      go_wp2_with fail
      refine (see1_any cs s I _ _ hsW1 (by omega) (by omega)).mono ?_
      rintro e w2 ⟨rfl, q2, rfl⟩
      rw [HX.out]
      obtain ⟨W2, hW⟩ : ∃ Z : World, Z = W1.drewN q2 := ⟨_, rfl⟩
      rw [← hW]
      have hsW2 : ScanAt W2 cs s I ((0 : Nat) : Int) := by rw [hW]; exact hsW1.drewN _
      have HKW2 := Lib.hid (show Keeps (fun b => b = cs) w W2 by rw [hW]; exact HKW1.out.drewN _)
      clear hW
      obtain ⟨d0, d1, d2, g1, g2⟩ := hsW2.cells
      obtain ⟨w5, hw5⟩ : ∃ w5, w5 = (W2.setCell ⟨cs, 1, none⟩ (.int .i64 ((I : Int) + 1))).setCell ⟨cs, 1, none⟩ (.int .i64 ((I : Int) + 1 + 1)) := ⟨_, rfl⟩
      obtain ⟨hs5a, hk5a⟩ := rmoved hsW2 (j := (I : Int) + 1) (J := I + 1) (by omega)
      obtain ⟨hs5, hk5b⟩ := rmoved hs5a (j := (I : Int) + 1 + 1) (J := I + 2) (by omega)
      have hk5 := hk5a.trans hk5b (fun _ _ e => e)
      rw [← hw5] at hs5 hk5
      obtain ⟨J, hJ⟩ : ∃ J, J = I + 2 := ⟨_, rfl⟩
      rw [← hJ] at hs5
      have hJ1 : 1 ≤ J := by omega
      have hJ2 : J ≤ s.size := by omega
      have HW5 := Lib.hid hw5
      have HS5 := Lib.hid hs5
      have HK5 := Lib.hid (HKW2.out.trans hk5 (fun _ _ e => e))
      obtain ⟨T, hT⟩ : ∃ T, T = s.extract (J - 1) J := ⟨_, rfl⟩
      have HTL := Lib.hid (show T.data.toList = [x] by
        rw [hT, Lib.extract_data]
        have h1 : s.data.toList.drop (J - 1) = rest s (J - 1) := rfl
        rw [h1, rest_cons (by omega), show J - (J - 1) = 1 by omega]
        rw [show J - 1 = I + 1 by omega, HX.out]; rfl)
      have HTT := Lib.hid hT
      have HJ := Lib.hid hJ
      clear hw5 hT hs5 hk5 hJ
      go_wp2_with fail
      rw [← HW5.out]
      obtain ⟨d0, d1, d2, g1, g2⟩ := HS5.out.cells
      have p1 : ((J : Int) - 1).toNat = J - 1 := by omega
      have p2 : (0 : Int) ≤ (J : Int) - 1 := by omega
      have p2' : (1 : Int) ≤ (J : Int) := by omega
      have p3 : (J : Int) - 1 ≤ (J : Int) := by omega
      have p4 : (J : Int) ≤ (s.size : Int) := by omega
      have ew : IntKind.i64.wrap ((J : Int) - 1) = (J : Int) - 1 := IntWalk.i64_in _ (by omega)
      go_still_tail 16, (by kernel_rfl)
      change wpList _ _ _ _ _ w5.drew
      obtain ⟨w6, hw6⟩ : ∃ w6, w6 = w5.drew := ⟨_, rfl⟩
      rw [← hw6]
      have hs6 : ScanAt w6 cs s J ((0 : Nat) : Int) := by rw [hw6]; exact HS5.out.keep (S := fun _ => False) (Keeps.refl _ _).drew (fun h => h)
      have HK6 := Lib.hid (show Keeps (fun b => b = cs) w w6 by rw [hw6]; exact HK5.out.drew)
      have hR6 := HROW.out.keep HK6.out (fun _ _ e => by omega)
      have hput := rput_any B 2 (s.extract (J - 1) J) _ raw w6 hR6 (Nat.le_trans hB HK6.out.size) (by have := HR0.out; omega) (.inl rfl)
      have HPUT := Lib.hid hput
      have HS6 := Lib.hid hs6
      clear hR6 hput hw6 hs6
      go_wp2_with fail
      refine HPUT.out.mono ?_
      rintro e w7 ⟨v7, rfl, hrow, hkeep⟩
      obtain ⟨a7, n7, c7, rfl⟩ : ∃ a n c, v7 = .slice a n c := by obtain ⟨a, c, e, _⟩ := hrow.shape; exact ⟨a, _, c, e⟩
      have HROW7 := Lib.hid hrow
      have HKEEP := Lib.hid hkeep
      clear hrow hkeep
      go_wp2_with fail
      go_ret
      have htl := HTL.out
      rw [HTT.out] at htl
      have hrow := HROW7.out
      rw [htl] at hrow
      rw [HOK.out]
      have hJ := HJ.out
      subst hJ
      exact ⟨_, I + 2, rfl, by omega, rfl, HS6.out.keep HKEEP.out (fun e => by omega), hrow, by rw [wtF_append]; show wtF raw + (1 + 1 + 0) ≤ _; omega, (HK6.out.mono fun _ _ e => .inl e).trans HKEEP.out (fun _ _ e => .inr e)⟩
    have x36 : ((x.toNat : Int) == 36) = false := test_no (c := x) (k := 36) u36
    have K36 := Lib.hid (show (x == 36) = false from beq_eq_false_iff_ne.2 u36)
    clear u36
    by_cases u34 : x = 34
    · have x34 : ((x.toNat : Int) == 34) = true := test_yes (c := x) (k := 34) u34
      have hin := HIN.out (by rw [u34]; decide)
      have HOK := Lib.hid (show res = .ok ([quoP [x]], rest s (I + 2)) by rw [HR92.out, G10.out, u34]; rfl)
      clear u34
      go_enter Try.func48, Try.ntmps48
      go_wp2_with fail
      refine (see0_any cs s I _ _ h (by omega) (by omega)).mono ?_
      rintro e w1 ⟨rfl, q1, rfl⟩
      rw [HC.out]
      obtain ⟨W0, hW⟩ : ∃ W0, W0 = w.drewN q1 := ⟨_, rfl⟩
      rw [← hW]
      have hsW0 : ScanAt W0 cs s I ((0 : Nat) : Int) := by rw [hW]; exact h.drewN _
      have HKW0 := Lib.hid (show Keeps (fun b => b = cs) w W0 by rw [hW]; exact (Keeps.refl _ _).drewN _)
      clear hW
      go_wp2_with fail
      refine (see1_any cs s I _ _ hsW0 (by omega) (by omega)).mono ?_
      rintro e w2 ⟨rfl, q2, rfl⟩
      rw [HX.out]
      obtain ⟨W1, hW⟩ : ∃ Z : World, Z = W0.drewN q2 := ⟨_, rfl⟩
      rw [← hW]
      have hsW1 : ScanAt W1 cs s I ((0 : Nat) : Int) := by rw [hW]; exact hsW0.drewN _
      have HKW1 := Lib.hid (show Keeps (fun b => b = cs) w W1 by rw [hW]; exact HKW0.out.drewN _)
      clear hW
      go_wp2_with fail
      refine (see1_any cs s I _ _ hsW1 (by omega) (by omega)).mono ?_
      rintro e w2 ⟨rfl, q2, rfl⟩
      rw [HX.out]
      obtain ⟨W2, hW⟩ : ∃ Z : World, Z = W1.drewN q2 := ⟨_, rfl⟩
      rw [← hW]
      have hsW2 : ScanAt W2 cs s I ((0 : Nat) : Int) := by rw [hW]; exact hsW1.drewN _
      have HKW2 := Lib.hid (show Keeps (fun b => b = cs) w W2 by rw [hW]; exact HKW1.out.drewN _)
      clear hW
      go_wp2_with fail
      refine (see1_any cs s I _ _ hsW2 (by omega) (by omega)).mono ?_
      rintro e w2 ⟨rfl, q2, rfl⟩
      rw [HX.out]
      obtain ⟨W3, hW⟩ : ∃ Z : World, Z = W2.drewN q2 := ⟨_, rfl⟩
      rw [← hW]
      have hsW3 : ScanAt W3 cs s I ((0 : Nat) : Int) := by rw [hW]; exact hsW2.drewN _
      have HKW3 := Lib.hid (show Keeps (fun b => b = cs) w W3 by rw [hW]; exact HKW2.out.drewN _)
      clear hW
      obtain ⟨d0, d1, d2, g1, g2⟩ := hsW3.cells
      obtain ⟨w5, hw5⟩ : ∃ w5, w5 = (W3.setCell ⟨cs, 1, none⟩ (.int .i64 ((I : Int) + 1))).setCell ⟨cs, 1, none⟩ (.int .i64 ((I : Int) + 1 + 1)) := ⟨_, rfl⟩
      obtain ⟨hs5a, hk5a⟩ := rmoved hsW3 (j := (I : Int) + 1) (J := I + 1) (by omega)
      obtain ⟨hs5, hk5b⟩ := rmoved hs5a (j := (I : Int) + 1 + 1) (J := I + 2) (by omega)
      have hk5 := hk5a.trans hk5b (fun _ _ e => e)
      rw [← hw5] at hs5 hk5
      obtain ⟨J, hJ⟩ : ∃ J, J = I + 2 := ⟨_, rfl⟩
      rw [← hJ] at hs5
      have hJ1 : 1 ≤ J := by omega
      have hJ2 : J ≤ s.size := by omega
      have HW5 := Lib.hid hw5
      have HS5 := Lib.hid hs5
      have HK5 := Lib.hid (HKW3.out.trans hk5 (fun _ _ e => e))
      obtain ⟨T, hT⟩ : ∃ T, T = s.extract (J - 1) J := ⟨_, rfl⟩
      have HTL := Lib.hid (show T.data.toList = [x] by
        rw [hT, Lib.extract_data]
        have h1 : s.data.toList.drop (J - 1) = rest s (J - 1) := rfl
        rw [h1, rest_cons (by omega), show J - (J - 1) = 1 by omega]
        rw [show J - 1 = I + 1 by omega, HX.out]; rfl)
      have HTT := Lib.hid hT
      have HJ := Lib.hid hJ
      clear hw5 hT hs5 hk5 hJ
      go_wp2_with fail
      rw [← HW5.out]
      obtain ⟨d0, d1, d2, g1, g2⟩ := HS5.out.cells
      have p1 : ((J : Int) - 1).toNat = J - 1 := by omega
      have p2 : (0 : Int) ≤ (J : Int) - 1 := by omega
      have p2' : (1 : Int) ≤ (J : Int) := by omega
      have p3 : (J : Int) - 1 ≤ (J : Int) := by omega
      have p4 : (J : Int) ≤ (s.size : Int) := by omega
      have ew : IntKind.i64.wrap ((J : Int) - 1) = (J : Int) - 1 := IntWalk.i64_in _ (by omega)
      go_still_tail 16, (by kernel_rfl)
      change wpList _ _ _ _ _ w5.drew
      obtain ⟨w6, hw6⟩ : ∃ w6, w6 = w5.drew := ⟨_, rfl⟩
      rw [← hw6]
      have hs6 : ScanAt w6 cs s J ((0 : Nat) : Int) := by rw [hw6]; exact HS5.out.keep (S := fun _ => False) (Keeps.refl _ _).drew (fun h => h)
      have HK6 := Lib.hid (show Keeps (fun b => b = cs) w w6 by rw [hw6]; exact HK5.out.drew)
      have hR6 := HROW.out.keep HK6.out (fun _ _ e => by omega)
      have hput := rput_any B 2 (s.extract (J - 1) J) _ raw w6 hR6 (Nat.le_trans hB HK6.out.size) (by have := HR0.out; omega) (.inl rfl)
      have HPUT := Lib.hid hput
      have HS6 := Lib.hid hs6
      clear hR6 hput hw6 hs6
      go_wp2_with fail
      refine HPUT.out.mono ?_
      rintro e w7 ⟨v7, rfl, hrow, hkeep⟩
      obtain ⟨a7, n7, c7, rfl⟩ : ∃ a n c, v7 = .slice a n c := by obtain ⟨a, c, e, _⟩ := hrow.shape; exact ⟨a, _, c, e⟩
      have HROW7 := Lib.hid hrow
      have HKEEP := Lib.hid hkeep
      clear hrow hkeep
      go_wp2_with fail
      go_ret
      have htl := HTL.out
      rw [HTT.out] at htl
      have hrow := HROW7.out
      rw [htl] at hrow
      rw [HOK.out]
      have hJ := HJ.out
      subst hJ
      exact ⟨_, I + 2, rfl, by omega, rfl, HS6.out.keep HKEEP.out (fun e => by omega), hrow, by rw [wtF_append]; show wtF raw + (1 + 1 + 0) ≤ _; omega, (HK6.out.mono fun _ _ e => .inl e).trans HKEEP.out (fun _ _ e => .inr e)⟩
    have x34 : ((x.toNat : Int) == 34) = false := test_no (c := x) (k := 34) u34
    have K34 := Lib.hid (show (x == 34) = false from beq_eq_false_iff_ne.2 u34)
    clear u34
    by_cases u92 : x = 92
    · have x92 : ((x.toNat : Int) == 92) = true := test_yes (c := x) (k := 92) u92
      have hin := HIN.out (by rw [u92]; decide)
      have HOK := Lib.hid (show res = .ok ([quoP [x]], rest s (I + 2)) by rw [HR92.out, G10.out, u92]; rfl)
      clear u92
      go_enter Try.func48, Try.ntmps48
      go_wp2_with fail
      refine (see0_any cs s I _ _ h (by omega) (by omega)).mono ?_
      rintro e w1 ⟨rfl, q1, rfl⟩
      rw [HC.out]
      obtain ⟨W0, hW⟩ : ∃ W0, W0 = w.drewN q1 := ⟨_, rfl⟩
      rw [← hW]
      have hsW0 : ScanAt W0 cs s I ((0 : Nat) : Int) := by rw [hW]; exact h.drewN _
      have HKW0 := Lib.hid (show Keeps (fun b => b = cs) w W0 by rw [hW]; exact (Keeps.refl _ _).drewN _)
      clear hW
      go_wp2_with fail
      refine (see1_any cs s I _ _ hsW0 (by omega) (by omega)).mono ?_
      rintro e w2 ⟨rfl, q2, rfl⟩
      rw [HX.out]
      obtain ⟨W1, hW⟩ : ∃ Z : World, Z = W0.drewN q2 := ⟨_, rfl⟩
      rw [← hW]
      have hsW1 : ScanAt W1 cs s I ((0 : Nat) : Int) := by rw [hW]; exact hsW0.drewN _
      have HKW1 := Lib.hid (show Keeps (fun b => b = cs) w W1 by rw [hW]; exact HKW0.out.drewN _)
      clear hW
      go_wp2_with fail
      refine (see1_any cs s I _ _ hsW1 (by omega) (by omega)).mono ?_
      rintro e w2 ⟨rfl, q2, rfl⟩
      rw [HX.out]
      obtain ⟨W2, hW⟩ : ∃ Z : World, Z = W1.drewN q2 := ⟨_, rfl⟩
      rw [← hW]
      have hsW2 : ScanAt W2 cs s I ((0 : Nat) : Int) := by rw [hW]; exact hsW1.drewN _
      have HKW2 := Lib.hid (show Keeps (fun b => b = cs) w W2 by rw [hW]; exact HKW1.out.drewN _)
      clear hW
      go_wp2_with fail
      refine (see1_any cs s I _ _ hsW2 (by omega) (by omega)).mono ?_
      rintro e w2 ⟨rfl, q2, rfl⟩
      rw [HX.out]
      obtain ⟨W3, hW⟩ : ∃ Z : World, Z = W2.drewN q2 := ⟨_, rfl⟩
      rw [← hW]
      have hsW3 : ScanAt W3 cs s I ((0 : Nat) : Int) := by rw [hW]; exact hsW2.drewN _
      have HKW3 := Lib.hid (show Keeps (fun b => b = cs) w W3 by rw [hW]; exact HKW2.out.drewN _)
      clear hW
      go_wp2_with fail
      refine (see1_any cs s I _ _ hsW3 (by omega) (by omega)).mono ?_
      rintro e w2 ⟨rfl, q2, rfl⟩
      rw [HX.out]
      obtain ⟨W4, hW⟩ : ∃ Z : World, Z = W3.drewN q2 := ⟨_, rfl⟩
      rw [← hW]
      have hsW4 : ScanAt W4 cs s I ((0 : Nat) : Int) := by rw [hW]; exact hsW3.drewN _
      have HKW4 := Lib.hid (show Keeps (fun b => b = cs) w W4 by rw [hW]; exact HKW3.out.drewN _)
      clear hW
      obtain ⟨d0, d1, d2, g1, g2⟩ := hsW4.cells
      obtain ⟨w5, hw5⟩ : ∃ w5, w5 = (W4.setCell ⟨cs, 1, none⟩ (.int .i64 ((I : Int) + 1))).setCell ⟨cs, 1, none⟩ (.int .i64 ((I : Int) + 1 + 1)) := ⟨_, rfl⟩
      obtain ⟨hs5a, hk5a⟩ := rmoved hsW4 (j := (I : Int) + 1) (J := I + 1) (by omega)
      obtain ⟨hs5, hk5b⟩ := rmoved hs5a (j := (I : Int) + 1 + 1) (J := I + 2) (by omega)
      have hk5 := hk5a.trans hk5b (fun _ _ e => e)
      rw [← hw5] at hs5 hk5
      obtain ⟨J, hJ⟩ : ∃ J, J = I + 2 := ⟨_, rfl⟩
      rw [← hJ] at hs5
      have hJ1 : 1 ≤ J := by omega
      have hJ2 : J ≤ s.size := by omega
      have HW5 := Lib.hid hw5
      have HS5 := Lib.hid hs5
      have HK5 := Lib.hid (HKW4.out.trans hk5 (fun _ _ e => e))
      obtain ⟨T, hT⟩ : ∃ T, T = s.extract (J - 1) J := ⟨_, rfl⟩
      have HTL := Lib.hid (show T.data.toList = [x] by
        rw [hT, Lib.extract_data]
        have h1 : s.data.toList.drop (J - 1) = rest s (J - 1) := rfl
        rw [h1, rest_cons (by omega), show J - (J - 1) = 1 by omega]
        rw [show J - 1 = I + 1 by omega, HX.out]; rfl)
      have HTT := Lib.hid hT
      have HJ := Lib.hid hJ
      clear hw5 hT hs5 hk5 hJ
      go_wp2_with fail
      rw [← HW5.out]
      obtain ⟨d0, d1, d2, g1, g2⟩ := HS5.out.cells
      have p1 : ((J : Int) - 1).toNat = J - 1 := by omega
      have p2 : (0 : Int) ≤ (J : Int) - 1 := by omega
      have p2' : (1 : Int) ≤ (J : Int) := by omega
      have p3 : (J : Int) - 1 ≤ (J : Int) := by omega
      have p4 : (J : Int) ≤ (s.size : Int) := by omega
      have ew : IntKind.i64.wrap ((J : Int) - 1) = (J : Int) - 1 := IntWalk.i64_in _ (by omega)
      go_still_tail 16, (by kernel_rfl)
      change wpList _ _ _ _ _ w5.drew
      obtain ⟨w6, hw6⟩ : ∃ w6, w6 = w5.drew := ⟨_, rfl⟩
      rw [← hw6]
      have hs6 : ScanAt w6 cs s J ((0 : Nat) : Int) := by rw [hw6]; exact HS5.out.keep (S := fun _ => False) (Keeps.refl _ _).drew (fun h => h)
      have HK6 := Lib.hid (show Keeps (fun b => b = cs) w w6 by rw [hw6]; exact HK5.out.drew)
      have hR6 := HROW.out.keep HK6.out (fun _ _ e => by omega)
      have hput := rput_any B 2 (s.extract (J - 1) J) _ raw w6 hR6 (Nat.le_trans hB HK6.out.size) (by have := HR0.out; omega) (.inl rfl)
      have HPUT := Lib.hid hput
      have HS6 := Lib.hid hs6
      clear hR6 hput hw6 hs6
      go_wp2_with fail
      refine HPUT.out.mono ?_
      rintro e w7 ⟨v7, rfl, hrow, hkeep⟩
      obtain ⟨a7, n7, c7, rfl⟩ : ∃ a n c, v7 = .slice a n c := by obtain ⟨a, c, e, _⟩ := hrow.shape; exact ⟨a, _, c, e⟩
      have HROW7 := Lib.hid hrow
      have HKEEP := Lib.hid hkeep
      clear hrow hkeep
      go_wp2_with fail
      go_ret
      have htl := HTL.out
      rw [HTT.out] at htl
      have hrow := HROW7.out
      rw [htl] at hrow
      rw [HOK.out]
      have hJ := HJ.out
      subst hJ
      exact ⟨_, I + 2, rfl, by omega, rfl, HS6.out.keep HKEEP.out (fun e => by omega), hrow, by rw [wtF_append]; show wtF raw + (1 + 1 + 0) ≤ _; omega, (HK6.out.mono fun _ _ e => .inl e).trans HKEEP.out (fun _ _ e => .inr e)⟩
    have x92 : ((x.toNat : Int) == 92) = false := test_no (c := x) (k := 92) u92
    have K92 := Lib.hid (show (x == 92) = false from beq_eq_false_iff_ne.2 u92)
    clear u92
    by_cases u96 : x = 96
    · have x96 : ((x.toNat : Int) == 96) = true := test_yes (c := x) (k := 96) u96
      have hin := HIN.out (by rw [u96]; decide)
      have HOK := Lib.hid (show res = .ok ([quoP [x]], rest s (I + 2)) by rw [HR92.out, G10.out, u96]; rfl)
      clear u96
      go_enter Try.func48, Try.ntmps48
      go_wp2_with fail
      refine (see0_any cs s I _ _ h (by omega) (by omega)).mono ?_
      rintro e w1 ⟨rfl, q1, rfl⟩
      rw [HC.out]
      obtain ⟨W0, hW⟩ : ∃ W0, W0 = w.drewN q1 := ⟨_, rfl⟩
      rw [← hW]
      have hsW0 : ScanAt W0 cs s I ((0 : Nat) : Int) := by rw [hW]; exact h.drewN _
      have HKW0 := Lib.hid (show Keeps (fun b => b = cs) w W0 by rw [hW]; exact (Keeps.refl _ _).drewN _)
      clear hW
      go_wp2_with fail
      refine (see1_any cs s I _ _ hsW0 (by omega) (by omega)).mono ?_
      rintro e w2 ⟨rfl, q2, rfl⟩
      rw [HX.out]
      obtain ⟨W1, hW⟩ : ∃ Z : World, Z = W0.drewN q2 := ⟨_, rfl⟩
      rw [← hW]
      have hsW1 : ScanAt W1 cs s I ((0 : Nat) : Int) := by rw [hW]; exact hsW0.drewN _
      have HKW1 := Lib.hid (show Keeps (fun b => b = cs) w W1 by rw [hW]; exact HKW0.out.drewN _)
      clear hW
      go_wp2_with fail
      refine (see1_any cs s I _ _ hsW1 (by omega) (by omega)).mono ?_
      rintro e w2 ⟨rfl, q2, rfl⟩
      rw [HX.out]
      obtain ⟨W2, hW⟩ : ∃ Z : World, Z = W1.drewN q2 := ⟨_, rfl⟩
      rw [← hW]
      have hsW2 : ScanAt W2 cs s I ((0 : Nat) : Int) := by rw [hW]; exact hsW1.drewN _
      have HKW2 := Lib.hid (show Keeps (fun b => b = cs) w W2 by rw [hW]; exact HKW1.out.drewN _)
      clear hW
      go_wp2_with fail
      refine (see1_any cs s I _ _ hsW2 (by omega) (by omega)).mono ?_
      rintro e w2 ⟨rfl, q2, rfl⟩
      rw [HX.out]
      obtain ⟨W3, hW⟩ : ∃ Z : World, Z = W2.drewN q2 := ⟨_, rfl⟩
      rw [← hW]
      have hsW3 : ScanAt W3 cs s I ((0 : Nat) : Int) := by rw [hW]; exact hsW2.drewN _
      have HKW3 := Lib.hid (show Keeps (fun b => b = cs) w W3 by rw [hW]; exact HKW2.out.drewN _)
      clear hW
      go_wp2_with fail
      refine (see1_any cs s I _ _ hsW3 (by omega) (by omega)).mono ?_
      rintro e w2 ⟨rfl, q2, rfl⟩
      rw [HX.out]
      obtain ⟨W4, hW⟩ : ∃ Z : World, Z = W3.drewN q2 := ⟨_, rfl⟩
      rw [← hW]
      have hsW4 : ScanAt W4 cs s I ((0 : Nat) : Int) := by rw [hW]; exact hsW3.drewN _
      have HKW4 := Lib.hid (show Keeps (fun b => b = cs) w W4 by rw [hW]; exact HKW3.out.drewN _)
      clear hW
      go_wp2_with fail
      refine (see1_any cs s I _ _ hsW4 (by omega) (by omega)).mono ?_
      rintro e w2 ⟨rfl, q2, rfl⟩
      rw [HX.out]
      obtain ⟨W5, hW⟩ : ∃ Z : World, Z = W4.drewN q2 := ⟨_, rfl⟩
      rw [← hW]
      have hsW5 : ScanAt W5 cs s I ((0 : Nat) : Int) := by rw [hW]; exact hsW4.drewN _
      have HKW5 := Lib.hid (show Keeps (fun b => b = cs) w W5 by rw [hW]; exact HKW4.out.drewN _)
      clear hW
      obtain ⟨d0, d1, d2, g1, g2⟩ := hsW5.cells
      obtain ⟨w5, hw5⟩ : ∃ w5, w5 = (W5.setCell ⟨cs, 1, none⟩ (.int .i64 ((I : Int) + 1))).setCell ⟨cs, 1, none⟩ (.int .i64 ((I : Int) + 1 + 1)) := ⟨_, rfl⟩
      obtain ⟨hs5a, hk5a⟩ := rmoved hsW5 (j := (I : Int) + 1) (J := I + 1) (by omega)
      obtain ⟨hs5, hk5b⟩ := rmoved hs5a (j := (I : Int) + 1 + 1) (J := I + 2) (by omega)
      have hk5 := hk5a.trans hk5b (fun _ _ e => e)
      rw [← hw5] at hs5 hk5
      obtain ⟨J, hJ⟩ : ∃ J, J = I + 2 := ⟨_, rfl⟩
      rw [← hJ] at hs5
      have hJ1 : 1 ≤ J := by omega
      have hJ2 : J ≤ s.size := by omega
      have HW5 := Lib.hid hw5
      have HS5 := Lib.hid hs5
      have HK5 := Lib.hid (HKW5.out.trans hk5 (fun _ _ e => e))
      obtain ⟨T, hT⟩ : ∃ T, T = s.extract (J - 1) J := ⟨_, rfl⟩
      have HTL := Lib.hid (show T.data.toList = [x] by
        rw [hT, Lib.extract_data]
        have h1 : s.data.toList.drop (J - 1) = rest s (J - 1) := rfl
        rw [h1, rest_cons (by omega), show J - (J - 1) = 1 by omega]
        rw [show J - 1 = I + 1 by omega, HX.out]; rfl)
      have HTT := Lib.hid hT
      have HJ := Lib.hid hJ
      clear hw5 hT hs5 hk5 hJ
      go_wp2_with fail
      rw [← HW5.out]
      obtain ⟨d0, d1, d2, g1, g2⟩ := HS5.out.cells
      have p1 : ((J : Int) - 1).toNat = J - 1 := by omega
      have p2 : (0 : Int) ≤ (J : Int) - 1 := by omega
      have p2' : (1 : Int) ≤ (J : Int) := by omega
      have p3 : (J : Int) - 1 ≤ (J : Int) := by omega
      have p4 : (J : Int) ≤ (s.size : Int) := by omega
      have ew : IntKind.i64.wrap ((J : Int) - 1) = (J : Int) - 1 := IntWalk.i64_in _ (by omega)
      go_still_tail 16, (by kernel_rfl)
      change wpList _ _ _ _ _ w5.drew
      obtain ⟨w6, hw6⟩ : ∃ w6, w6 = w5.drew := ⟨_, rfl⟩
      rw [← hw6]
      have hs6 : ScanAt w6 cs s J ((0 : Nat) : Int) := by rw [hw6]; exact HS5.out.keep (S := fun _ => False) (Keeps.refl _ _).drew (fun h => h)
      have HK6 := Lib.hid (show Keeps (fun b => b = cs) w w6 by rw [hw6]; exact HK5.out.drew)
      have hR6 := HROW.out.keep HK6.out (fun _ _ e => by omega)
      have hput := rput_any B 2 (s.extract (J - 1) J) _ raw w6 hR6 (Nat.le_trans hB HK6.out.size) (by have := HR0.out; omega) (.inl rfl)
      have HPUT := Lib.hid hput
      have HS6 := Lib.hid hs6
      clear hR6 hput hw6 hs6
      go_wp2_with fail
      refine HPUT.out.mono ?_
      rintro e w7 ⟨v7, rfl, hrow, hkeep⟩
      obtain ⟨a7, n7, c7, rfl⟩ : ∃ a n c, v7 = .slice a n c := by obtain ⟨a, c, e, _⟩ := hrow.shape; exact ⟨a, _, c, e⟩
      have HROW7 := Lib.hid hrow
      have HKEEP := Lib.hid hkeep
      clear hrow hkeep
      go_wp2_with fail
      go_ret
      have htl := HTL.out
      rw [HTT.out] at htl
      have hrow := HROW7.out
      rw [htl] at hrow
      rw [HOK.out]
      have hJ := HJ.out
      subst hJ
      exact ⟨_, I + 2, rfl, by omega, rfl, HS6.out.keep HKEEP.out (fun e => by omega), hrow, by rw [wtF_append]; show wtF raw + (1 + 1 + 0) ≤ _; omega, (HK6.out.mono fun _ _ e => .inl e).trans HKEEP.out (fun _ _ e => .inr e)⟩
    have x96 : ((x.toNat : Int) == 96) = false := test_no (c := x) (k := 96) u96
    have K96 := Lib.hid (show (x == 96) = false from beq_eq_false_iff_ne.2 u96)
    clear u96
    have HOK := Lib.hid (show res = .ok ([quoP [c]], rest s (I + 1)) by
      rw [HR92.out, G10.out]
      unfold escB
      rw [K36.out, K34.out, K92.out, K96.out]
      rfl)
    go_enter Try.func48, Try.ntmps48
    go_wp2_with fail
    refine (see0_any cs s I _ _ h (by omega) (by omega)).mono ?_
    rintro e w1 ⟨rfl, q1, rfl⟩
    rw [HC.out]
    obtain ⟨W0, hW⟩ : ∃ W0, W0 = w.drewN q1 := ⟨_, rfl⟩
    rw [← hW]
    have hsW0 : ScanAt W0 cs s I ((0 : Nat) : Int) := by rw [hW]; exact h.drewN _
    have HKW0 := Lib.hid (show Keeps (fun b => b = cs) w W0 by rw [hW]; exact (Keeps.refl _ _).drewN _)
    clear hW
    go_wp2_with fail
    refine (see1_any cs s I _ _ hsW0 (by omega) (by omega)).mono ?_
    rintro e w2 ⟨rfl, q2, rfl⟩
    rw [HX.out]
    obtain ⟨W1, hW⟩ : ∃ Z : World, Z = W0.drewN q2 := ⟨_, rfl⟩
    rw [← hW]
    have hsW1 : ScanAt W1 cs s I ((0 : Nat) : Int) := by rw [hW]; exact hsW0.drewN _
    have HKW1 := Lib.hid (show Keeps (fun b => b = cs) w W1 by rw [hW]; exact HKW0.out.drewN _)
    clear hW
    go_wp2_with fail
    refine (see1_any cs s I _ _ hsW1 (by omega) (by omega)).mono ?_
    rintro e w2 ⟨rfl, q2, rfl⟩
    rw [HX.out]
    obtain ⟨W2, hW⟩ : ∃ Z : World, Z = W1.drewN q2 := ⟨_, rfl⟩
    rw [← hW]
    have hsW2 : ScanAt W2 cs s I ((0 : Nat) : Int) := by rw [hW]; exact hsW1.drewN _
    have HKW2 := Lib.hid (show Keeps (fun b => b = cs) w W2 by rw [hW]; exact HKW1.out.drewN _)
    clear hW
    go_wp2_with fail
    refine (see1_any cs s I _ _ hsW2 (by omega) (by omega)).mono ?_
    rintro e w2 ⟨rfl, q2, rfl⟩
    rw [HX.out]
    obtain ⟨W3, hW⟩ : ∃ Z : World, Z = W2.drewN q2 := ⟨_, rfl⟩
    rw [← hW]
    have hsW3 : ScanAt W3 cs s I ((0 : Nat) : Int) := by rw [hW]; exact hsW2.drewN _
    have HKW3 := Lib.hid (show Keeps (fun b => b = cs) w W3 by rw [hW]; exact HKW2.out.drewN _)
    clear hW
    go_wp2_with fail
    refine (see1_any cs s I _ _ hsW3 (by omega) (by omega)).mono ?_
    rintro e w2 ⟨rfl, q2, rfl⟩
    rw [HX.out]
    obtain ⟨W4, hW⟩ : ∃ Z : World, Z = W3.drewN q2 := ⟨_, rfl⟩
    rw [← hW]
    have hsW4 : ScanAt W4 cs s I ((0 : Nat) : Int) := by rw [hW]; exact hsW3.drewN _
    have HKW4 := Lib.hid (show Keeps (fun b => b = cs) w W4 by rw [hW]; exact HKW3.out.drewN _)
    clear hW
    go_wp2_with fail
    refine (see1_any cs s I _ _ hsW4 (by omega) (by omega)).mono ?_
    rintro e w2 ⟨rfl, q2, rfl⟩
    rw [HX.out]
    obtain ⟨W5, hW⟩ : ∃ Z : World, Z = W4.drewN q2 := ⟨_, rfl⟩
    rw [← hW]
    have hsW5 : ScanAt W5 cs s I ((0 : Nat) : Int) := by rw [hW]; exact hsW4.drewN _
    have HKW5 := Lib.hid (show Keeps (fun b => b = cs) w W5 by rw [hW]; exact HKW4.out.drewN _)
    clear hW
    obtain ⟨d0, d1, d2, g1, g2⟩ := hsW5.cells
    obtain ⟨w5, hw5⟩ : ∃ w5, w5 = W5.setCell ⟨cs, 1, none⟩ (.int .i64 ((I : Int) + 1)) := ⟨_, rfl⟩
    obtain ⟨hs5, hk5⟩ := rmoved hsW5 (j := (I : Int) + 1) (J := I + 1) (by omega)
    rw [← hw5] at hs5 hk5
    obtain ⟨J, hJ⟩ : ∃ J, J = I + 1 := ⟨_, rfl⟩
    rw [← hJ] at hs5
    have hJ1 : 1 ≤ J := by omega
    have hJ2 : J ≤ s.size := by omega
    have HW5 := Lib.hid hw5
    have HS5 := Lib.hid hs5
    have HK5 := Lib.hid (HKW5.out.trans hk5 (fun _ _ e => e))
    obtain ⟨T, hT⟩ : ∃ T, T = s.extract (J - 1) J := ⟨_, rfl⟩
    have HTL := Lib.hid (show T.data.toList = [c] by
      rw [hT, Lib.extract_data]
      have h1 : s.data.toList.drop (J - 1) = rest s (J - 1) := rfl
      rw [h1, rest_cons (by omega), show J - (J - 1) = 1 by omega]
      rw [show J - 1 = I by omega, HC.out]; rfl)
    have HTT := Lib.hid hT
    have HJ := Lib.hid hJ
    clear hw5 hT hs5 hk5 hJ
    go_wp2_with fail
    rw [← HW5.out]
    obtain ⟨d0, d1, d2, g1, g2⟩ := HS5.out.cells
    have p1 : ((J : Int) - 1).toNat = J - 1 := by omega
    have p2 : (0 : Int) ≤ (J : Int) - 1 := by omega
    have p2' : (1 : Int) ≤ (J : Int) := by omega
    have p3 : (J : Int) - 1 ≤ (J : Int) := by omega
    have p4 : (J : Int) ≤ (s.size : Int) := by omega
    have ew : IntKind.i64.wrap ((J : Int) - 1) = (J : Int) - 1 := IntWalk.i64_in _ (by omega)
    go_still_tail 16, (by kernel_rfl)
    change wpList _ _ _ _ _ w5.drew
    obtain ⟨w6, hw6⟩ : ∃ w6, w6 = w5.drew := ⟨_, rfl⟩
    rw [← hw6]
    have hs6 : ScanAt w6 cs s J ((0 : Nat) : Int) := by rw [hw6]; exact HS5.out.keep (S := fun _ => False) (Keeps.refl _ _).drew (fun h => h)
    have HK6 := Lib.hid (show Keeps (fun b => b = cs) w w6 by rw [hw6]; exact HK5.out.drew)
    have hR6 := HROW.out.keep HK6.out (fun _ _ e => by omega)
    have hput := rput_any B 2 (s.extract (J - 1) J) _ raw w6 hR6 (Nat.le_trans hB HK6.out.size) (by have := HR0.out; omega) (.inl rfl)
    have HPUT := Lib.hid hput
    have HS6 := Lib.hid hs6
    clear hR6 hput hw6 hs6
    go_wp2_with fail
    refine HPUT.out.mono ?_
    rintro e w7 ⟨v7, rfl, hrow, hkeep⟩
    obtain ⟨a7, n7, c7, rfl⟩ : ∃ a n c, v7 = .slice a n c := by obtain ⟨a, c, e, _⟩ := hrow.shape; exact ⟨a, _, c, e⟩
    have HROW7 := Lib.hid hrow
    have HKEEP := Lib.hid hkeep
    clear hrow hkeep
    go_wp2_with fail
    go_ret
    have htl := HTL.out
    rw [HTT.out] at htl
    have hrow := HROW7.out
    rw [htl] at hrow
    rw [HOK.out]
    have hJ := HJ.out
    subst hJ
    exact ⟨_, I + 1, rfl, by omega, rfl, HS6.out.keep HKEEP.out (fun e => by omega), hrow, by rw [wtF_append]; show wtF raw + (1 + 1 + 0) ≤ _; omega, (HK6.out.mono fun _ _ e => .inl e).trans HKEEP.out (fun _ _ e => .inr e)⟩
  · have f92 : ((c.toNat : Int) == 92) = false := test_no (c := c) (k := 92) t92
    have HOK := Lib.hid (show res = .ok ([quoP [c]], rest s (I + 1)) by
      rw [HRES.out, G34.out, G96.out, G36.out, beq_eq_false_iff_ne.2 t92]
      rfl)
    clear t92
    go_enter Try.func48, Try.ntmps48
    go_wp2_with fail
    refine (see0_any cs s I _ _ h (by omega) (by omega)).mono ?_
    rintro e w1 ⟨rfl, q1, rfl⟩
    rw [HC.out]
    obtain ⟨W0, hW⟩ : ∃ W0, W0 = w.drewN q1 := ⟨_, rfl⟩
    rw [← hW]
    have hsW0 : ScanAt W0 cs s I ((0 : Nat) : Int) := by rw [hW]; exact h.drewN _
    have HKW0 := Lib.hid (show Keeps (fun b => b = cs) w W0 by rw [hW]; exact (Keeps.refl _ _).drewN _)
    clear hW
    obtain ⟨d0, d1, d2, g1, g2⟩ := hsW0.cells
    obtain ⟨w5, hw5⟩ : ∃ w5, w5 = W0.setCell ⟨cs, 1, none⟩ (.int .i64 ((I : Int) + 1)) := ⟨_, rfl⟩
    obtain ⟨hs5, hk5⟩ := rmoved hsW0 (j := (I : Int) + 1) (J := I + 1) (by omega)
    rw [← hw5] at hs5 hk5
    obtain ⟨J, hJ⟩ : ∃ J, J = I + 1 := ⟨_, rfl⟩
    rw [← hJ] at hs5
    have hJ1 : 1 ≤ J := by omega
    have hJ2 : J ≤ s.size := by omega
    have HW5 := Lib.hid hw5
    have HS5 := Lib.hid hs5
    have HK5 := Lib.hid (HKW0.out.trans hk5 (fun _ _ e => e))
    obtain ⟨T, hT⟩ : ∃ T, T = s.extract (J - 1) J := ⟨_, rfl⟩
    have HTL := Lib.hid (show T.data.toList = [c] by
      rw [hT, Lib.extract_data]
      have h1 : s.data.toList.drop (J - 1) = rest s (J - 1) := rfl
      rw [h1, rest_cons (by omega), show J - (J - 1) = 1 by omega]
      rw [show J - 1 = I by omega, HC.out]; rfl)
    have HTT := Lib.hid hT
    have HJ := Lib.hid hJ
    clear hw5 hT hs5 hk5 hJ
    go_wp2_with fail
    rw [← HW5.out]
    obtain ⟨d0, d1, d2, g1, g2⟩ := HS5.out.cells
    have p1 : ((J : Int) - 1).toNat = J - 1 := by omega
    have p2 : (0 : Int) ≤ (J : Int) - 1 := by omega
    have p2' : (1 : Int) ≤ (J : Int) := by omega
    have p3 : (J : Int) - 1 ≤ (J : Int) := by omega
    have p4 : (J : Int) ≤ (s.size : Int) := by omega
    have ew : IntKind.i64.wrap ((J : Int) - 1) = (J : Int) - 1 := IntWalk.i64_in _ (by omega)
    go_still_tail 16, (by kernel_rfl)
    change wpList _ _ _ _ _ w5.drew
    obtain ⟨w6, hw6⟩ : ∃ w6, w6 = w5.drew := ⟨_, rfl⟩
    rw [← hw6]
    have hs6 : ScanAt w6 cs s J ((0 : Nat) : Int) := by rw [hw6]; exact HS5.out.keep (S := fun _ => False) (Keeps.refl _ _).drew (fun h => h)
    have HK6 := Lib.hid (show Keeps (fun b => b = cs) w w6 by rw [hw6]; exact HK5.out.drew)
    have hR6 := HROW.out.keep HK6.out (fun _ _ e => by omega)
    have hput := rput_any B 2 (s.extract (J - 1) J) _ raw w6 hR6 (Nat.le_trans hB HK6.out.size) (by have := HR0.out; omega) (.inl rfl)
    have HPUT := Lib.hid hput
    have HS6 := Lib.hid hs6
    clear hR6 hput hw6 hs6
    go_wp2_with fail
    refine HPUT.out.mono ?_
    rintro e w7 ⟨v7, rfl, hrow, hkeep⟩
    obtain ⟨a7, n7, c7, rfl⟩ : ∃ a n c, v7 = .slice a n c := by obtain ⟨a, c, e, _⟩ := hrow.shape; exact ⟨a, _, c, e⟩
    have HROW7 := Lib.hid hrow
    have HKEEP := Lib.hid hkeep
    clear hrow hkeep
    go_wp2_with fail
    go_ret
    have htl := HTL.out
    rw [HTT.out] at htl
    have hrow := HROW7.out
    rw [htl] at hrow
    rw [HOK.out]
    have hJ := HJ.out
    subst hJ
    exact ⟨_, I + 1, rfl, by omega, rfl, HS6.out.keep HKEEP.out (fun e => by omega), hrow, by rw [wtF_append]; show wtF raw + (1 + 1 + 0) ≤ _; omega, (HK6.out.mono fun _ _ e => .inl e).trans HKEEP.out (fun _ _ e => .inr e)⟩
end Go.Proofs.Ytnndnldpbdhkgaa
