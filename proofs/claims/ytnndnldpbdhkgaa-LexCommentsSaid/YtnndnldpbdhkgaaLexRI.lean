/-
  The document's own reader: what stands in braces.
-/
import Derived.Test.YtnndnldpbdhkgaaLexR4
import Derived.Deep.CutBlock
namespace Go.Proofs.Ytnndnldpbdhkgaa
open Go.RowKit
set_option linter.unusedVariables false

abbrev PCells (name : ByteArray) (op : ByteArray) (wv : Value) (q : Bool) : List Value := [.int .i64 3, .string ⟨#[]⟩, .string name, .string op, wv, .bool q]
def opB (L : Bool) : ByteArray := if L then ⟨#[76]⟩ else ⟨#[]⟩
theorem wordX_len (wh : Bool) (d : Nat) (q : Bool) : ∀ (k : Nat) (r : List UInt8) (l : List Pt) (r1 : List UInt8), wordX wh d q k r = .ok (l, r1) → r1.length ≤ r.length
  | 0, r, l, r1, h => by cases h
  | n + 1, [], l, r1, h => by
    unfold wordX at h
    obtain ⟨_, rfl⟩ := Prod.mk.inj (Except.ok.inj h); exact Nat.le_refl _
  | n + 1, c :: t, l, r1, h => by
    unfold wordX at h
    dsimp only at h
    split at h
    · obtain ⟨_, rfl⟩ := Prod.mk.inj (Except.ok.inj h); exact Nat.le_refl _
    · cases h2 : lexC (.one q) d (c :: t) with
      | error e => rw [h2] at h; cases h
      | ok x =>
        obtain ⟨l2, r2⟩ := x
        rw [h2] at h
        obtain ⟨m', h3, _⟩ := ahead_ok h
        have h4 := lexD_len _ _ _ _ _ _ h2
        have h5 := wordX_len wh d q n _ _ _ h3
        omega
theorem op_not_brace {r : List UInt8} (h : opF r ≠ []) : headIs 125 r = false := by
  cases r with
  | nil => rfl
  | cons c t =>
    show (c == 125) = false
    rw [beq_eq_false_iff_ne]
    rintro rfl
    apply h
    unfold opF findF opsL
    simp [List.find?, startsF]
set_option maxRecDepth 100000 in
set_option maxHeartbeats 8000000 in
theorem rbrace_any (N : Nat) (IH : WordOK N) : BraceOK (N + 1) := by
  intro B cs s i d q v raw w h hi hs hd hr hcB hB hl hN
  obtain ⟨res, hres⟩ : ∃ res, res = lexC (.brace q) d (rest s i) := ⟨_, rfl⟩
  rw [← hres]
  rw [lexC_brace, long_rest] at hres
  have hjl := long_le hi
  obtain ⟨L, hL⟩ : ∃ L, L = longB (rest s i) := ⟨_, rfl⟩
  rw [← hL] at hres hjl
  obtain ⟨j, hj⟩ : ∃ j, j = i + L.toNat := ⟨_, rfl⟩
  rw [← hj] at hres hjl
  obtain ⟨k, hk⟩ : ∃ k, k = nameF true (rest s j) := ⟨_, rfl⟩
  rw [← hk, rest_drop] at hres
  have hkl : k ≤ s.size - j := by rw [hk, ← rest_len]; exact nameF_le _ _
  have hij : i ≤ j := by omega
  obtain ⟨va, vc, rfl, _, _⟩ := hr.shape
  obtain ⟨R0, hR0⟩ : ∃ R0, R0 = raw.length := ⟨_, rfl⟩
  have hlw := wtF_len raw
  rw [← hR0] at hr hlw ⊢
  obtain ⟨i0, hi0, hz0, hz1, hz2⟩ := info_parts info_part
  have hc6 := cells_part
  have HSC := Lib.hid h
  have HROW := Lib.hid hr
  have HL := Lib.hid hL
  have HJ := Lib.hid hj
  have HK := Lib.hid hk
  have HR0 := Lib.hid hR0
  have HRES := Lib.hid hres
  have lcs := h.lt
  clear h hr hL hj hk hres hR0
  go_enter Try.func61, Try.ntmps61
  go_upto_if 15 with (go_at_call 31; refine (see0_any cs s i _ _ (HSC.out.alloc _) (by omega) (by omega)).mono ?_; rintro e w1 ⟨rfl, q1, rfl⟩)
  go_cut [] from 10 to 46 (fun wx => ScanAt wx cs s j ((0 : Nat) : Int) ∧ RecAt wx w.heap.size (PCells ⟨#[]⟩ (opB L) (.slice none 0 0) q) ∧ Keeps (fun b => b = cs) w wx)
  case first =>
    obtain ⟨W1, hW1⟩ : ∃ W1, W1 = (w.alloc (.cells #[.int .i64 3, .string ⟨#[]⟩, .string ⟨#[]⟩, .string ⟨#[]⟩, .slice none 0 0, .bool q] 39)).drewN q1 := ⟨_, rfl⟩
    rw [← hW1]
    have hs1 : ScanAt W1 cs s i ((0 : Nat) : Int) := by rw [hW1]; exact (HSC.out.alloc _).drewN _
    have hr1 : RecAt W1 w.heap.size (PCells ⟨#[]⟩ ⟨#[]⟩ (.slice none 0 0) q) := by rw [hW1]; exact (show RecAt (w.alloc _) w.heap.size _ from ⟨_, heap_alloc_new w _⟩).keep (S := fun _ => False) ((Keeps.refl _ _).drewN _) (fun h => h)
    have HK1 := Lib.hid (show Keeps (fun b => b = cs) w W1 by rw [hW1]; exact ((Keeps.refl _ _).alloc _).drewN _)
    have HR1 := Lib.hid hr1
    obtain ⟨pb, hpb⟩ : ∃ pb, pb = w.heap.size := ⟨_, rfl⟩
    rw [← hpb] at HR1
    rw [← hpb]
    have HPB := Lib.hid hpb
    have hne : cs ≠ pb := by omega
    clear hW1 hr1 hpb
    obtain ⟨c, hc⟩ : ∃ c, c = byteAt s i := ⟨_, rfl⟩
    have HC := Lib.hid hc.symm
    clear hc
    by_cases t35 : c = 35
    · have f35 : ((c.toNat : Int) == 35) = true := test_yes (c := c) (k := 35) t35
      have hlt : i < s.size := by
        rcases Nat.lt_or_ge i s.size with h | h
        · exact h
        · have h0 : c = 0 := by
            rw [← HC.out]; unfold byteAt
            rw [List.getD_eq_getElem?_getD, List.getElem?_eq_none (by rw [← Lib.size_eq]; omega)]; rfl
          rw [h0] at t35; exact absurd t35 (by decide)
      have hLv : L = (!headIs 125 (rest s (i + 1)) && (opF (rest s (i + 1))).isEmpty) := by
        rw [HL.out]; unfold longB
        rw [rest_cons hlt, HC.out, t35]
        rfl
      obtain ⟨x, hx⟩ : ∃ x, x = byteAt s (i + 1) := ⟨_, rfl⟩
      have HX := Lib.hid hx.symm
      have hhx : headIs 125 (rest s (i + 1)) = (x == 125) := by
        rw [hx]
        rcases Nat.lt_or_ge (i + 1) s.size with h | h
        · rw [rest_cons h]; rfl
        · rw [rest_nil h]
          unfold byteAt
          rw [List.getD_eq_getElem?_getD, List.getElem?_eq_none (by rw [← Lib.size_eq]; omega)]; rfl
      rw [hhx] at hLv
      have HLV := Lib.hid hLv
      rw [HC.out]
      clear t35 hLv hx hhx
      obtain ⟨d0, d1, d2, g1, g2⟩ := hs1.cells
      obtain ⟨w2, hw2, hs2, hk2⟩ := scan_moved0 hs1 ((i : Int) + 1)
      go_wp2_with fail
      rw [← hw2]
      refine (rop_any cs s (i + 1) _ _ hs2 (by omega)).mono ?_
      rintro e w3 ⟨O, rfl, hO, hs3, hk3⟩
      have HO := Lib.hid hO
      obtain ⟨e0, e1, e2, g3, g4⟩ := hs3.cells
      obtain ⟨w4, hw4, hs4, hk4⟩ := scan_moved0 hs3 ((i : Int) + 1 - 1)
      have HK4 := Lib.hid (((HK1.out.trans hk2 (fun _ _ e => e)).trans hk3 (fun _ _ e => e.elim)).trans hk4 (fun _ _ e => e))
      have HR4 := Lib.hid (((HR1.out.keep hk2 (fun e => hne e.symm)).keep hk3 (fun e => e)).keep hk4 (fun e => hne e.symm))
      have hs4' : ScanAt w4 cs s (i : Int) ((0 : Nat) : Int) := by rw [show (i : Int) + 1 - 1 = (i : Int) by omega] at hs4; exact hs4
      rw [show (i : Int) + 1 - 1 = (i : Int) by omega] at hw4
      clear hw2 hs2 hk2 hk3 hk4 hO hs4
      go_wp2_with fail
      rw [← hw4]
      clear hw4 e0 e1 e2 g3 g4 d0 d1 d2 g1 g2 hs3
      refine (see1_any cs s i _ _ hs4' (by omega) (by omega)).mono ?_
      rintro e w5 ⟨rfl, q5, rfl⟩
      rw [HX.out]
      obtain ⟨w5, hw5⟩ : ∃ w5, w5 = w4.drewN q5 := ⟨_, rfl⟩
      rw [← hw5]
      have hs5 : ScanAt w5 cs s i ((0 : Nat) : Int) := by rw [hw5]; exact hs4'.drewN _
      have HK5 := Lib.hid (show Keeps (fun b => b = cs) w w5 by rw [hw5]; exact HK4.out.drewN _)
      have HR5 := Lib.hid (show RecAt w5 pb (PCells ⟨#[]⟩ ⟨#[]⟩ (.slice none 0 0) q) by rw [hw5]; exact HR4.out.keep (S := fun _ => False) ((Keeps.refl _ _).drewN _) (fun h => h))
      clear hw5 hs4'
      by_cases tx : x = 125
      · have fx : ((x.toNat : Int) != 125) = false := by rw [bne, show ((x.toNat : Int) == 125) = true from test_yes (c := x) (k := 125) tx]; rfl
        have HLF := Lib.hid (show L = false by rw [HLV.out, tx]; rfl)
        clear tx
        go_wp2_with fail
        have hpb := HPB.out
        subst hpb
        go_meet
        case rel => exact ⟨by rw [HJ.out, HLF.out]; exact hs5, by rw [HLF.out]; exact HR5.out, HK5.out⟩
      · have fx : ((x.toNat : Int) != 125) = true := by rw [bne, show ((x.toNat : Int) == 125) = false from test_no (c := x) (k := 125) tx]; rfl
        by_cases tO : O.data.toList = []
        · obtain ⟨u1, u2⟩ := ba_empty tO
          have HLT := Lib.hid (show L = true by rw [HLV.out, beq_eq_false_iff_ne.2 tx, ← HO.out, tO]; rfl)
          clear tx tO
          obtain ⟨d0, d1, d2, g1, g2⟩ := hs5.cells
          obtain ⟨w6, hw6, hs6, hk6⟩ := scan_moved0 hs5 ((i : Int) + 1)
          have hr6 := HR5.out.keep hk6 (fun e => hne e.symm)
          obtain ⟨w7, hw7, hs7, hr7, hk7⟩ := part_set hs6 hr6 hne 3 (.string ⟨#[76]⟩)
          obtain ⟨b0, _, _, b3, b4, b5⟩ := hr6.six.1
          obtain ⟨⟨r0, r1, r2, r3, r4, r5⟩, z0, z1, z2, z3, z4⟩ := HR5.out.six
          have HS7 := Lib.hid hs7
          have HR7 := Lib.hid hr7
          have HW7 := Lib.hid hw7
          have HK7 := Lib.hid ((HK5.out.trans hk6 (fun _ _ e => e)).trans hk7 (fun b hb e => by have := HPB.out; omega))
          have HW6 := Lib.hid hw6
          clear hw6 hw7 hs6 hs7 hr6 hr7 hk6 hk7 b0 b3 b4 b5
          go_wp2_with fail
          rw [← HW6.out, ← HW7.out]
          have hpb := HPB.out
          subst hpb
          go_meet
          case rel => exact ⟨by rw [HJ.out, HLT.out]; exact HS7.out, by rw [HLT.out]; exact HR7.out, HK7.out⟩
        · obtain ⟨u1, u2⟩ := ba_full tO
          have HLF := Lib.hid (show L = false by
            rw [HLV.out, ← HO.out]
            cases h : O.data.toList with
            | nil => exact absurd h tO
            | cons a b => simp)
          clear tx tO
          go_wp2_with fail
          have hpb := HPB.out
          subst hpb
          go_meet
          case rel => exact ⟨by rw [HJ.out, HLF.out]; exact hs5, by rw [HLF.out]; exact HR5.out, HK5.out⟩
    · have f35 : ((c.toNat : Int) == 35) = false := test_no (c := c) (k := 35) t35
      have HLF := Lib.hid (show L = false by
        rw [HL.out]; unfold longB
        rcases Nat.lt_or_ge i s.size with h | h
        · rw [rest_cons h, HC.out]
          show ((c == 35) && _ && _) = false
          rw [beq_eq_false_iff_ne.2 t35]; rfl
        · rw [rest_nil h]; rfl)
      rw [HC.out]
      clear t35
      go_wp2_with fail
      have hpb := HPB.out
      subst hpb
      go_meet
      case rel => exact ⟨by rw [HJ.out, HLF.out]; exact hs1, by rw [HLF.out]; exact HR1.out, HK1.out⟩
  case rest =>
    obtain ⟨hs1, hr1, hk1⟩ := hcut
    obtain ⟨pb, hpb⟩ : ∃ pb, pb = w.heap.size := ⟨_, rfl⟩
    rw [← hpb] at hr1 ⊢
    have HPB := Lib.hid hpb
    have hne : cs ≠ pb := by omega
    have HS1 := Lib.hid hs1
    have HR1 := Lib.hid hr1
    have HK1 := Lib.hid hk1
    clear hs1 hr1 hk1 hpb
    go_wp2_with fail
    refine (rname_any cs s j _ _ HS1.out (by omega) hjl k HK.out.symm).mono ?_
    rintro e w2 ⟨R, rfl, hR, hs2, hk2⟩
    have hr2 := HR1.out.keep hk2 (fun e => hne e.symm)
    have HKW2 := Lib.hid (HK1.out.trans hk2 (fun _ _ e => e))
    obtain ⟨w3, hw3, hs3, hr3, hk3⟩ := part_set hs2 hr2 hne 2 (.string R)
    obtain ⟨⟨r0, r1, r2, r3, r4, r5⟩, z0, z1, z2, z3, z4⟩ := hr2.six
    have HNM := Lib.hid hR
    have HS3 := Lib.hid hs3
    have HR3 := Lib.hid (show RecAt w3 pb (PCells R (opB L) (.slice none 0 0) q) from hr3)
    have HW3 := Lib.hid hw3
    have HKW3 := Lib.hid (HKW2.out.trans hk3 (fun b hb e => by have := HPB.out; omega))
    have hRl : R.data.toList.length = k := by rw [hR, List.length_take, rest_len]; omega
    have HRL := Lib.hid hRl
    clear hR hs2 hk2 hr2 hw3 hs3 hr3 hk3 hRl
    rcases Nat.eq_zero_or_pos k with hk0 | hk0
    · have hRe : R.data.toList = [] := List.eq_nil_of_length_eq_zero (by rw [HRL.out]; exact hk0)
      obtain ⟨u1, u2⟩ := ba_empty hRe
      have HE2 := Lib.hid (show res = .error 2 by rw [HRES.out, if_pos hk0])
      clear hRe
      go_wp2_with fail
      rw [← HW3.out]
      refine (rfail_any cs s (j + k) 0 2 _ HS3.out).mono ?_
      rintro e w4 ⟨rfl, hs4, hk4⟩
      have HS4 := Lib.hid hs4
      have HK4 := Lib.hid (HKW3.out.trans hk4 (fun _ _ e => e))
      clear hs4 hk4
      go_wp2_with fail
      go_ret
      rw [HE2.out]
      exact ⟨by decide, _, j + k, raw, rfl, by omega, HS4.out, HROW.out.keep HK4.out (fun _ _ e => by omega), by omega, HK4.out.mono fun _ _ e => .inl e⟩
    obtain ⟨u1, u2⟩ := ba_full (s := R) (by intro h; rw [h] at HRL; have := HRL.out; simp at this; omega)
    have HRES2 := Lib.hid (show res = _ by rw [HRES.out, if_neg (by omega)])
    go_wp2_with fail
    rw [← HW3.out]
    refine (over_any cs s (j + k) _ _ HS3.out).mono ?_
    rintro e w4 ⟨rfl, q4, rfl⟩
    obtain ⟨W4, hW4⟩ : ∃ W4, W4 = w3.drewN q4 := ⟨_, rfl⟩
    rw [← hW4]
    have hs4 : ScanAt W4 cs s ((j + k : Nat) : Int) ((0 : Nat) : Int) := by rw [hW4]; exact HS3.out.drewN _
    have HK4 := Lib.hid (show Keeps (fun b => b = cs) w W4 by rw [hW4]; exact HKW3.out.drewN _)
    have hr4 : RecAt W4 pb (PCells R (opB L) (.slice none 0 0) q) := by rw [hW4]; exact HR3.out.keep (S := fun _ => False) ((Keeps.refl _ _).drewN _) (fun h => h)
    have HS4 := Lib.hid hs4
    have HR4 := Lib.hid hr4
    obtain ⟨P, hP⟩ : ∃ P, P = opB L := ⟨_, rfl⟩
    rw [← hP] at HR4 hr4
    have HP := Lib.hid hP
    clear hP hW4 r0 r1 r2 r3 r4 r5 z0 z1 z2 z3 z4
    by_cases hge : s.size ≤ j + k
    · have HOV := Lib.hid (show decide (s.size ≤ j + k) = true from decide_eq_true hge)
      have HE2 := Lib.hid (show res = .error 2 by
        rw [HRES2.out, rest_nil hge]
        rfl)
      rw [HOV.out]
      go_wp2_with fail
      refine (rfail_any cs s (j + k) 0 2 _ HS4.out).mono ?_
      rintro e w5 ⟨rfl, hs5, hk5⟩
      have HS5 := Lib.hid hs5
      have HK5 := Lib.hid (HK4.out.trans hk5 (fun _ _ e => e))
      clear hs5 hk5
      go_wp2_with fail
      go_ret
      rw [HE2.out]
      exact ⟨by decide, _, j + k, raw, rfl, by omega, HS5.out, HROW.out.keep HK5.out (fun _ _ e => by omega), by omega, HK5.out.mono fun _ _ e => .inl e⟩
    have hlt : j + k < s.size := by omega
    have HOV := Lib.hid (show decide (s.size ≤ j + k) = false from decide_eq_false (by omega))
    rw [HOV.out]
    obtain ⟨⟨r0, r1, r2, r3, r4, r5⟩, z0, z1, z2, z3, z4⟩ := hr4.six
    clear hs4 hr4
    go_upto_if 62 with fail
    go_cut [] from 57 to 90 (fun wx => ∃ (I n bad : Nat) (O : ByteArray) (wd : List Pt) (xv : Value), ScanAt wx cs s I (bad : Int) ∧ RecAt wx pb (PCells R O xv q) ∧ PtsAt wx (fun b => w.heap.size ≤ b) n wd xv ∧ Keeps (fun b => b = cs) w wx ∧ ((bad = 0 ∧ j + k ≤ I ∧ I ≤ s.size ∧ res = if headIs 125 (rest s I) then .ok ([.mk 3 [] ((rest s j).take k) O.data.toList wd q], rest s (I + 1)) else .error 2) ∨ (bad ≠ 0 ∧ I ≤ s.size + (100 - d) ∧ res = .error bad)))
    case first =>
      cases L with
      | true =>
        obtain ⟨u4, u3⟩ := ba_full (s := P) (by rw [HP.out]; decide)
        rw [u4]
        have HRR := Lib.hid (show res = if headIs 125 (rest s (j + k)) then .ok ([.mk 3 [] ((rest s j).take k) P.data.toList [] q], rest s (j + k + 1)) else .error 2 by
          rw [HRES2.out, rest_tail, Bool.or_true, HP.out]
          rfl)
        go_wp2_with fail
        go_meet
        case rel => exact ⟨j + k, 0, 0, P, [], _, HS4.out, HR4.out, PtsAt.nil _ _ 0, HK4.out, .inl ⟨rfl, Nat.le_refl _, by omega, HRR.out⟩⟩
      | false =>
        obtain ⟨u4, u3⟩ := ba_empty (s := P) (by rw [HP.out]; rfl)
        rw [u4]
        go_wp2_with fail
        refine (rop_any cs s (j + k) _ _ HS4.out (by omega)).mono ?_
        rintro e w5 ⟨O, rfl, hO, hs5, hk5⟩
        have hr5 := HR4.out.keep hk5 (fun e => e)
        have HKW5 := Lib.hid (HK4.out.trans hk5 (fun _ _ e => e.elim))
        obtain ⟨w6, hw6, hs6, hr6, hk6⟩ := part_set hs5 hr5 hne 3 (.string O)
        clear r0 r1 r2 r3 r4 r5 z0 z1 z2 z3 z4
        obtain ⟨⟨r0, r1, r2, r3, r4, r5⟩, z0, z1, z2, z3, z4⟩ := hr5.six
        have HOP := Lib.hid hO
        have HS6 := Lib.hid hs6
        have HR6 := Lib.hid (show RecAt w6 pb (PCells R O (.slice none 0 0) q) from hr6)
        have HW6 := Lib.hid hw6
        have HKW6 := Lib.hid (HKW5.out.trans hk6 (fun b hb e => by have := HPB.out; omega))
        have hOle : O.data.toList.length ≤ s.size - (j + k) := by rw [hO, ← rest_len]; exact opF_le _
        clear hO hs5 hk5 hr5 hw6 hs6 hr6 hk6
        by_cases hOe : O.data.toList = []
        · obtain ⟨u5, u6⟩ := ba_empty hOe
          have HRR := Lib.hid (show res = if headIs 125 (rest s (j + k)) then .ok ([.mk 3 [] ((rest s j).take k) O.data.toList [] q], rest s (j + k + 1)) else .error 2 by
            rw [HRES2.out, rest_tail, ← HOP.out, hOe]
            rfl)
          clear hOe
          go_wp2_with fail
          rw [← HW6.out]
          have hpb := HPB.out
          go_meet
          case rel => exact ⟨j + k, 0, 0, O, [], _, HS6.out, HR6.out, PtsAt.nil _ _ 0, HKW6.out, .inl ⟨rfl, Nat.le_refl _, by omega, HRR.out⟩⟩
        · obtain ⟨u5, u6⟩ := ba_full hOe
          have hOpos : 0 < O.data.toList.length := List.length_pos_iff.2 hOe
          have HOZ := Lib.hid (Lib.size_eq O)
          have h125 : headIs 125 (rest s (j + k)) = false := op_not_brace (by rw [← HOP.out]; exact hOe)
          obtain ⟨J, hJ⟩ : ∃ J, J = j + k + O.size := ⟨_, rfl⟩
          have HRR := Lib.hid (show res = if d = 40 then .error 3 else match lexC (.br q) (d + 1) (rest s J) with
              | .error e => .error e
              | .ok (l, r3) => .ok ([.mk 3 [] ((rest s j).take k) O.data.toList (tidyF l) q], r3) by
            rw [HRES2.out, h125, ← HOP.out]
            simp only [Bool.false_eq_true, if_false, Bool.or_false]
            rw [if_neg (by simpa using hOe), rest_drop, ← HOZ.out, hJ]
            rfl)
          have hOz2 : O.size = O.data.toList.length := HOZ.out
          have hJs : J ≤ s.size := by omega
          have hJI : j + k < J := by omega
          have ew : ((j + k : Nat) : Int) + (O.size : Int) = (J : Int) := by omega
          have HJJ := Lib.hid hJ
          have HEW := Lib.hid ew
          clear hOe h125 hOpos hJ hOz2 ew
          go_wp2_with fail
          rw [← HW6.out]
          clear r0 r1 r2 r3 r4 r5 z0 z1 z2 z3 z4
          obtain ⟨⟨r0, r1, r2, r3, r4, r5⟩, z0, z1, z2, z3, z4⟩ := HR6.out.six
          obtain ⟨c0, c1, c2, f1, f2⟩ := HS6.out.cells
          have lt6 := HS6.out.lt
          have hpbl := HR6.out.lt
          go_region
          have hwr : wrap64 ((j : Int) + (k : Int) + (O.size : Int)) = (J : Int) := (IntWalk.wrap64_in _ (by have := HJJ.out; omega)).trans (by have := HJJ.out; omega)
          rw [hwr]
          obtain ⟨w7, hw7⟩ : ∃ w7, w7 = (w6.setCell ⟨cs, 1, none⟩ (.int .i64 (J : Int))).drew := ⟨_, rfl⟩
          rw [← hw7]
          obtain ⟨hs7a, hk7a⟩ := rmoved HS6.out (j := (J : Int)) (J := J) rfl
          have hs7 : ScanAt w7 cs s J ((0 : Nat) : Int) := by rw [hw7]; exact hs7a.keep (S := fun _ => False) (Keeps.refl _ _).drew (fun h => h)
          have hk7 : Keeps (fun b => b = cs) w6 w7 := by rw [hw7]; exact hk7a.drew
          have HR7 := Lib.hid (HR6.out.keep hk7 (fun e => hne e.symm))
          have HKW7 := Lib.hid (HKW6.out.trans hk7 (fun _ _ e => e))
          have HS7 := Lib.hid hs7
          clear r0 r1 r2 r3 r4 r5 z0 z1 z2 z3 z4 c0 c1 c2 f1 f2 hwr hw7 hs7a hk7a hs7 hk7
          by_cases h40 : d = 40
          · have HE3 := Lib.hid (show res = .error 3 by rw [HRR.out, if_pos h40])
            have p40 : (40 : Int) ≤ (d : Int) := by omega
            clear h40
            go_wp2_with fail
            refine (rfail_any cs s J 0 3 _ HS7.out).mono ?_
            rintro e w8 ⟨rfl, hs8, hk8⟩
            have HS8 := Lib.hid hs8
            have HK8 := Lib.hid (HKW7.out.trans hk8 (fun _ _ e => e))
            clear hs8 hk8
            go_wp2_with fail
            go_ret
            rw [HE3.out]
            exact ⟨by decide, _, J, raw, rfl, by omega, HS8.out, HROW.out.keep HK8.out (fun _ _ e => by omega), by omega, HK8.out.mono fun _ _ e => .inl e⟩
          · have p40 : ¬ (40 : Int) ≤ (d : Int) := by omega
            have HRR2 := Lib.hid (show res = _ by rw [HRR.out, if_neg h40])
            obtain ⟨hb1, hb2⟩ := br_word (d + 1) q (by omega) (rest s J).length (rest s J) (Nat.le_refl _)
            have hcall := IH cs s J (d + 1) true q w7 HS7.out hJs hs (by omega) (by have := HKW7.out.size; omega) (by omega)
            rw [show ((d + 1 : Nat) : Int) = (d : Int) + 1 from by omega] at hcall
            have HCALL := Lib.hid hcall
            have HB1 := Lib.hid hb1
            have HB2 := Lib.hid hb2
            clear h40 hcall hb1 hb2
            go_wp2_with fail
            refine HCALL.out.mono ?_
            intro e w8 hp
            cases hwx : wordXC true (d + 1) q (rest s J) with
            | error x =>
              rw [hwx] at hp
              obtain ⟨hx0, v, n, I, l, he, hI, hs8, hp8, hk8⟩ := hp
              obtain ⟨xa, xc, rfl, _, _⟩ := hp8.shape
              subst he
              have HRX := Lib.hid (show res = .error x by rw [HRR2.out, HB1.out, hwx])
              obtain ⟨xl, hxl⟩ : ∃ xl, xl = l.length := ⟨_, rfl⟩
              rw [← hxl] at hp8 ⊢
              have hr8 := HR7.out.keep hk8 (fun e => hne e.symm)
              have hpb7 := HR7.out.lt
              obtain ⟨w9, hw9, hs9, hr9, hk9⟩ := part_set hs8 hr8 hne 4 (.slice xa xl xc)
              obtain ⟨⟨r0, r1, r2, r3, r4, r5⟩, z0, z1, z2, z3, z4⟩ := hr8.six
              have HS9 := Lib.hid hs9
              have HR9 := Lib.hid (show RecAt w9 pb (PCells R O (.slice xa xl xc) q) from hr9)
              have HW9 := Lib.hid hw9
              have HKW9 := Lib.hid ((HKW7.out.trans hk8 (fun _ _ e => e)).trans hk9 (fun b hb e => by have := HPB.out; omega))
              have HP9 := Lib.hid (show PtsAt w9 (fun b => w.heap.size ≤ b) n l (.slice xa xl xc) from (hp8.keep hk9 (fun b hb h e => by omega)).mono (fun b hb h => by have := HKW7.out.size; omega))
              clear hs8 hp8 hk8 hw9 hs9 hr9 hk9 hxl hr8
              go_wp2_with fail
              rw [← HW9.out]
              go_meet
              case rel => exact ⟨I, n, x, O, l, _, HS9.out, HR9.out, HP9.out, HKW9.out, .inr ⟨hx0, by omega, HRX.out⟩⟩
            | ok lr =>
              obtain ⟨l, r1⟩ := lr
              rw [hwx] at hp
              obtain ⟨v, n, I, he, hI, hr8, hs8, hp8, hk8⟩ := hp
              obtain ⟨xa, xc, rfl, _, _⟩ := hp8.shape
              subst he
              have hJI2 : j + k ≤ I := by
                have h1 := wordX_len _ _ _ _ _ _ _ hwx
                rw [← hr8, rest_len, rest_len] at h1
                omega
              have HRX := Lib.hid (show res = if headIs 125 (rest s I) then .ok ([.mk 3 [] ((rest s j).take k) O.data.toList (tidyF l) q], rest s (I + 1)) else .error 2 by
                rw [HRR2.out, HB1.out, hwx]
                dsimp only
                cases hr1 : r1 with
                | nil => rw [hr8, hr1]; rfl
                | cons c t =>
                  have hc := HB2.out l c t (by rw [hwx, hr1])
                  rw [hr8, hr1, hc]
                  have ht : rest s (I + 1) = t := by rw [← rest_tail, hr8, hr1]; rfl
                  rw [ht]
                  rfl)
              obtain ⟨xl, hxl⟩ : ∃ xl, xl = (tidyF l).length := ⟨_, rfl⟩
              rw [← hxl] at hp8 ⊢
              have hr8b := HR7.out.keep hk8 (fun e => hne e.symm)
              have hpb7 := HR7.out.lt
              obtain ⟨w9, hw9, hs9, hr9, hk9⟩ := part_set hs8 hr8b hne 4 (.slice xa xl xc)
              obtain ⟨⟨r0, r1x, r2, r3, r4, r5⟩, z0, z1, z2, z3, z4⟩ := hr8b.six
              have HS9 := Lib.hid hs9
              have HR9 := Lib.hid (show RecAt w9 pb (PCells R O (.slice xa xl xc) q) from hr9)
              have HW9 := Lib.hid hw9
              have HKW9 := Lib.hid ((HKW7.out.trans hk8 (fun _ _ e => e)).trans hk9 (fun b hb e => by have := HPB.out; omega))
              have HP9 := Lib.hid (show PtsAt w9 (fun b => w.heap.size ≤ b) n (tidyF l) (.slice xa xl xc) from (hp8.keep hk9 (fun b hb h e => by omega)).mono (fun b hb h => by have := HKW7.out.size; omega))
              clear hs8 hp8 hk8 hw9 hs9 hr9 hk9 hxl hr8b
              go_wp2_with fail
              rw [← HW9.out]
              go_meet
              case rel => exact ⟨I, n, 0, O, tidyF l, _, HS9.out, HR9.out, HP9.out, HKW9.out, .inl ⟨rfl, hJI2, hI, HRX.out⟩⟩
    case rest =>
      obtain ⟨I, n, bad, O, wd, xv, hs1, hr1, hp1, hk1, hfin⟩ := hcut
      obtain ⟨xa, xc, rfl, _, _⟩ := hp1.shape
      obtain ⟨xl, hxl⟩ : ∃ xl, xl = wd.length := ⟨_, rfl⟩
      rw [← hxl] at hp1 hr1
      have hIb : I ≤ s.size + 100 := by rcases hfin with ⟨_, _, h, _⟩ | ⟨_, h, _⟩ <;> omega
      obtain ⟨c, hc⟩ : ∃ c, c = byteAt s I := ⟨_, rfl⟩
      have HC := Lib.hid hc.symm
      have HH := Lib.hid (show headIs 125 (rest s I) = (c == 125) by
        rw [hc]
        rcases Nat.lt_or_ge I s.size with h | h
        · rw [rest_cons h]; rfl
        · rw [rest_nil h]
          unfold byteAt
          rw [List.getD_eq_getElem?_getD, List.getElem?_eq_none (by rw [← Lib.size_eq]; omega)]; rfl)
      have HFIN := Lib.hid hfin
      have HS := Lib.hid hs1
      have HR := Lib.hid hr1
      have HP := Lib.hid hp1
      have HKX := Lib.hid hk1
      clear hc hfin hs1 hr1 hp1 hk1 hxl r0 r1 r2 r3 r4 r5 z0 z1 z2 z3 z4
      go_wp2_with fail
      refine (see0_any cs s I _ _ HS.out (by omega) (by omega)).mono ?_
      rintro e w5 ⟨rfl, q5, rfl⟩
      rw [HC.out]
      obtain ⟨W, hW⟩ : ∃ W, W = wc.drewN q5 := ⟨_, rfl⟩
      rw [← hW]
      have hsW : ScanAt W cs s I (bad : Int) := by rw [hW]; exact HS.out.drewN _
      have HRW := Lib.hid (show RecAt W pb (PCells R O (.slice xa xl xc) q) by rw [hW]; exact HR.out.keep (S := fun _ => False) ((Keeps.refl _ _).drewN _) (fun h => h))
      have HPW := Lib.hid (show PtsAt W (fun b => w.heap.size ≤ b) n wd (.slice xa xl xc) by rw [hW]; exact HP.out.keep (S := fun _ => False) ((Keeps.refl _ _).drewN _) (fun _ _ _ h => h))
      have HKW := Lib.hid (show Keeps (fun b => b = cs) w W by rw [hW]; exact HKX.out.drewN _)
      clear hW
      by_cases t125 : c = 125
      · have fx : ((c.toNat : Int) != 125) = false := by rw [bne, show ((c.toNat : Int) == 125) = true from test_yes (c := c) (k := 125) t125]; rfl
        have hIs : I < s.size := by
          rcases Nat.lt_or_ge I s.size with h | h
          · exact h
          · have h0 : c = 0 := by
              rw [← HC.out]; unfold byteAt
              rw [List.getD_eq_getElem?_getD, List.getElem?_eq_none (by rw [← Lib.size_eq]; omega)]; rfl
            rw [h0] at t125; exact absurd t125 (by decide)
        have HHT := Lib.hid (show headIs 125 (rest s I) = true by rw [HH.out, t125]; rfl)
        obtain ⟨c0, c1, c2, f1, f2⟩ := hsW.cells
        have ltW := hsW.lt
        have hpbl := HRW.out.lt
        obtain ⟨hs4, hk4⟩ := rmoved hsW (j := (I : Int) + 1) (J := I + 1) (by omega)
        have hr4 := HRW.out.keep hk4 (fun e => hne e.symm)
        have HK4 := Lib.hid (HKW.out.trans hk4 (fun _ _ e => e))
        have hB4 : B ≤ (W.setCell ⟨cs, 1, none⟩ (.int .i64 ((I : Int) + 1))).heap.size := Nat.le_trans hB HK4.out.size
        have hR4 := HROW.out.keep HK4.out (fun _ _ e => by omega)
        have hp4 : PtsAt (W.setCell ⟨cs, 1, none⟩ (.int .i64 ((I : Int) + 1))) (fun b => B ≤ b ∧ (Value.slice va R0 vc).ownBlock ≠ some b) n wd (.slice xa xl xc) := (HPW.out.keep hk4 (fun b hb h e => by omega)).mono (fun b hb h => ⟨by omega, fun e => by have := HROW.out.1.lt e; omega⟩)
        obtain ⟨xs, hown, hF⟩ := hR4.more (x := .mk 3 [] ((rest s j).take k) O.data.toList wd q) hB4 (Keeps.refl _ _) hp4
        have e1 : strV ((rest s j).take k) = .string R := strV_of HNM.out
        have e2 : strV O.data.toList = .string O := strV_of rfl
        simp only [cellsP, Pt.kind, Pt.text, Pt.name, Pt.op, Pt.quoted, e1, e2] at hF
        have HF := Lib.hid hF
        have HS4 := Lib.hid hs4
        rw [← HR0.out] at hown HF
        obtain ⟨⟨r0, r1, r2, r3, r4, r5⟩, z0, z1, z2, z3, z4⟩ := HRW.out.six
        have hR0l : R0 ≤ 1000000 := by omega
        have hz5 : (W.setCell ⟨cs, 1, none⟩ (.int .i64 ((I : Int) + 1))).heap.size = W.heap.size := by simp [World.setCell]
        have hb2 := heap_alloc_new (W.setCell ⟨cs, 1, none⟩ (.int .i64 ((I : Int) + 1))) (.cells #[.int .i64 3, .string ⟨#[]⟩, .string R, .string O, .slice xa xl xc, .bool q] 39)
        rw [hz5] at hb2
        have HB2 := Lib.hid hb2
        clear t125 hs4 hk4 hr4 hR4 hp4 hF e1 e2 hb2 hz5
        go_wp2_with (at_builtin; refine wpList_append_lies _ rfl (.tmp 104) (.tmp 106) _ rfl 0 39 i0 _ 6 88 Try.underlying32 hi0 hz0 hz1 hz2 rfl (by omega) (.slice va R0 vc) R0 xs rfl (hown.alloc _) ⟨W.heap.size, 0, none⟩ 1 1 [.int .i64 3, .string ⟨#[]⟩, .string R, .string O, .slice xa xl xc, .bool q] rfl rfl (World.news_of_block (cs := #[.int .i64 3, .string ⟨#[]⟩, .string R, .string O, .slice xa xl xc, .bool q]) (t := 39) (fr := (0, 0)) HB2.out) (by simp [Value.oneCell']) (by omega) (by unfold maxLen; omega) (by omega) (by simp) (W.heap.size + 1) (by simp [World.setCell]) ?_; intro gg cap w5 hown2 hgrow hat hlt2)
        go_ret
        obtain ⟨hrow, hkeep⟩ := HF.out gg cap w5 _ hown2 hgrow (by simpa [World.setCell] using hat)
        rcases HFIN.out with ⟨rfl, _, _, hres⟩ | ⟨hb0, _, hres⟩
        · rw [hres, HHT.out]
          exact ⟨_, I + 1, rfl, by omega, rfl, HS4.out.keep hkeep (fun e => by omega), hrow, by rw [wtF_append]; simp only [wtF, Pt.text, List.length_nil]; omega, (HK4.out.mono fun _ _ e => .inl e).trans hkeep (fun _ _ e => .inr e)⟩
        · rw [hres]
          exact ⟨hb0, _, I + 1, _, rfl, by omega, HS4.out.keep hkeep (fun e => by omega), hrow, by rw [wtF_append]; simp only [wtF, Pt.text, List.length_nil]; omega, (HK4.out.mono fun _ _ e => .inl e).trans hkeep (fun _ _ e => .inr e)⟩
      · have fx : ((c.toNat : Int) != 125) = true := by rw [bne, show ((c.toNat : Int) == 125) = false from test_no (c := c) (k := 125) t125]; rfl
        have HHF := Lib.hid (show headIs 125 (rest s I) = false by rw [HH.out]; exact beq_eq_false_iff_ne.2 t125)
        clear t125
        go_wp2_with fail
        refine (rfail_any cs s I bad 2 _ hsW).mono ?_
        rintro e w6 ⟨rfl, hs6, hk6⟩
        have HS6 := Lib.hid hs6
        have HK6 := Lib.hid (HKW.out.trans hk6 (fun _ _ e => e))
        clear hs6 hk6
        go_wp2_with fail
        go_ret
        rcases HFIN.out with ⟨rfl, _, hI2, hres⟩ | ⟨hb0, hI2, hres⟩
        · rw [hres, HHF.out]
          exact ⟨by decide, _, I, raw, rfl, by omega, HS6.out, HROW.out.keep HK6.out (fun _ _ e => by omega), by omega, HK6.out.mono fun _ _ e => .inl e⟩
        · rw [hres]
          have hs6 := HS6.out
          rw [if_neg hb0] at hs6
          exact ⟨hb0, _, I, raw, rfl, hI2, hs6, HROW.out.keep HK6.out (fun _ _ e => by omega), by omega, HK6.out.mono fun _ _ e => .inl e⟩
end Go.Proofs.Ytnndnldpbdhkgaa
