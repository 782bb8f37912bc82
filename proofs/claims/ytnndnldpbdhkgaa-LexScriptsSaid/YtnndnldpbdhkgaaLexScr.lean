/-
  LexScripts' walk.
-/
import Derived.Test.YtnndnldpbdhkgaaLexScripts
namespace Go.Proofs.Ytnndnldpbdhkgaa
open Go.RowKit
set_option linter.unusedVariables false

set_option maxRecDepth 100000 in
set_option maxHeartbeats 8000000 in
theorem lexScripts_walk (a0 : ByteArray) (a1 a2 : Bool) (w : World) (h1 : a0.size ≤ 140737488351232) (hsh : w.ShapedOpen Try.prog) :
    Calls Try.prog 12 #[.string a0, .bool a1, .bool a2] w fun e w' => e = .returned (.bool true) ∧ Below w.heap.size w w' := by
  have hc3 := cells_token
  have hc6 := cells_part
  by_cases hl : 200 < a0.size
  · have t1 : (200 : Int) < (a0.size : Int) := by omega
    go_enter Try.func12, Try.ntmps12
    go_wp2_with fail
    refine (alive_any w).mono ?_
    rintro e w1 ⟨rfl, hk⟩
    have HK := Lib.hid hk
    clear hk
    go_wp2_with fail
    go_ret
    exact ⟨rfl, HK.out.below0 (fun _ h => h.elim)⟩
  have t1 : ¬ (200 : Int) < (a0.size : Int) := by omega
  go_enter Try.func12, Try.ntmps12
  go_wp2_with fail
  refine (alive_any w).mono ?_
  rintro e w1 ⟨rfl, hk⟩
  have HK := Lib.hid hk
  clear hk
  go_wp2_with fail
  go_loopw [8, 9] (fun o' k' wr => ∃ o k : Nat, o' = .int .i64 o ∧ k' = .int .i64 k ∧ k ≤ a0.size ∧ o ≤ k ∧ Hid (bal 0 (a0.data.toList.take k) = some o) ∧ Hid (∀ j, j < k → inS (byteAt a0 j) = true) ∧ wr = w1) (fun _ k' _ => a0.size - (intOf k').toNat)
  case atStart => exact ⟨0, 0, rfl, rfl, Nat.zero_le _, Nat.le_refl _, Lib.hid rfl, Lib.hid (fun j hj => absurd hj (Nat.not_lt_zero _)), rfl⟩
  case round =>
    obtain ⟨o, k, rfl, rfl, hk, hok, HB, HL, rfl⟩ := hrel
    rcases Nat.lt_or_ge k a0.size with hlt | hge
    · have p1 : (k : Int) < (a0.size : Int) := by omega
      have hb := byteAt_in hlt
      obtain ⟨x, hx⟩ : ∃ x, x = byteAt a0 k := ⟨_, rfl⟩
      rw [← hx] at hb
      have HX := Lib.hid hx
      clear hx
      by_cases t39 : x = 39
      · have f39 : ((x.toNat : Int) == 39) = true := test_yes (c := x) (k := 39) t39
        clear t39
        go_wp2_with fail
        go_ret
        exact ⟨rfl, HK.out.below0 (fun _ h => h.elim)⟩
      have f39 : ((x.toNat : Int) == 39) = false := test_no (c := x) (k := 39) t39
      have g39 : (x == 39) = false := beq_eq_false_iff_ne.2 t39
      have G39 := Lib.hid g39
      clear t39 g39
      by_cases t34 : x = 34
      · have f34 : ((x.toNat : Int) == 34) = true := test_yes (c := x) (k := 34) t34
        clear t34
        go_wp2_with fail
        go_ret
        exact ⟨rfl, HK.out.below0 (fun _ h => h.elim)⟩
      have f34 : ((x.toNat : Int) == 34) = false := test_no (c := x) (k := 34) t34
      have g34 : (x == 34) = false := beq_eq_false_iff_ne.2 t34
      have G34 := Lib.hid g34
      clear t34 g34
      by_cases t92 : x = 92
      · have f92 : ((x.toNat : Int) == 92) = true := test_yes (c := x) (k := 92) t92
        clear t92
        go_wp2_with fail
        go_ret
        exact ⟨rfl, HK.out.below0 (fun _ h => h.elim)⟩
      have f92 : ((x.toNat : Int) == 92) = false := test_no (c := x) (k := 92) t92
      have g92 : (x == 92) = false := beq_eq_false_iff_ne.2 t92
      have G92 := Lib.hid g92
      clear t92 g92
      by_cases t0 : x = 0
      · have f0 : ((x.toNat : Int) == 0) = true := test_yes (c := x) (k := 0) t0
        clear t0
        go_wp2_with fail
        go_ret
        exact ⟨rfl, HK.out.below0 (fun _ h => h.elim)⟩
      have f0 : ((x.toNat : Int) == 0) = false := test_no (c := x) (k := 0) t0
      have g0 : (x == 0) = false := beq_eq_false_iff_ne.2 t0
      have G0 := Lib.hid g0
      clear t0 g0
      by_cases t96 : x = 96
      · have f96 : ((x.toNat : Int) == 96) = true := test_yes (c := x) (k := 96) t96
        clear t96
        go_wp2_with fail
        go_ret
        exact ⟨rfl, HK.out.below0 (fun _ h => h.elim)⟩
      have f96 : ((x.toNat : Int) == 96) = false := test_no (c := x) (k := 96) t96
      have g96 : (x == 96) = false := beq_eq_false_iff_ne.2 t96
      have G96 := Lib.hid g96
      clear t96 g96
      have hl2 : inS x = true := by
        unfold inS
        rw [G39.out, G34.out, G92.out, G0.out, G96.out]
        rfl
      have HL2 := Lib.hid (show ∀ j, j < k + 1 → inS (byteAt a0 j) = true from fun j hj => by
        rcases Nat.lt_or_ge j k with h | h
        · exact HL.out j h
        · obtain rfl : j = k := by omega
          rw [← HX.out]; exact hl2)
      have hst : bal 0 (a0.data.toList.take (k + 1)) = bal o [x] := by
        have hkl : k < a0.data.toList.length := by rw [← Lib.size_eq]; exact hlt
        rw [List.take_succ_eq_append_getElem hkl, bal_snoc _ _ _ _ HB.out]
        have e : a0.data.toList[k] = x := by
          rw [HX.out]
          unfold byteAt
          rw [List.getD_eq_getElem?_getD, List.getElem?_eq_getElem hkl]; rfl
        rw [e]
      have HST := Lib.hid hst
      clear hl2 hst
      by_cases t40 : x = 40
      · have f40 : ((x.toNat : Int) == 40) = true := test_yes (c := x) (k := 40) t40
        have f41 : ((x.toNat : Int) == 41) = false := test_no (c := x) (k := 41) (by rw [t40]; decide)
        have hb2 : bal o [x] = some (o + 1) := by rw [t40]; rfl
        have HB2 := Lib.hid (HST.out.trans hb2)
        have p3 : ¬ (o : Int) + 1 < 0 := by omega
        clear t40 hb2
        go_wp2_with fail
        go_roundw
        case rel => exact ⟨o + 1, k + 1, by go_num, by go_num, by omega, by omega, HB2, HL2, trivial⟩
        case measure => simp [intOf]; omega
      have f40 : ((x.toNat : Int) == 40) = false := test_no (c := x) (k := 40) t40
      have G40 := Lib.hid t40
      clear t40
      by_cases t41 : x = 41
      · have f41 : ((x.toNat : Int) == 41) = true := test_yes (c := x) (k := 41) t41
        rcases Nat.eq_zero_or_pos o with ho | ho
        · subst ho
          clear t41
          go_wp2_with fail
          go_ret
          exact ⟨rfl, HK.out.below0 (fun _ h => h.elim)⟩
        · obtain ⟨o, rfl⟩ : ∃ p, o = p + 1 := ⟨o - 1, by omega⟩
          have hb2 : bal (o + 1) [x] = some o := by rw [t41]; rfl
          have HB2 := Lib.hid (HST.out.trans hb2)
          have p3 : ¬ ((o + 1 : Nat) : Int) - 1 < 0 := by omega
          have p4 : ((o + 1 : Nat) : Int) - 1 = (o : Int) := by omega
          clear t41 hb2
          go_wp2_with fail
          go_roundw
          case rel => exact ⟨o, k + 1, by go_num, by go_num, by omega, by omega, HB2, HL2, trivial⟩
          case measure => simp [intOf]; omega
      have f41 : ((x.toNat : Int) == 41) = false := test_no (c := x) (k := 41) t41
      have hb2 : bal o [x] = some o := by
        unfold bal
        rw [if_neg (by simpa using G40.out), if_neg (by simpa using t41)]
        rfl
      have HB2 := Lib.hid (HST.out.trans hb2)
      have p3 : ¬ (o : Int) < 0 := by omega
      clear t41 hb2
      go_wp2_with fail
      go_roundw
      case rel => exact ⟨o, k + 1, rfl, by go_num, by omega, by omega, HB2, HL2, trivial⟩
      case measure => simp [intOf]; omega
    · obtain rfl : k = a0.size := by omega
      have p1 : ¬ (a0.size : Int) < (a0.size : Int) := by omega
      have hin : ∀ x ∈ a0.data.toList, inS x = true := fun x hx => by
        obtain ⟨j, hj⟩ := List.mem_iff_getElem?.1 hx
        have h2 := HL.out j (by rw [Lib.size_eq]; exact (List.getElem?_eq_some_iff.1 hj).1)
        unfold byteAt at h2
        rw [List.getD_eq_getElem?_getD, hj] at h2
        exact h2
      have HIN := Lib.hid hin
      have hbl : bal 0 a0.data.toList = some o := by
        have h := HB.out
        rwa [List.take_of_length_le (by rw [← Lib.size_eq]; exact Nat.le_refl _)] at h
      have HBL := Lib.hid hbl
      clear hin hbl hge
      by_cases ho : o ≠ 0
      · have p2 : ((o : Int) != 0) = true := by rw [bne_iff_ne]; omega
        clear ho
        go_wp2_with fail
        go_ret
        exact ⟨rfl, HK.out.below0 (fun _ h => h.elim)⟩
      obtain rfl : o = 0 := by omega
      clear ho
      have HW := Lib.hid (show ∀ (kc q : Bool), (kc = true ∨ headIs 40 a0.data.toList = false) → ∀ S U : ByteArray, S.data.toList = scrW kc q a0.data.toList [] → U.data.toList = scrW kc q a0.data.toList [59] →
          (∀ W, Calls Try.prog 22 #[.string S] W (WordPost W (.ok [.mk (scrK kc) a0.data.toList [] [] [] q]))) ∧ (∀ W, Calls Try.prog 14 #[.string U] W (TokensPost W (.ok [⟨1, [], [.mk (scrK kc) a0.data.toList [] [] [] q]⟩, ⟨2, [59], []⟩]))) from fun kc q hh S U hS hU => by
        have hz : a0.data.toList.length ≤ 200 := by rw [← Lib.size_eq]; omega
        refine ⟨fun W => ?_, fun W => ?_⟩
        · have h := word_any S W (by rw [Lib.size_eq, hS]; have := scrW_len kc q a0.data.toList []; simp at this; omega)
          obtain ⟨l, h3, h4⟩ := word_scr kc q HIN.out HBL.out hh
          rw [hS, wholeF_C _ (scrW_may HIN.out hz (by simp) (fun c hc => by cases hc)), h3] at h
          dsimp only at h
          rw [h4] at h
          exact h
        · have h := tokens_any U W (by rw [Lib.size_eq, hU]; have := scrW_len kc q a0.data.toList [59]; simp at this; omega)
          rw [hU, tokensF_C _ (scrW_may HIN.out hz (by simp) (fun c hc => by obtain rfl := List.mem_singleton.1 hc; rfl)), toks_scr kc q HIN.out HBL.out hh] at h
          exact h)
      cases a1 with
      | true =>
        cases a2 with
        | true =>
          obtain ⟨S, hS⟩ : ∃ S, S = ((⟨#[34]⟩ : ByteArray) ++ ((⟨#[36, 40, 40]⟩ : ByteArray) ++ a0 ++ ⟨#[41, 41]⟩) ++ ⟨#[34]⟩) := ⟨_, rfl⟩
          obtain ⟨U, hU⟩ : ∃ U, U = S ++ ⟨#[59]⟩ := ⟨_, rfl⟩
          have hSl : S.data.toList = scrW true true a0.data.toList [] := by rw [hS]; simp only [ba_append]; simp [scrW, scr]
          have hUl : U.data.toList = scrW true true a0.data.toList [59] := by rw [hU, ba_append, hSl]; exact scrW_app _ _ _ _
          have hSz : S.size ≤ 210 := by rw [Lib.size_eq, hSl]; have h := scrW_len true true a0.data.toList []; have h2 := Lib.size_eq a0; simp at h; omega
          obtain ⟨hT2, hT1⟩ := HW.out true true (.inl rfl) S U hSl hUl
          have HT1 := Lib.hid hT1
          have HT2 := Lib.hid hT2
          have HS := Lib.hid hS
          have HU := Lib.hid hU
          have HW1 := Lib.hid (show RecAt (wr.alloc (.cells #[.int .i64 4, .string a0, .string ⟨#[]⟩, .string ⟨#[]⟩, .slice none 0 0, .bool true] 39)) wr.heap.size [.int .i64 4, .string a0, .string ⟨#[]⟩, .string ⟨#[]⟩, .slice none 0 0, .bool true] from ⟨_, heap_alloc_new wr _⟩)
          clear hT1 hT2 hS hU hSl hUl
          go_wp2_with fail
          rw [← HS.out]
          refine (HT2.out _).mono ?_
          rintro e w2 ⟨v, n, rfl, hp, hk2⟩
          obtain ⟨ya, yc, rfl, _, _⟩ := hp.shape
          have HP := Lib.hid hp
          have HK2 := Lib.hid ((HK.out.alloc _).trans hk2 (fun _ _ h => h))
          have HW2 := Lib.hid (HW1.out.keep hk2 (fun h => h))
          clear hp hk2
          go_wp2_with fail
          rw [← HU.out]
          refine (HT1.out _).mono ?_
          rintro e w3 ⟨v, n3, rfl, hv, hk3⟩
          obtain ⟨va, vc, rfl, _, _⟩ := hv.shape
          obtain ⟨g, o, xa, xl, xc, rfl, ⟨q0, q1, q2⟩, hx, hg⟩ := hv.at (Keeps.refl _ _) (i := 0) (Nat.succ_pos _)
          have q2' : w3.cell? ⟨g, o + 2, none⟩ = some (.slice xa xl xc) := q2
          have HQ2 := Lib.hid q2'
          have HW3 := Lib.hid (HW2.out.keep hk3 (fun h => h))
          have HK3 := Lib.hid (HK2.out.trans hk3 (fun _ _ h => h))
          obtain ⟨⟨c0, c1, c2, c3, c4, c5⟩, _⟩ := HW3.out.six
          have lw3 := HW3.out.lt
          obtain ⟨m, hm⟩ := one_reads w3 4 a0 true
          have hka : Keeps (fun _ => False) w3 (w3.alloc (.cells #[.int .i64 4, .string a0, .string ⟨#[]⟩, .string ⟨#[]⟩, .slice none 0 0, .bool true] 39)) := (Keeps.refl _ _).alloc _
          have HP4 := Lib.hid (HP.out.keep (hk3.trans hka (fun _ _ h => h)) (fun _ _ _ h => h))
          have HS1 := Lib.hid (sameparts_any _ _ _ _ _ _ _ _ _ HP4.out hm)
          have HX4 := Lib.hid (hx.keep hka (fun _ _ _ h => h))
          have HQ4 := Lib.hid ((World.cell?_of_block (a := ⟨g, o + 2, none⟩) (hka.block g hg (fun h => h))).trans q2')
          have HG4 := Lib.hid (Nat.lt_of_lt_of_le hg hka.size)
          have HK4 := Lib.hid (HK3.out.trans hka (fun _ _ h => h))
          clear hv q0 q1 q2 q2' hx hk3 hka hm hg
          go_wp2_with fail
          refine (num_any 0 _).mono ?_
          rintro e w5 ⟨rfl, hw5⟩
          subst hw5
          go_wp2_with fail
          refine HS1.out.mono ?_
          rintro e w6 ⟨r, rfl, hr, hk6⟩
          obtain rfl : r = true := hr.2 rfl
          have q6 : w6.cell? ⟨g, o + 2, none⟩ = some (.slice xa xl xc) := (World.cell?_of_block (a := ⟨g, o + 2, none⟩) (hk6.block g HG4.out (fun h => h))).trans HQ4.out
          have HS2 := Lib.hid (sameparts_any _ _ _ _ _ _ _ _ _ (HX4.out.keep hk6 (fun _ _ _ h => h)) (HP4.out.keep hk6 (fun _ _ _ h => h)))
          have HK6 := Lib.hid (HK4.out.trans hk6 (fun _ _ h => h))
          clear hr hk6 c0 c1 c2 c3 c4 c5 lw3
          go_wp2_with fail
          refine (num_any 0 _).mono ?_
          rintro e w7 ⟨rfl, hw7⟩
          subst hw7
          go_wp2_with fail
          refine HS2.out.mono ?_
          rintro e w8 ⟨r, rfl, hr, hk8⟩
          obtain rfl : r = true := hr.2 rfl
          have HK8 := Lib.hid (HK6.out.trans hk8 (fun _ _ h => h))
          clear hr hk8
          go_wp2_with fail
          go_ret
          exact ⟨rfl, HK8.out.below0 (fun _ h => h.elim)⟩
        | false =>
          obtain ⟨S, hS⟩ : ∃ S, S = ((⟨#[36, 40, 40]⟩ : ByteArray) ++ a0 ++ ⟨#[41, 41]⟩) := ⟨_, rfl⟩
          obtain ⟨U, hU⟩ : ∃ U, U = S ++ ⟨#[59]⟩ := ⟨_, rfl⟩
          have hSl : S.data.toList = scrW true false a0.data.toList [] := by rw [hS]; simp only [ba_append]; simp [scrW, scr]
          have hUl : U.data.toList = scrW true false a0.data.toList [59] := by rw [hU, ba_append, hSl]; exact scrW_app _ _ _ _
          have hSz : S.size ≤ 210 := by rw [Lib.size_eq, hSl]; have h := scrW_len true false a0.data.toList []; have h2 := Lib.size_eq a0; simp at h; omega
          obtain ⟨hT2, hT1⟩ := HW.out true false (.inl rfl) S U hSl hUl
          have HT1 := Lib.hid hT1
          have HT2 := Lib.hid hT2
          have HS := Lib.hid hS
          have HU := Lib.hid hU
          have HW1 := Lib.hid (show RecAt (wr.alloc (.cells #[.int .i64 4, .string a0, .string ⟨#[]⟩, .string ⟨#[]⟩, .slice none 0 0, .bool false] 39)) wr.heap.size [.int .i64 4, .string a0, .string ⟨#[]⟩, .string ⟨#[]⟩, .slice none 0 0, .bool false] from ⟨_, heap_alloc_new wr _⟩)
          clear hT1 hT2 hS hU hSl hUl
          go_wp2_with fail
          rw [← HS.out]
          refine (HT2.out _).mono ?_
          rintro e w2 ⟨v, n, rfl, hp, hk2⟩
          obtain ⟨ya, yc, rfl, _, _⟩ := hp.shape
          have HP := Lib.hid hp
          have HK2 := Lib.hid ((HK.out.alloc _).trans hk2 (fun _ _ h => h))
          have HW2 := Lib.hid (HW1.out.keep hk2 (fun h => h))
          clear hp hk2
          go_wp2_with fail
          rw [← HU.out]
          refine (HT1.out _).mono ?_
          rintro e w3 ⟨v, n3, rfl, hv, hk3⟩
          obtain ⟨va, vc, rfl, _, _⟩ := hv.shape
          obtain ⟨g, o, xa, xl, xc, rfl, ⟨q0, q1, q2⟩, hx, hg⟩ := hv.at (Keeps.refl _ _) (i := 0) (Nat.succ_pos _)
          have q2' : w3.cell? ⟨g, o + 2, none⟩ = some (.slice xa xl xc) := q2
          have HQ2 := Lib.hid q2'
          have HW3 := Lib.hid (HW2.out.keep hk3 (fun h => h))
          have HK3 := Lib.hid (HK2.out.trans hk3 (fun _ _ h => h))
          obtain ⟨⟨c0, c1, c2, c3, c4, c5⟩, _⟩ := HW3.out.six
          have lw3 := HW3.out.lt
          obtain ⟨m, hm⟩ := one_reads w3 4 a0 false
          have hka : Keeps (fun _ => False) w3 (w3.alloc (.cells #[.int .i64 4, .string a0, .string ⟨#[]⟩, .string ⟨#[]⟩, .slice none 0 0, .bool false] 39)) := (Keeps.refl _ _).alloc _
          have HP4 := Lib.hid (HP.out.keep (hk3.trans hka (fun _ _ h => h)) (fun _ _ _ h => h))
          have HS1 := Lib.hid (sameparts_any _ _ _ _ _ _ _ _ _ HP4.out hm)
          have HX4 := Lib.hid (hx.keep hka (fun _ _ _ h => h))
          have HQ4 := Lib.hid ((World.cell?_of_block (a := ⟨g, o + 2, none⟩) (hka.block g hg (fun h => h))).trans q2')
          have HG4 := Lib.hid (Nat.lt_of_lt_of_le hg hka.size)
          have HK4 := Lib.hid (HK3.out.trans hka (fun _ _ h => h))
          clear hv q0 q1 q2 q2' hx hk3 hka hm hg
          go_wp2_with fail
          refine (num_any 0 _).mono ?_
          rintro e w5 ⟨rfl, hw5⟩
          subst hw5
          go_wp2_with fail
          refine HS1.out.mono ?_
          rintro e w6 ⟨r, rfl, hr, hk6⟩
          obtain rfl : r = true := hr.2 rfl
          have q6 : w6.cell? ⟨g, o + 2, none⟩ = some (.slice xa xl xc) := (World.cell?_of_block (a := ⟨g, o + 2, none⟩) (hk6.block g HG4.out (fun h => h))).trans HQ4.out
          have HS2 := Lib.hid (sameparts_any _ _ _ _ _ _ _ _ _ (HX4.out.keep hk6 (fun _ _ _ h => h)) (HP4.out.keep hk6 (fun _ _ _ h => h)))
          have HK6 := Lib.hid (HK4.out.trans hk6 (fun _ _ h => h))
          clear hr hk6 c0 c1 c2 c3 c4 c5 lw3
          go_wp2_with fail
          refine (num_any 0 _).mono ?_
          rintro e w7 ⟨rfl, hw7⟩
          subst hw7
          go_wp2_with fail
          refine HS2.out.mono ?_
          rintro e w8 ⟨r, rfl, hr, hk8⟩
          obtain rfl : r = true := hr.2 rfl
          have HK8 := Lib.hid (HK6.out.trans hk8 (fun _ _ h => h))
          clear hr hk8
          go_wp2_with fail
          go_ret
          exact ⟨rfl, HK8.out.below0 (fun _ h => h.elim)⟩
      | false =>
        rcases Nat.eq_zero_or_pos a0.size with hz | hz
        · have p5 : ¬ (0 : Int) < (a0.size : Int) := by omega
          have hh : headIs 40 a0.data.toList = false := by
            rw [List.eq_nil_of_length_eq_zero (show a0.data.toList.length = 0 by rw [← Lib.size_eq]; exact hz)]; rfl
          have HH := Lib.hid hh
          clear hh hz
          cases a2 with
          | true =>
            obtain ⟨S, hS⟩ : ∃ S, S = ((⟨#[34]⟩ : ByteArray) ++ ((⟨#[36, 40]⟩ : ByteArray) ++ a0 ++ ⟨#[41]⟩) ++ ⟨#[34]⟩) := ⟨_, rfl⟩
            obtain ⟨U, hU⟩ : ∃ U, U = S ++ ⟨#[59]⟩ := ⟨_, rfl⟩
            have hSl : S.data.toList = scrW false true a0.data.toList [] := by rw [hS]; simp only [ba_append]; simp [scrW, scr]
            have hUl : U.data.toList = scrW false true a0.data.toList [59] := by rw [hU, ba_append, hSl]; exact scrW_app _ _ _ _
            have hSz : S.size ≤ 210 := by rw [Lib.size_eq, hSl]; have h := scrW_len false true a0.data.toList []; have h2 := Lib.size_eq a0; simp at h; omega
            obtain ⟨hT2, hT1⟩ := HW.out false true (.inr HH.out) S U hSl hUl
            have HT1 := Lib.hid hT1
            have HT2 := Lib.hid hT2
            have HS := Lib.hid hS
            have HU := Lib.hid hU
            have HW1 := Lib.hid (show RecAt (wr.alloc (.cells #[.int .i64 5, .string a0, .string ⟨#[]⟩, .string ⟨#[]⟩, .slice none 0 0, .bool true] 39)) wr.heap.size [.int .i64 5, .string a0, .string ⟨#[]⟩, .string ⟨#[]⟩, .slice none 0 0, .bool true] from ⟨_, heap_alloc_new wr _⟩)
            clear hT1 hT2 hS hU hSl hUl
            go_wp2_with fail
            rw [← HS.out]
            refine (HT2.out _).mono ?_
            rintro e w2 ⟨v, n, rfl, hp, hk2⟩
            obtain ⟨ya, yc, rfl, _, _⟩ := hp.shape
            have HP := Lib.hid hp
            have HK2 := Lib.hid ((HK.out.alloc _).trans hk2 (fun _ _ h => h))
            have HW2 := Lib.hid (HW1.out.keep hk2 (fun h => h))
            clear hp hk2
            go_wp2_with fail
            rw [← HU.out]
            refine (HT1.out _).mono ?_
            rintro e w3 ⟨v, n3, rfl, hv, hk3⟩
            obtain ⟨va, vc, rfl, _, _⟩ := hv.shape
            obtain ⟨g, o, xa, xl, xc, rfl, ⟨q0, q1, q2⟩, hx, hg⟩ := hv.at (Keeps.refl _ _) (i := 0) (Nat.succ_pos _)
            have q2' : w3.cell? ⟨g, o + 2, none⟩ = some (.slice xa xl xc) := q2
            have HQ2 := Lib.hid q2'
            have HW3 := Lib.hid (HW2.out.keep hk3 (fun h => h))
            have HK3 := Lib.hid (HK2.out.trans hk3 (fun _ _ h => h))
            obtain ⟨⟨c0, c1, c2, c3, c4, c5⟩, _⟩ := HW3.out.six
            have lw3 := HW3.out.lt
            obtain ⟨m, hm⟩ := one_reads w3 5 a0 true
            have hka : Keeps (fun _ => False) w3 (w3.alloc (.cells #[.int .i64 5, .string a0, .string ⟨#[]⟩, .string ⟨#[]⟩, .slice none 0 0, .bool true] 39)) := (Keeps.refl _ _).alloc _
            have HP4 := Lib.hid (HP.out.keep (hk3.trans hka (fun _ _ h => h)) (fun _ _ _ h => h))
            have HS1 := Lib.hid (sameparts_any _ _ _ _ _ _ _ _ _ HP4.out hm)
            have HX4 := Lib.hid (hx.keep hka (fun _ _ _ h => h))
            have HQ4 := Lib.hid ((World.cell?_of_block (a := ⟨g, o + 2, none⟩) (hka.block g hg (fun h => h))).trans q2')
            have HG4 := Lib.hid (Nat.lt_of_lt_of_le hg hka.size)
            have HK4 := Lib.hid (HK3.out.trans hka (fun _ _ h => h))
            clear hv q0 q1 q2 q2' hx hk3 hka hm hg
            go_wp2_with fail
            refine (num_any 0 _).mono ?_
            rintro e w5 ⟨rfl, hw5⟩
            subst hw5
            go_wp2_with fail
            refine HS1.out.mono ?_
            rintro e w6 ⟨r, rfl, hr, hk6⟩
            obtain rfl : r = true := hr.2 rfl
            have q6 : w6.cell? ⟨g, o + 2, none⟩ = some (.slice xa xl xc) := (World.cell?_of_block (a := ⟨g, o + 2, none⟩) (hk6.block g HG4.out (fun h => h))).trans HQ4.out
            have HS2 := Lib.hid (sameparts_any _ _ _ _ _ _ _ _ _ (HX4.out.keep hk6 (fun _ _ _ h => h)) (HP4.out.keep hk6 (fun _ _ _ h => h)))
            have HK6 := Lib.hid (HK4.out.trans hk6 (fun _ _ h => h))
            clear hr hk6 c0 c1 c2 c3 c4 c5 lw3
            go_wp2_with fail
            refine (num_any 0 _).mono ?_
            rintro e w7 ⟨rfl, hw7⟩
            subst hw7
            go_wp2_with fail
            refine HS2.out.mono ?_
            rintro e w8 ⟨r, rfl, hr, hk8⟩
            obtain rfl : r = true := hr.2 rfl
            have HK8 := Lib.hid (HK6.out.trans hk8 (fun _ _ h => h))
            clear hr hk8
            go_wp2_with fail
            go_ret
            exact ⟨rfl, HK8.out.below0 (fun _ h => h.elim)⟩
          | false =>
            obtain ⟨S, hS⟩ : ∃ S, S = ((⟨#[36, 40]⟩ : ByteArray) ++ a0 ++ ⟨#[41]⟩) := ⟨_, rfl⟩
            obtain ⟨U, hU⟩ : ∃ U, U = S ++ ⟨#[59]⟩ := ⟨_, rfl⟩
            have hSl : S.data.toList = scrW false false a0.data.toList [] := by rw [hS]; simp only [ba_append]; simp [scrW, scr]
            have hUl : U.data.toList = scrW false false a0.data.toList [59] := by rw [hU, ba_append, hSl]; exact scrW_app _ _ _ _
            have hSz : S.size ≤ 210 := by rw [Lib.size_eq, hSl]; have h := scrW_len false false a0.data.toList []; have h2 := Lib.size_eq a0; simp at h; omega
            obtain ⟨hT2, hT1⟩ := HW.out false false (.inr HH.out) S U hSl hUl
            have HT1 := Lib.hid hT1
            have HT2 := Lib.hid hT2
            have HS := Lib.hid hS
            have HU := Lib.hid hU
            have HW1 := Lib.hid (show RecAt (wr.alloc (.cells #[.int .i64 5, .string a0, .string ⟨#[]⟩, .string ⟨#[]⟩, .slice none 0 0, .bool false] 39)) wr.heap.size [.int .i64 5, .string a0, .string ⟨#[]⟩, .string ⟨#[]⟩, .slice none 0 0, .bool false] from ⟨_, heap_alloc_new wr _⟩)
            clear hT1 hT2 hS hU hSl hUl
            go_wp2_with fail
            rw [← HS.out]
            refine (HT2.out _).mono ?_
            rintro e w2 ⟨v, n, rfl, hp, hk2⟩
            obtain ⟨ya, yc, rfl, _, _⟩ := hp.shape
            have HP := Lib.hid hp
            have HK2 := Lib.hid ((HK.out.alloc _).trans hk2 (fun _ _ h => h))
            have HW2 := Lib.hid (HW1.out.keep hk2 (fun h => h))
            clear hp hk2
            go_wp2_with fail
            rw [← HU.out]
            refine (HT1.out _).mono ?_
            rintro e w3 ⟨v, n3, rfl, hv, hk3⟩
            obtain ⟨va, vc, rfl, _, _⟩ := hv.shape
            obtain ⟨g, o, xa, xl, xc, rfl, ⟨q0, q1, q2⟩, hx, hg⟩ := hv.at (Keeps.refl _ _) (i := 0) (Nat.succ_pos _)
            have q2' : w3.cell? ⟨g, o + 2, none⟩ = some (.slice xa xl xc) := q2
            have HQ2 := Lib.hid q2'
            have HW3 := Lib.hid (HW2.out.keep hk3 (fun h => h))
            have HK3 := Lib.hid (HK2.out.trans hk3 (fun _ _ h => h))
            obtain ⟨⟨c0, c1, c2, c3, c4, c5⟩, _⟩ := HW3.out.six
            have lw3 := HW3.out.lt
            obtain ⟨m, hm⟩ := one_reads w3 5 a0 false
            have hka : Keeps (fun _ => False) w3 (w3.alloc (.cells #[.int .i64 5, .string a0, .string ⟨#[]⟩, .string ⟨#[]⟩, .slice none 0 0, .bool false] 39)) := (Keeps.refl _ _).alloc _
            have HP4 := Lib.hid (HP.out.keep (hk3.trans hka (fun _ _ h => h)) (fun _ _ _ h => h))
            have HS1 := Lib.hid (sameparts_any _ _ _ _ _ _ _ _ _ HP4.out hm)
            have HX4 := Lib.hid (hx.keep hka (fun _ _ _ h => h))
            have HQ4 := Lib.hid ((World.cell?_of_block (a := ⟨g, o + 2, none⟩) (hka.block g hg (fun h => h))).trans q2')
            have HG4 := Lib.hid (Nat.lt_of_lt_of_le hg hka.size)
            have HK4 := Lib.hid (HK3.out.trans hka (fun _ _ h => h))
            clear hv q0 q1 q2 q2' hx hk3 hka hm hg
            go_wp2_with fail
            refine (num_any 0 _).mono ?_
            rintro e w5 ⟨rfl, hw5⟩
            subst hw5
            go_wp2_with fail
            refine HS1.out.mono ?_
            rintro e w6 ⟨r, rfl, hr, hk6⟩
            obtain rfl : r = true := hr.2 rfl
            have q6 : w6.cell? ⟨g, o + 2, none⟩ = some (.slice xa xl xc) := (World.cell?_of_block (a := ⟨g, o + 2, none⟩) (hk6.block g HG4.out (fun h => h))).trans HQ4.out
            have HS2 := Lib.hid (sameparts_any _ _ _ _ _ _ _ _ _ (HX4.out.keep hk6 (fun _ _ _ h => h)) (HP4.out.keep hk6 (fun _ _ _ h => h)))
            have HK6 := Lib.hid (HK4.out.trans hk6 (fun _ _ h => h))
            clear hr hk6 c0 c1 c2 c3 c4 c5 lw3
            go_wp2_with fail
            refine (num_any 0 _).mono ?_
            rintro e w7 ⟨rfl, hw7⟩
            subst hw7
            go_wp2_with fail
            refine HS2.out.mono ?_
            rintro e w8 ⟨r, rfl, hr, hk8⟩
            obtain rfl : r = true := hr.2 rfl
            have HK8 := Lib.hid (HK6.out.trans hk8 (fun _ _ h => h))
            clear hr hk8
            go_wp2_with fail
            go_ret
            exact ⟨rfl, HK8.out.below0 (fun _ h => h.elim)⟩
        · have p5 : (0 : Int) < (a0.size : Int) := by omega
          have hb := byteAt_in hz
          obtain ⟨x, hx⟩ : ∃ x, x = byteAt a0 0 := ⟨_, rfl⟩
          rw [← hx] at hb
          have hhx : headIs 40 a0.data.toList = (x == 40) := by
            rw [hx]
            unfold byteAt
            cases a0.data.toList <;> rfl
          have HX := Lib.hid hx
          clear hx
          by_cases t40 : x = 40
          · have f40 : ((x.toNat : Int) == 40) = true := test_yes (c := x) (k := 40) t40
            clear t40 hhx
            go_wp2_with fail
            go_ret
            exact ⟨rfl, HK.out.below0 (fun _ h => h.elim)⟩
          · have f40 : ((x.toNat : Int) == 40) = false := test_no (c := x) (k := 40) t40
            have HH := Lib.hid (hhx.trans (beq_eq_false_iff_ne.2 t40))
            clear t40 hhx
            cases a2 with
            | true =>
              obtain ⟨S, hS⟩ : ∃ S, S = ((⟨#[34]⟩ : ByteArray) ++ ((⟨#[36, 40]⟩ : ByteArray) ++ a0 ++ ⟨#[41]⟩) ++ ⟨#[34]⟩) := ⟨_, rfl⟩
              obtain ⟨U, hU⟩ : ∃ U, U = S ++ ⟨#[59]⟩ := ⟨_, rfl⟩
              have hSl : S.data.toList = scrW false true a0.data.toList [] := by rw [hS]; simp only [ba_append]; simp [scrW, scr]
              have hUl : U.data.toList = scrW false true a0.data.toList [59] := by rw [hU, ba_append, hSl]; exact scrW_app _ _ _ _
              have hSz : S.size ≤ 210 := by rw [Lib.size_eq, hSl]; have h := scrW_len false true a0.data.toList []; have h2 := Lib.size_eq a0; simp at h; omega
              obtain ⟨hT2, hT1⟩ := HW.out false true (.inr HH.out) S U hSl hUl
              have HT1 := Lib.hid hT1
              have HT2 := Lib.hid hT2
              have HS := Lib.hid hS
              have HU := Lib.hid hU
              have HW1 := Lib.hid (show RecAt (wr.alloc (.cells #[.int .i64 5, .string a0, .string ⟨#[]⟩, .string ⟨#[]⟩, .slice none 0 0, .bool true] 39)) wr.heap.size [.int .i64 5, .string a0, .string ⟨#[]⟩, .string ⟨#[]⟩, .slice none 0 0, .bool true] from ⟨_, heap_alloc_new wr _⟩)
              clear hT1 hT2 hS hU hSl hUl
              go_wp2_with fail
              rw [← HS.out]
              refine (HT2.out _).mono ?_
              rintro e w2 ⟨v, n, rfl, hp, hk2⟩
              obtain ⟨ya, yc, rfl, _, _⟩ := hp.shape
              have HP := Lib.hid hp
              have HK2 := Lib.hid ((HK.out.alloc _).trans hk2 (fun _ _ h => h))
              have HW2 := Lib.hid (HW1.out.keep hk2 (fun h => h))
              clear hp hk2
              go_wp2_with fail
              rw [← HU.out]
              refine (HT1.out _).mono ?_
              rintro e w3 ⟨v, n3, rfl, hv, hk3⟩
              obtain ⟨va, vc, rfl, _, _⟩ := hv.shape
              obtain ⟨g, o, xa, xl, xc, rfl, ⟨q0, q1, q2⟩, hx, hg⟩ := hv.at (Keeps.refl _ _) (i := 0) (Nat.succ_pos _)
              have q2' : w3.cell? ⟨g, o + 2, none⟩ = some (.slice xa xl xc) := q2
              have HQ2 := Lib.hid q2'
              have HW3 := Lib.hid (HW2.out.keep hk3 (fun h => h))
              have HK3 := Lib.hid (HK2.out.trans hk3 (fun _ _ h => h))
              obtain ⟨⟨c0, c1, c2, c3, c4, c5⟩, _⟩ := HW3.out.six
              have lw3 := HW3.out.lt
              obtain ⟨m, hm⟩ := one_reads w3 5 a0 true
              have hka : Keeps (fun _ => False) w3 (w3.alloc (.cells #[.int .i64 5, .string a0, .string ⟨#[]⟩, .string ⟨#[]⟩, .slice none 0 0, .bool true] 39)) := (Keeps.refl _ _).alloc _
              have HP4 := Lib.hid (HP.out.keep (hk3.trans hka (fun _ _ h => h)) (fun _ _ _ h => h))
              have HS1 := Lib.hid (sameparts_any _ _ _ _ _ _ _ _ _ HP4.out hm)
              have HX4 := Lib.hid (hx.keep hka (fun _ _ _ h => h))
              have HQ4 := Lib.hid ((World.cell?_of_block (a := ⟨g, o + 2, none⟩) (hka.block g hg (fun h => h))).trans q2')
              have HG4 := Lib.hid (Nat.lt_of_lt_of_le hg hka.size)
              have HK4 := Lib.hid (HK3.out.trans hka (fun _ _ h => h))
              clear hv q0 q1 q2 q2' hx hk3 hka hm hg
              go_wp2_with fail
              refine (num_any 0 _).mono ?_
              rintro e w5 ⟨rfl, hw5⟩
              subst hw5
              go_wp2_with fail
              refine HS1.out.mono ?_
              rintro e w6 ⟨r, rfl, hr, hk6⟩
              obtain rfl : r = true := hr.2 rfl
              have q6 : w6.cell? ⟨g, o + 2, none⟩ = some (.slice xa xl xc) := (World.cell?_of_block (a := ⟨g, o + 2, none⟩) (hk6.block g HG4.out (fun h => h))).trans HQ4.out
              have HS2 := Lib.hid (sameparts_any _ _ _ _ _ _ _ _ _ (HX4.out.keep hk6 (fun _ _ _ h => h)) (HP4.out.keep hk6 (fun _ _ _ h => h)))
              have HK6 := Lib.hid (HK4.out.trans hk6 (fun _ _ h => h))
              clear hr hk6 c0 c1 c2 c3 c4 c5 lw3
              go_wp2_with fail
              refine (num_any 0 _).mono ?_
              rintro e w7 ⟨rfl, hw7⟩
              subst hw7
              go_wp2_with fail
              refine HS2.out.mono ?_
              rintro e w8 ⟨r, rfl, hr, hk8⟩
              obtain rfl : r = true := hr.2 rfl
              have HK8 := Lib.hid (HK6.out.trans hk8 (fun _ _ h => h))
              clear hr hk8
              go_wp2_with fail
              go_ret
              exact ⟨rfl, HK8.out.below0 (fun _ h => h.elim)⟩
            | false =>
              obtain ⟨S, hS⟩ : ∃ S, S = ((⟨#[36, 40]⟩ : ByteArray) ++ a0 ++ ⟨#[41]⟩) := ⟨_, rfl⟩
              obtain ⟨U, hU⟩ : ∃ U, U = S ++ ⟨#[59]⟩ := ⟨_, rfl⟩
              have hSl : S.data.toList = scrW false false a0.data.toList [] := by rw [hS]; simp only [ba_append]; simp [scrW, scr]
              have hUl : U.data.toList = scrW false false a0.data.toList [59] := by rw [hU, ba_append, hSl]; exact scrW_app _ _ _ _
              have hSz : S.size ≤ 210 := by rw [Lib.size_eq, hSl]; have h := scrW_len false false a0.data.toList []; have h2 := Lib.size_eq a0; simp at h; omega
              obtain ⟨hT2, hT1⟩ := HW.out false false (.inr HH.out) S U hSl hUl
              have HT1 := Lib.hid hT1
              have HT2 := Lib.hid hT2
              have HS := Lib.hid hS
              have HU := Lib.hid hU
              have HW1 := Lib.hid (show RecAt (wr.alloc (.cells #[.int .i64 5, .string a0, .string ⟨#[]⟩, .string ⟨#[]⟩, .slice none 0 0, .bool false] 39)) wr.heap.size [.int .i64 5, .string a0, .string ⟨#[]⟩, .string ⟨#[]⟩, .slice none 0 0, .bool false] from ⟨_, heap_alloc_new wr _⟩)
              clear hT1 hT2 hS hU hSl hUl
              go_wp2_with fail
              rw [← HS.out]
              refine (HT2.out _).mono ?_
              rintro e w2 ⟨v, n, rfl, hp, hk2⟩
              obtain ⟨ya, yc, rfl, _, _⟩ := hp.shape
              have HP := Lib.hid hp
              have HK2 := Lib.hid ((HK.out.alloc _).trans hk2 (fun _ _ h => h))
              have HW2 := Lib.hid (HW1.out.keep hk2 (fun h => h))
              clear hp hk2
              go_wp2_with fail
              rw [← HU.out]
              refine (HT1.out _).mono ?_
              rintro e w3 ⟨v, n3, rfl, hv, hk3⟩
              obtain ⟨va, vc, rfl, _, _⟩ := hv.shape
              obtain ⟨g, o, xa, xl, xc, rfl, ⟨q0, q1, q2⟩, hx, hg⟩ := hv.at (Keeps.refl _ _) (i := 0) (Nat.succ_pos _)
              have q2' : w3.cell? ⟨g, o + 2, none⟩ = some (.slice xa xl xc) := q2
              have HQ2 := Lib.hid q2'
              have HW3 := Lib.hid (HW2.out.keep hk3 (fun h => h))
              have HK3 := Lib.hid (HK2.out.trans hk3 (fun _ _ h => h))
              obtain ⟨⟨c0, c1, c2, c3, c4, c5⟩, _⟩ := HW3.out.six
              have lw3 := HW3.out.lt
              obtain ⟨m, hm⟩ := one_reads w3 5 a0 false
              have hka : Keeps (fun _ => False) w3 (w3.alloc (.cells #[.int .i64 5, .string a0, .string ⟨#[]⟩, .string ⟨#[]⟩, .slice none 0 0, .bool false] 39)) := (Keeps.refl _ _).alloc _
              have HP4 := Lib.hid (HP.out.keep (hk3.trans hka (fun _ _ h => h)) (fun _ _ _ h => h))
              have HS1 := Lib.hid (sameparts_any _ _ _ _ _ _ _ _ _ HP4.out hm)
              have HX4 := Lib.hid (hx.keep hka (fun _ _ _ h => h))
              have HQ4 := Lib.hid ((World.cell?_of_block (a := ⟨g, o + 2, none⟩) (hka.block g hg (fun h => h))).trans q2')
              have HG4 := Lib.hid (Nat.lt_of_lt_of_le hg hka.size)
              have HK4 := Lib.hid (HK3.out.trans hka (fun _ _ h => h))
              clear hv q0 q1 q2 q2' hx hk3 hka hm hg
              go_wp2_with fail
              refine (num_any 0 _).mono ?_
              rintro e w5 ⟨rfl, hw5⟩
              subst hw5
              go_wp2_with fail
              refine HS1.out.mono ?_
              rintro e w6 ⟨r, rfl, hr, hk6⟩
              obtain rfl : r = true := hr.2 rfl
              have q6 : w6.cell? ⟨g, o + 2, none⟩ = some (.slice xa xl xc) := (World.cell?_of_block (a := ⟨g, o + 2, none⟩) (hk6.block g HG4.out (fun h => h))).trans HQ4.out
              have HS2 := Lib.hid (sameparts_any _ _ _ _ _ _ _ _ _ (HX4.out.keep hk6 (fun _ _ _ h => h)) (HP4.out.keep hk6 (fun _ _ _ h => h)))
              have HK6 := Lib.hid (HK4.out.trans hk6 (fun _ _ h => h))
              clear hr hk6 c0 c1 c2 c3 c4 c5 lw3
              go_wp2_with fail
              refine (num_any 0 _).mono ?_
              rintro e w7 ⟨rfl, hw7⟩
              subst hw7
              go_wp2_with fail
              refine HS2.out.mono ?_
              rintro e w8 ⟨r, rfl, hr, hk8⟩
              obtain rfl : r = true := hr.2 rfl
              have HK8 := Lib.hid (HK6.out.trans hk8 (fun _ _ h => h))
              clear hr hk8
              go_wp2_with fail
              go_ret
              exact ⟨rfl, HK8.out.below0 (fun _ h => h.elim)⟩
end Go.Proofs.Ytnndnldpbdhkgaa
