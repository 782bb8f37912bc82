/-
  Texts one behind the other come to what each comes to, if the first one is whole: the walk.
-/
import Derived.Test.YtglppnpllpfaeaaMacPD
import Derived.Test.YtglppnpllpfaeaaMacZ
import Derived.Test.YtglppnpllpfaeaaMacPlain
namespace Go.Proofs.Ytglppnpllpfaeaa
open Go.RowKit
set_option linter.unusedVariables false

/-- What is told of the two together. -/
def PartsF (res : Except Nat Bs) (x y : Bs) : Prop := res = .error 3 ∨ res = .ok (x ++ y)
set_option maxRecDepth 100000 in
set_option maxHeartbeats 8000000 in
theorem macroParts_early (a0 a1 : ByteArray) (a2 a3 : Option Addr) (n2 c2 n3 c3 : Nat) (z2 z3 : List (Bs × Bs)) (w : World) (h0 : a0.size ≤ 140737488351232) (h1 : a1.size ≤ 140737488351232) (h2 : IsPairs w a2 n2 c2 z2) (h3 : IsPairs w a3 n3 c3 z3) (hsh : w.ShapedOpen Try.prog)
    (hc : bigF z2 = true ∨ bigF z3 = true ∨ 300 < a0.size ∨ 300 < a1.size) :
    Calls Try.prog 4 #[.string a0, .string a1, .slice a2 n2 c2, .slice a3 n3 c3] w fun e w' => e = .returned (.bool true) ∧ Below w.heap.size w w' := by
  have gl := gl_of hsh
  obtain ⟨b2, hb2⟩ : ∃ b, b = bigF z2 := ⟨_, rfl⟩
  obtain ⟨b3, hb3⟩ : ∃ b, b = bigF z3 := ⟨_, rfl⟩
  rw [← hb2, ← hb3] at hc
  have HB2 := Lib.hid hb2
  have HB3 := Lib.hid hb3
  have HP2 := Lib.hid h2
  have HP3 := Lib.hid h3
  clear hb2 hb3 h2 h3
  cases b2 with
  | true =>
    clear hc
    go_enter Try.func4, Try.ntmps4
    go_wp2_with fail
    refine (alive_any w gl).mono ?_
    rintro e w1 ⟨rfl, hk⟩
    have HK1 := Lib.hid hk
    clear hk
    go_wp2_with fail
    refine (big_any a2 n2 c2 z2 w1 ⟨HP2.out.1.keep HK1.out (fun _ _ _ h => h), HP2.out.2⟩).mono ?_
    rintro e w2 ⟨rfl, hw2⟩
    rw [hw2, ← HB2.out]
    clear hw2
    go_wp2_with fail
    go_ret
    exact ⟨rfl, HK1.out.below0 (fun _ h => h.elim)⟩
  | false =>
    cases b3 with
    | true =>
      clear hc
      go_enter Try.func4, Try.ntmps4
      go_wp2_with fail
      refine (alive_any w gl).mono ?_
      rintro e w1 ⟨rfl, hk⟩
      have HK1 := Lib.hid hk
      clear hk
      go_wp2_with fail
      refine (big_any a2 n2 c2 z2 w1 ⟨HP2.out.1.keep HK1.out (fun _ _ _ h => h), HP2.out.2⟩).mono ?_
      rintro e w2 ⟨rfl, hw2⟩
      rw [hw2, ← HB2.out]
      clear hw2
      go_wp2_with fail
      refine (big_any a3 n3 c3 z3 w1 ⟨HP3.out.1.keep HK1.out (fun _ _ _ h => h), HP3.out.2⟩).mono ?_
      rintro e w2 ⟨rfl, hw2⟩
      rw [hw2, ← HB3.out]
      clear hw2
      go_wp2_with fail
      go_ret
      exact ⟨rfl, HK1.out.below0 (fun _ h => h.elim)⟩
    | false =>
      have hc' : 300 < a0.size ∨ 300 < a1.size := by simpa using hc
      clear hc
      by_cases hl : 300 < a0.size
      · have q1 : (300 : Int) < (a0.size : Int) := by omega
        clear hl hc'
        go_enter Try.func4, Try.ntmps4
        go_wp2_with fail
        refine (alive_any w gl).mono ?_
        rintro e w1 ⟨rfl, hk⟩
        have HK1 := Lib.hid hk
        clear hk
        go_wp2_with fail
        refine (big_any a2 n2 c2 z2 w1 ⟨HP2.out.1.keep HK1.out (fun _ _ _ h => h), HP2.out.2⟩).mono ?_
        rintro e w2 ⟨rfl, hw2⟩
        rw [hw2, ← HB2.out]
        clear hw2
        go_wp2_with fail
        refine (big_any a3 n3 c3 z3 w1 ⟨HP3.out.1.keep HK1.out (fun _ _ _ h => h), HP3.out.2⟩).mono ?_
        rintro e w2 ⟨rfl, hw2⟩
        rw [hw2, ← HB3.out]
        clear hw2
        go_wp2_with fail
        go_ret
        exact ⟨rfl, HK1.out.below0 (fun _ h => h.elim)⟩
      · have q1 : ¬ (300 : Int) < (a0.size : Int) := by omega
        have q2 : (300 : Int) < (a1.size : Int) := by omega
        clear hl hc'
        go_enter Try.func4, Try.ntmps4
        go_wp2_with fail
        refine (alive_any w gl).mono ?_
        rintro e w1 ⟨rfl, hk⟩
        have HK1 := Lib.hid hk
        clear hk
        go_wp2_with fail
        refine (big_any a2 n2 c2 z2 w1 ⟨HP2.out.1.keep HK1.out (fun _ _ _ h => h), HP2.out.2⟩).mono ?_
        rintro e w2 ⟨rfl, hw2⟩
        rw [hw2, ← HB2.out]
        clear hw2
        go_wp2_with fail
        refine (big_any a3 n3 c3 z3 w1 ⟨HP3.out.1.keep HK1.out (fun _ _ _ h => h), HP3.out.2⟩).mono ?_
        rintro e w2 ⟨rfl, hw2⟩
        rw [hw2, ← HB3.out]
        clear hw2
        go_wp2_with fail
        go_ret
        exact ⟨rfl, HK1.out.below0 (fun _ h => h.elim)⟩
set_option maxRecDepth 100000 in
set_option maxHeartbeats 16000000 in
theorem macroParts_walk (a0 a1 : ByteArray) (a2 : Option Addr) (n2 c2 : Nat) (z2 : List (Bs × Bs)) (a3 : Option Addr) (n3 c3 : Nat) (z3 : List (Bs × Bs)) (w : World) (h0 : a0.size ≤ 140737488351232) (h1 : a1.size ≤ 140737488351232) (h2 : IsPairs w a2 n2 c2 z2) (h3 : IsPairs w a3 n3 c3 z3) (hsh : w.ShapedOpen Try.prog) :
    Calls Try.prog 4 #[.string a0, .string a1, .slice a2 n2 c2, .slice a3 n3 c3] w fun e w' => e = .returned (.bool true) ∧ Below w.heap.size w w' := by
  by_cases hc : bigF z2 = true ∨ bigF z3 = true ∨ 300 < a0.size ∨ 300 < a1.size
  · exact macroParts_early a0 a1 a2 a3 n2 c2 n3 c3 z2 z3 w h0 h1 h2 h3 hsh hc
  have hb2 : false = bigF z2 := by cases h : bigF z2 with
    | true => exact absurd (Or.inl h) hc
    | false => rfl
  have hb3 : false = bigF z3 := by cases h : bigF z3 with
    | true => exact absurd (Or.inr (Or.inl h)) hc
    | false => rfl
  have l0 : a0.size ≤ 300 := by omega
  have l1 : a1.size ≤ 300 := by omega
  have gl := gl_of hsh
  have HSM := Lib.hid (show Small z2 ∧ Small z3 from ⟨(bigF_no hb2.symm).1, (bigF_no hb3.symm).1⟩)
  have HB2 := Lib.hid hb2
  have HB3 := Lib.hid hb3
  have HP2 := Lib.hid h2
  have HP3 := Lib.hid h3
  have q1 : ¬ (300 : Int) < (a0.size : Int) := by omega
  have q2 : ¬ (300 : Int) < (a1.size : Int) := by omega
  clear hb2 hb3 h2 h3 hc
  go_enter Try.func4, Try.ntmps4
  go_wp2_with fail
  refine (alive_any w gl).mono ?_
  rintro e w1 ⟨rfl, hk⟩
  have HK1 := Lib.hid hk
  clear hk
  go_wp2_with fail
  refine (big_any a2 n2 c2 z2 w1 ⟨HP2.out.1.keep HK1.out (fun _ _ _ h => h), HP2.out.2⟩).mono ?_
  rintro e w2 ⟨rfl, hw2⟩
  rw [hw2, ← HB2.out]
  clear hw2
  go_wp2_with fail
  refine (big_any a3 n3 c3 z3 w1 ⟨HP3.out.1.keep HK1.out (fun _ _ _ h => h), HP3.out.2⟩).mono ?_
  rintro e w2 ⟨rfl, hw2⟩
  rw [hw2, ← HB3.out]
  clear hw2
  go_wp2_with fail
  refine (refExpandTop_any a0 (.slice a2 n2 c2) (.slice a3 n3 c3) z2 z3 w1 h0 (HP2.out.1.keep HK1.out (fun _ _ _ h => h)) (HP3.out.1.keep HK1.out (fun _ _ _ h => h)) HSM.out).mono ?_
  rintro e w3 ⟨X, x, rfl, hk3, hx, sx⟩
  have HK3 := Lib.hid (HK1.out.trans hk3 (fun _ _ h => h))
  have HX := Lib.hid hx
  clear hk3 hx
  go_wp2_with fail
  refine (refExpandTop_any a1 (.slice a2 n2 c2) (.slice a3 n3 c3) z2 z3 w3 h1 (HP2.out.1.keep HK3.out (fun _ _ _ h => h)) (HP3.out.1.keep HK3.out (fun _ _ _ h => h)) HSM.out).mono ?_
  rintro e w4 ⟨Y, y, rfl, hk4, hy, sy⟩
  have HK4 := Lib.hid (HK3.out.trans hk4 (fun _ _ h => h))
  have HY := Lib.hid hy
  clear hk4 hy
  go_wp2_with fail
  go_loopw [15] (fun n' wr => ∃ n : Nat, n' = .int .i64 n ∧ n ≤ a0.size ∧ Hid (∀ j (h : j < a0.data.toList.length), a0.data.toList.length - n ≤ j → a0.data.toList[j] = 36) ∧ w4 = wr) (fun n' _ => a0.size - (intOf n').toNat)
  case atStart => exact ⟨0, rfl, Nat.zero_le _, Lib.hid (fun j h h' => by omega), rfl⟩
  case round =>
    obtain ⟨n, rfl, hn, HN, hw⟩ := hrel
    subst hw
    have fin : parF true a0.data.toList = true → ∀ w5, w5 = w4 → True := fun _ _ _ => trivial
    clear fin
    rcases Nat.lt_or_ge n a0.size with hlt | hge
    · have p1 : (n : Int) < (a0.size : Int) := by omega
      obtain ⟨k, hk⟩ : ∃ k, k = a0.size - 1 - n := ⟨_, rfl⟩
      have hks : k < a0.size := by omega
      have ew1 : IntKind.i64.wrap ((a0.size : Int) - 1) = (a0.size : Int) - 1 := IntWalk.i64_in _ (by omega)
      have ew2 : IntKind.i64.wrap ((a0.size : Int) - 1 - (n : Int)) = (k : Int) := by
        rw [IntWalk.i64_in _ (by omega)]; omega
      have ewn : IntKind.i64.wrap ((n : Int) + 1) = (n : Int) + 1 := IntWalk.i64_in _ (by omega)
      have hb := byteAt_in hks
      have hiL : k < a0.data.toList.length := by rw [← Lib.size_eq]; exact hks
      obtain ⟨c, hc⟩ : ∃ c, c = byteAt a0 k := ⟨_, rfl⟩
      rw [← hc] at hb
      have HC := Lib.hid (show a0.data.toList[k] = c by
        rw [hc]
        unfold byteAt
        rw [List.getD_eq_getElem?_getD, List.getElem?_eq_getElem hiL]; rfl)
      have HKK := Lib.hid hk
      clear hc hk
      by_cases t36 : c = 36
      · have f36 : ((c.toNat : Int) == 36) = true := test_yes (c := c) (k := 36) t36
        have HNN := Lib.hid (show ∀ j (h : j < a0.data.toList.length), a0.data.toList.length - (n + 1) ≤ j → a0.data.toList[j] = 36 from fun j h h' => by
          by_cases hj : a0.data.toList.length - n ≤ j
          · exact HN.out j h hj
          · have hs := Lib.size_eq a0
            have hK := HKK.out
            obtain rfl : j = k := by omega
            exact HC.out.trans t36)
        clear t36
        go_wp2_with fail
        go_roundw
        case rel => exact ⟨n + 1, by go_num, by omega, HNN, by first | rfl | trivial⟩
        case measure => simp [intOf]; omega
      · have f36 : ((c.toNat : Int) == 36) = false := test_no (c := c) (k := 36) t36
        have HPAR := Lib.hid (show ¬ n % 2 = 1 → parF true a0.data.toList = true from fun h2 => par_tail (n := n) (by rw [← Lib.size_eq]; omega) HN.out (fun _ => by
          rw [← Lib.size_eq, ← HKK.out, List.getD_eq_getElem?_getD, List.getElem?_eq_getElem hiL, Option.getD_some, HC.out]
          exact t36) h2)
        clear t36
        by_cases hx0 : x = 0
        · subst hx0
          by_cases hy0 : y = 0
          · subst hy0
            by_cases h2 : n % 2 = 1
            · have em : (n : Int).tmod 2 = 1 := by
                rw [show (n : Int).tmod 2 = ((n % 2 : Nat) : Int) from rfl, h2]; rfl
              clear h2
              go_wp2_with fail
              go_ret
              exact ⟨rfl, HK4.out.below0 (fun _ h => h.elim)⟩
            · have em : (n : Int).tmod 2 = 0 := by
                rw [show (n : Int).tmod 2 = ((n % 2 : Nat) : Int) from rfl, show n % 2 = 0 by omega]; rfl
              have HQ := Lib.hid (HPAR.out h2)
              have ewl : IntKind.i64.wrap ((X.size : Int) + (Y.size : Int)) = (X.size : Int) + (Y.size : Int) := IntWalk.i64_in _ (by omega)
              clear h2
              by_cases hl : (16384 : Int) < (X.size : Int) + (Y.size : Int)
              · go_wp2_with fail
                go_ret
                exact ⟨rfl, HK4.out.below0 (fun _ h => h.elim)⟩
              · have hsz : (a0 ++ a1).size ≤ 140737488351232 := by simp; omega
                have hp := parts_law (l := z2) (auto := z3) (by rw [← Lib.size_eq]; exact l0) (by rw [← Lib.size_eq]; exact l1) (HX.out rfl) (HY.out rfl) HQ.out
                have hcall := expand_any (a0 ++ a1) (.slice a2 n2 c2) (.slice a3 n3 c3) z2 z3 w4 hsz (HP2.out.1.keep HK4.out (fun _ _ _ h => h)) (HP3.out.1.keep HK4.out (fun _ _ _ h => h)) HSM.out (gl.keep HK4.out)
                rw [ba_append] at hcall
                rcases hp with hp | hp
                · rw [hp] at hcall
                  have HCALL := Lib.hid hcall
                  clear hcall hp hsz
                  go_wp2_with fail
                  refine HCALL.out.mono ?_
                  rintro e w5 ⟨rfl, hk5⟩
                  have HK5 := Lib.hid (HK4.out.trans hk5 (fun _ _ h => h))
                  clear hk5
                  go_wp2_with fail
                  refine (num_any _ _).mono ?_
                  rintro e w6 ⟨rfl, hwn⟩
                  rw [hwn]
                  clear hwn
                  go_wp2_with fail
                  go_ret
                  exact ⟨rfl, HK5.out.below0 (fun _ h => h.elim)⟩
                · rw [hp] at hcall
                  have HCALL := Lib.hid hcall
                  have hbq : ((X ++ Y).toList == (X ++ Y).toList) = true := beq_self_eq_true _
                  clear hcall hp hsz
                  go_wp2_with fail
                  refine HCALL.out.mono ?_
                  rintro e w5 ⟨rfl, hk5⟩
                  have HK5 := Lib.hid (HK4.out.trans hk5 (fun _ _ h => h))
                  rw [strV_of (s := X ++ Y) (ba_append _ _)]
                  clear hk5
                  go_wp2_with fail
                  refine (num_any _ _).mono ?_
                  rintro e w6 ⟨rfl, hwn⟩
                  rw [hwn]
                  clear hwn
                  go_wp2_with fail
                  refine (num_any _ _).mono ?_
                  rintro e w7 ⟨rfl, hwn⟩
                  rw [hwn]
                  clear hwn
                  go_wp2_with fail
                  go_ret
                  exact ⟨rfl, HK5.out.below0 (fun _ h => h.elim)⟩
          · have ey : ¬ y = 0 := hy0
            clear hy0
            go_wp2_with fail
            go_ret
            exact ⟨rfl, HK4.out.below0 (fun _ h => h.elim)⟩
        · have ex : ¬ x = 0 := hx0
          clear hx0
          go_wp2_with fail
          go_ret
          exact ⟨rfl, HK4.out.below0 (fun _ h => h.elim)⟩
    · have p1 : ¬ (n : Int) < (a0.size : Int) := by omega
      have HPAR := Lib.hid (show ¬ n % 2 = 1 → parF true a0.data.toList = true from fun h2 => par_tail (n := n) (by rw [← Lib.size_eq]; omega) HN.out (fun h => by rw [← Lib.size_eq] at h; omega) h2)
      by_cases hx0 : x = 0
      · subst hx0
        by_cases hy0 : y = 0
        · subst hy0
          by_cases h2 : n % 2 = 1
          · have em : (n : Int).tmod 2 = 1 := by
              rw [show (n : Int).tmod 2 = ((n % 2 : Nat) : Int) from rfl, h2]; rfl
            clear h2
            go_wp2_with fail
            go_ret
            exact ⟨rfl, HK4.out.below0 (fun _ h => h.elim)⟩
          · have em : (n : Int).tmod 2 = 0 := by
              rw [show (n : Int).tmod 2 = ((n % 2 : Nat) : Int) from rfl, show n % 2 = 0 by omega]; rfl
            have HQ := Lib.hid (HPAR.out h2)
            have ewl : IntKind.i64.wrap ((X.size : Int) + (Y.size : Int)) = (X.size : Int) + (Y.size : Int) := IntWalk.i64_in _ (by omega)
            clear h2
            by_cases hl : (16384 : Int) < (X.size : Int) + (Y.size : Int)
            · go_wp2_with fail
              go_ret
              exact ⟨rfl, HK4.out.below0 (fun _ h => h.elim)⟩
            · have hsz : (a0 ++ a1).size ≤ 140737488351232 := by simp; omega
              have hp := parts_law (l := z2) (auto := z3) (by rw [← Lib.size_eq]; exact l0) (by rw [← Lib.size_eq]; exact l1) (HX.out rfl) (HY.out rfl) HQ.out
              have hcall := expand_any (a0 ++ a1) (.slice a2 n2 c2) (.slice a3 n3 c3) z2 z3 w4 hsz (HP2.out.1.keep HK4.out (fun _ _ _ h => h)) (HP3.out.1.keep HK4.out (fun _ _ _ h => h)) HSM.out (gl.keep HK4.out)
              rw [ba_append] at hcall
              rcases hp with hp | hp
              · rw [hp] at hcall
                have HCALL := Lib.hid hcall
                clear hcall hp hsz
                go_wp2_with fail
                refine HCALL.out.mono ?_
                rintro e w5 ⟨rfl, hk5⟩
                have HK5 := Lib.hid (HK4.out.trans hk5 (fun _ _ h => h))
                clear hk5
                go_wp2_with fail
                refine (num_any _ _).mono ?_
                rintro e w6 ⟨rfl, hwn⟩
                rw [hwn]
                clear hwn
                go_wp2_with fail
                go_ret
                exact ⟨rfl, HK5.out.below0 (fun _ h => h.elim)⟩
              · rw [hp] at hcall
                have HCALL := Lib.hid hcall
                have hbq : ((X ++ Y).toList == (X ++ Y).toList) = true := beq_self_eq_true _
                clear hcall hp hsz
                go_wp2_with fail
                refine HCALL.out.mono ?_
                rintro e w5 ⟨rfl, hk5⟩
                have HK5 := Lib.hid (HK4.out.trans hk5 (fun _ _ h => h))
                rw [strV_of (s := X ++ Y) (ba_append _ _)]
                clear hk5
                go_wp2_with fail
                refine (num_any _ _).mono ?_
                rintro e w6 ⟨rfl, hwn⟩
                rw [hwn]
                clear hwn
                go_wp2_with fail
                refine (num_any _ _).mono ?_
                rintro e w7 ⟨rfl, hwn⟩
                rw [hwn]
                clear hwn
                go_wp2_with fail
                go_ret
                exact ⟨rfl, HK5.out.below0 (fun _ h => h.elim)⟩
        · have ey : ¬ y = 0 := hy0
          clear hy0
          go_wp2_with fail
          go_ret
          exact ⟨rfl, HK4.out.below0 (fun _ h => h.elim)⟩
      · have ex : ¬ x = 0 := hx0
        clear hx0
        go_wp2_with fail
        go_ret
        exact ⟨rfl, HK4.out.below0 (fun _ h => h.elim)⟩
end Go.Proofs.Ytglppnpllpfaeaa
