/-
  LexTokens' walk.
-/
import Derived.Test.YtnndnldpbdhkgaaLexR6
import Derived.Test.YtnndnldpbdhkgaaLexBC
namespace Go.Proofs.Ytnndnldpbdhkgaa
open Go.RowKit
set_option linter.unusedVariables false

theorem nil_tks {w : World} {D : Nat → Prop} : TksAt w D 0 [] (.slice none 0 0) :=
  ⟨none, 0, rfl, Nat.le_refl _, Nat.zero_le _, fun i hi => absurd hi (Nat.not_lt_zero _)⟩
set_option maxRecDepth 100000 in
set_option maxHeartbeats 8000000 in
theorem lexTokens_walk (a0 : ByteArray) (w : World) (h0 : a0.size ≤ 140737488351232) (hsh : w.ShapedOpen Try.prog) :
    Calls Try.prog 3 #[.string a0] w fun e w' => e = .returned (.bool true) ∧ Below w.heap.size w w' := by
  rcases Nat.lt_or_ge 1000 a0.size with h1 | h1
  · have p1 : (1000 : Int) < (a0.size : Int) := by omega
    rcases Nat.lt_or_ge 16384 a0.size with h2 | h2
    · have p2 : ¬ (a0.size : Int) ≤ 16384 := by omega
      rcases Nat.lt_or_ge 16393 a0.size with h3 | h3
      · have p3 : (16393 : Int) < (a0.size : Int) := by omega
        clear h1 h2 h3
        go_enter Try.func3, Try.ntmps3
        go_wp2_with fail
        refine (alive_any w).mono ?_
        rintro e w1 ⟨rfl, hk⟩
        have HK1 := Lib.hid hk
        clear hk
        go_wp2_with fail
        go_ret
        exact ⟨rfl, HK1.out.below0 (fun _ h => h.elim)⟩
      · have p3 : ¬ (16393 : Int) < (a0.size : Int) := by omega
        clear h1 h2 h3
        go_enter Try.func3, Try.ntmps3
        go_wp2_with fail
        refine (alive_any w).mono ?_
        rintro e w1 ⟨rfl, hk⟩
        have HK1 := Lib.hid hk
        clear hk
        obtain ⟨res, hres⟩ : ∃ res, res = tokensF a0.data.toList := ⟨_, rfl⟩
        have ht := tokens_any a0 w1 h0
        have hr := fun w => rtoks_any a0 w h0
        rw [← hres] at ht hr
        have HT := Lib.hid ht
        have HRF := Lib.hid hr
        clear hres ht hr
        go_wp2_with fail
        refine HT.out.mono ?_
        intro e w2 hp
        cases res with
        | error x =>
          obtain ⟨rfl, hk2⟩ := hp
          have HK2 := Lib.hid (HK1.out.trans hk2 (fun _ _ h => h))
          clear hk2
          go_wp2_with fail
          refine (HRF.out w2).mono ?_
          rintro e w3 ⟨hx0, rfl, hk3⟩
          have HK3 := Lib.hid (HK2.out.trans hk3 (fun _ _ h => h))
          have hsm := sametokens_any 0 0 (fun _ => True) (fun _ => True) [] [] (.slice none 0 0) (.slice none 0 0) w3 nil_tks nil_tks
          have HSM := Lib.hid hsm
          clear hk3 hx0 hsm
          go_wp2_with fail
          refine (num_any _ _).mono ?_
          rintro e w4 ⟨rfl, hw4⟩
          rw [hw4]
          clear hw4
          go_wp2_with fail
          refine HSM.out.mono ?_
          rintro e w5 ⟨r, rfl, hr, hk5⟩
          obtain rfl : r = true := hr.2 (by first | rfl | trivial)
          have HK5 := Lib.hid (HK3.out.trans hk5 (fun _ _ h => h))
          clear hr hk5
          go_wp2_with fail
          go_ret
          exact ⟨rfl, HK5.out.below0 (fun _ h => h.elim)⟩
        | ok l =>
          obtain ⟨v, n, rfl, hv, hk2⟩ := hp
          have HV := Lib.hid hv
          obtain ⟨va, vc, rfl, _, _⟩ := hv.shape
          have HK2 := Lib.hid (HK1.out.trans hk2 (fun _ _ h => h))
          obtain ⟨vn, hvn⟩ : ∃ vn, vn = l.length := ⟨_, rfl⟩
          rw [← hvn] at HV
          rw [← hvn]
          clear hk2 hv hvn
          go_wp2_with fail
          refine (HRF.out w2).mono ?_
          rintro e w3 ⟨u, rfl, hu, hlow, hk3⟩
          obtain ⟨m, hum⟩ := hu.reads hlow
          have hsm := sametokens_any n m _ _ l l _ _ w3 (HV.out.keep hk3 (fun _ _ _ h => h)) hum
          obtain ⟨ua, uc, rfl, _, _⟩ := hu.shape
          have HSM := Lib.hid hsm
          have HK3 := Lib.hid (HK2.out.trans hk3 (fun _ _ h => h))
          obtain ⟨un, hun⟩ : ∃ un, un = l.length := ⟨_, rfl⟩
          rw [← hun] at HSM
          rw [← hun]
          clear hk3 hu hlow hum hsm hun
          go_wp2_with fail
          refine (num_any _ _).mono ?_
          rintro e w4 ⟨rfl, hw4⟩
          rw [hw4]
          clear hw4
          go_wp2_with fail
          refine HSM.out.mono ?_
          rintro e w5 ⟨r, rfl, hr, hk5⟩
          obtain rfl : r = true := hr.2 (by first | rfl | trivial)
          have HK5 := Lib.hid (HK3.out.trans hk5 (fun _ _ h => h))
          clear hr hk5
          go_wp2_with fail
          go_ret
          exact ⟨rfl, HK5.out.below0 (fun _ h => h.elim)⟩
    · have p2 : (a0.size : Int) ≤ 16384 := by omega
      clear h1 h2
      go_enter Try.func3, Try.ntmps3
      go_wp2_with fail
      refine (alive_any w).mono ?_
      rintro e w1 ⟨rfl, hk⟩
      have HK1 := Lib.hid hk
      clear hk
      go_wp2_with fail
      go_ret
      exact ⟨rfl, HK1.out.below0 (fun _ h => h.elim)⟩
  · have p1 : ¬ (1000 : Int) < (a0.size : Int) := by omega
    have p3 : ¬ (16393 : Int) < (a0.size : Int) := by omega
    clear h1
    go_enter Try.func3, Try.ntmps3
    go_wp2_with fail
    refine (alive_any w).mono ?_
    rintro e w1 ⟨rfl, hk⟩
    have HK1 := Lib.hid hk
    clear hk
    obtain ⟨res, hres⟩ : ∃ res, res = tokensF a0.data.toList := ⟨_, rfl⟩
    have ht := tokens_any a0 w1 h0
    have hr := fun w => rtoks_any a0 w h0
    rw [← hres] at ht hr
    have HT := Lib.hid ht
    have HRF := Lib.hid hr
    clear hres ht hr
    go_wp2_with fail
    refine HT.out.mono ?_
    intro e w2 hp
    cases res with
    | error x =>
      obtain ⟨rfl, hk2⟩ := hp
      have HK2 := Lib.hid (HK1.out.trans hk2 (fun _ _ h => h))
      clear hk2
      go_wp2_with fail
      refine (HRF.out w2).mono ?_
      rintro e w3 ⟨hx0, rfl, hk3⟩
      have HK3 := Lib.hid (HK2.out.trans hk3 (fun _ _ h => h))
      have hsm := sametokens_any 0 0 (fun _ => True) (fun _ => True) [] [] (.slice none 0 0) (.slice none 0 0) w3 nil_tks nil_tks
      have HSM := Lib.hid hsm
      clear hk3 hx0 hsm
      go_wp2_with fail
      refine (num_any _ _).mono ?_
      rintro e w4 ⟨rfl, hw4⟩
      rw [hw4]
      clear hw4
      go_wp2_with fail
      refine HSM.out.mono ?_
      rintro e w5 ⟨r, rfl, hr, hk5⟩
      obtain rfl : r = true := hr.2 (by first | rfl | trivial)
      have HK5 := Lib.hid (HK3.out.trans hk5 (fun _ _ h => h))
      clear hr hk5
      go_wp2_with fail
      go_ret
      exact ⟨rfl, HK5.out.below0 (fun _ h => h.elim)⟩
    | ok l =>
      obtain ⟨v, n, rfl, hv, hk2⟩ := hp
      have HV := Lib.hid hv
      obtain ⟨va, vc, rfl, _, _⟩ := hv.shape
      have HK2 := Lib.hid (HK1.out.trans hk2 (fun _ _ h => h))
      obtain ⟨vn, hvn⟩ : ∃ vn, vn = l.length := ⟨_, rfl⟩
      rw [← hvn] at HV
      rw [← hvn]
      clear hk2 hv hvn
      go_wp2_with fail
      refine (HRF.out w2).mono ?_
      rintro e w3 ⟨u, rfl, hu, hlow, hk3⟩
      obtain ⟨m, hum⟩ := hu.reads hlow
      have hsm := sametokens_any n m _ _ l l _ _ w3 (HV.out.keep hk3 (fun _ _ _ h => h)) hum
      obtain ⟨ua, uc, rfl, _, _⟩ := hu.shape
      have HSM := Lib.hid hsm
      have HK3 := Lib.hid (HK2.out.trans hk3 (fun _ _ h => h))
      obtain ⟨un, hun⟩ : ∃ un, un = l.length := ⟨_, rfl⟩
      rw [← hun] at HSM
      rw [← hun]
      clear hk3 hu hlow hum hsm hun
      go_wp2_with fail
      refine (num_any _ _).mono ?_
      rintro e w4 ⟨rfl, hw4⟩
      rw [hw4]
      clear hw4
      go_wp2_with fail
      refine HSM.out.mono ?_
      rintro e w5 ⟨r, rfl, hr, hk5⟩
      obtain rfl : r = true := hr.2 (by first | rfl | trivial)
      have HK5 := Lib.hid (HK3.out.trans hk5 (fun _ _ h => h))
      clear hr hk5
      go_wp2_with fail
      go_ret
      exact ⟨rfl, HK5.out.below0 (fun _ h => h.elim)⟩
end Go.Proofs.Ytnndnldpbdhkgaa
