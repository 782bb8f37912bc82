/-
  LexBack's walk.
-/
import Derived.Test.YtnndnldpbdhkgaaLexBD
namespace Go.Proofs.Ytnndnldpbdhkgaa
open Go.RowKit
set_option linter.unusedVariables false

theorem u8_of {a : Int} (h : (Lit.int .u8 a).wf = true) : ∃ c : UInt8, a = (c.toNat : Nat) := by
  have h2 : 0 ≤ a ∧ a < 256 := by
    have h2 := h
    simp [Lit.wf] at h2
    have e1 : IntKind.u8.min = 0 := rfl
    have e2 : IntKind.u8.max = 255 := rfl
    omega
  refine ⟨UInt8.ofNat a.toNat, ?_⟩
  rw [UInt8.toNat_ofNat']
  omega
set_option maxRecDepth 100000 in
set_option maxHeartbeats 4000000 in
theorem lexBack_walk (a0 : Int) (a1 : ByteArray) (w : World) (h0 : (Lit.int .u8 a0).wf = true) (h1 : a1.size ≤ 140737488351232) (hsh : w.ShapedOpen Try.prog) :
    Calls Try.prog 5 #[.int .u8 a0, .string a1] w fun e w' => e = .returned (.bool true) ∧ Below w.heap.size w w' := by
  have hc3 := cells_token
  have hc6 := cells_part
  obtain ⟨c, rfl⟩ := u8_of h0
  clear h0
  by_cases hc0 : c = 0
  · have t0 : ((c.toNat : Int) == 0) = true := test_yes (c := c) (k := 0) hc0
    go_enter Try.func5, Try.ntmps5
    go_wp2_with fail
    refine (alive_any w).mono ?_
    rintro e w1 ⟨rfl, hk⟩
    have HK := Lib.hid hk
    clear hk
    go_wp2_with fail
    go_ret
    exact ⟨rfl, HK.out.below0 (fun _ h => h.elim)⟩
  have t0 : ((c.toNat : Int) == 0) = false := test_no (c := c) (k := 0) hc0
  by_cases hl : 100 < a1.size
  · have t1 : (100 : Int) < (a1.size : Int) := by omega
    clear hc0
    go_enter Try.func5, Try.ntmps5
    go_wp2_with fail
    refine (alive_any w).mono ?_
    rintro e w1 ⟨rfl, hk⟩
    have HK := Lib.hid hk
    clear hk
    go_wp2_with fail
    go_ret
    exact ⟨rfl, HK.out.below0 (fun _ h => h.elim)⟩
  have t1 : ¬ (100 : Int) < (a1.size : Int) := by omega
  go_enter Try.func5, Try.ntmps5
  go_wp2_with fail
  refine (alive_any w).mono ?_
  rintro e w1 ⟨rfl, hk⟩
  have HK := Lib.hid hk
  clear hk
  go_wp2_with fail
  go_loopw [6] (fun k' wr => ∃ k : Nat, k' = .int .i64 k ∧ k ≤ a1.size ∧ Hid (∀ j, j < k → lowB (byteAt a1 j) = true) ∧ wr = w1) (fun k' _ => a1.size - (intOf k').toNat)
  case atStart => exact ⟨0, rfl, Nat.zero_le _, Lib.hid (fun j hj => absurd hj (Nat.not_lt_zero _)), rfl⟩
  case round =>
    obtain ⟨k, rfl, hk, HL, rfl⟩ := hrel
    rcases Nat.lt_or_ge k a1.size with hlt | hge
    · have p1 : (k : Int) < (a1.size : Int) := by omega
      have hb := byteAt_in hlt
      obtain ⟨x, hx⟩ : ∃ x, x = byteAt a1 k := ⟨_, rfl⟩
      rw [← hx] at hb
      have HX := Lib.hid hx
      clear hx
      by_cases q : 97 ≤ x.toNat ∧ x.toNat ≤ 122
      · have q1 : (97 : Int) ≤ ((x.toNat : Nat) : Int) := by omega
        have q2 : ((x.toNat : Nat) : Int) ≤ 122 := by omega
        have hl2 : lowB x = true := by unfold lowB; rw [decide_eq_true q.1, decide_eq_true q.2]; rfl
        have HL2 := Lib.hid hl2
        clear q hl2
        go_wp2_with fail
        go_roundw
        case rel => exact ⟨k + 1, by go_num, by omega, Lib.hid (fun j hj => by
          rcases Nat.lt_or_ge j k with h | h
          · exact HL.out j h
          · obtain rfl : j = k := by omega
            rw [← HX.out]; exact HL2.out), trivial⟩
        case measure => simp [intOf]; omega
      · have q1 : ¬ (97 : Int) ≤ ((x.toNat : Nat) : Int) ∨ (97 : Int) ≤ ((x.toNat : Nat) : Int) ∧ ¬ ((x.toNat : Nat) : Int) ≤ 122 := by omega
        clear q
        rcases q1 with q1 | ⟨q1, q2⟩
        · go_wp2_with fail
          go_ret
          exact ⟨rfl, HK.out.below0 (fun _ h => h.elim)⟩
        · go_wp2_with fail
          go_ret
          exact ⟨rfl, HK.out.below0 (fun _ h => h.elim)⟩
    · obtain rfl : k = a1.size := by omega
      have hlow : ∀ x ∈ a1.data.toList, lowB x = true := fun x hx => by
        obtain ⟨j, hj⟩ := List.mem_iff_getElem?.1 hx
        have h2 := HL.out j (by rw [Lib.size_eq]; exact (List.getElem?_eq_some_iff.1 hj).1)
        unfold byteAt at h2
        rw [List.getD_eq_getElem?_getD, hj] at h2
        exact h2
      have HLOW := Lib.hid hlow
      have hcv := conv_one wr _ c rfl
      have p1 : ¬ (a1.size : Int) < (a1.size : Int) := by omega
      clear hlow hge
      go_wp2_with fail
      obtain ⟨S, hS⟩ : ∃ S, S = (⟨#[92]⟩ : ByteArray) ++ ⟨#[c]⟩ ++ a1 := ⟨_, rfl⟩
      have hSl : S.data.toList = 92 :: c :: a1.data.toList := by rw [hS, ba_append, ba_append]; rfl
      have hSz : S.size ≤ 110 := by rw [Lib.size_eq, hSl, List.length_cons, List.length_cons, ← Lib.size_eq]; omega
      have hmay : mayF S.data.toList = 0 := by
        rw [hSl]
        refine may_low (by rw [List.length_cons, List.length_cons, ← Lib.size_eq]; omega) (fun x hx => ?_)
        rcases List.mem_cons.1 hx with rfl | hx
        · rfl
        · rcases List.mem_cons.1 hx with rfl | hx
          · exact beq_eq_false_iff_ne.2 hc0
          · exact (low_plain (HLOW.out x hx)).2.2.2.2.2.2
      rw [← hS]
      refine (tokens_any S _ (by omega)).mono ?_
      rw [tokensF_C _ hmay, hSl]
      have HK1 := Lib.hid (HK.out.alloc (.cells #[.int .u8 (c.toNat : Nat)] 5))
      clear hS hSl hSz hmay hcv
      by_cases h10 : c = 10
      · have t10 : ((c.toNat : Int) == 10) = true := test_yes (c := c) (k := 10) h10
        rw [h10, back_nl HLOW.out, ← h10]
        rintro e w2 ⟨v, n, rfl, hv, hk2⟩
        obtain ⟨va, vc, rfl, _, _⟩ := hv.shape
        cases hs : a1.data.toList with
        | nil =>
          rw [hs] at hv
          obtain ⟨s1, s2⟩ := ba_empty hs
          have HK2 := Lib.hid (HK1.out.trans hk2 (fun _ _ h => h))
          obtain ⟨T, hT⟩ : ∃ T, T = a1.toList := ⟨_, rfl⟩
          rw [show (lowToks ([] : List UInt8)).length = 0 from rfl]
          clear hk2 hc0 h10 hv hs
          go_wp2_with fail
          refine (num_any 0 _).mono ?_
          rintro e w3 ⟨rfl, hw3⟩
          subst hw3
          go_wp2_with fail
          go_ret
          exact ⟨rfl, HK2.out.below0 (fun _ h => h.elim)⟩
        | cons x t =>
          rw [hs] at hv
          obtain ⟨s1, s2⟩ := ba_full (s := a1) (by rw [hs]; simp)
          obtain ⟨g, o, xa, xl, xc, rfl, ⟨q0, q1, q2⟩, hx, hg⟩ := hv.at (Keeps.refl _ _) (i := 0) (Nat.succ_pos _)
          rw [show (lowToks (x :: t)).length = 1 from rfl]
          have q2' : w2.cell? ⟨g, o + 2, none⟩ = some (.slice xa xl xc) := q2
          have HX := Lib.hid (show PtsAt w2 _ _ [txtP a1.data.toList] _ by rw [hs]; exact hx)
          have HK2 := Lib.hid (HK1.out.trans hk2 (fun _ _ h => h))
          clear hk2 hc0 h10 hv q0 q1 q2 hx hs
          go_wp2_with fail
          refine (num_any 0 _).mono ?_
          rintro e w3 ⟨rfl, hw3⟩
          subst hw3
          obtain ⟨m, hm⟩ := one_reads w3 1 a1 false
          have hm' := sameparts_any _ _ _ _ _ _ _ _ _ (HX.out.keep ((Keeps.refl (fun _ => False) w3).alloc _) (fun _ _ _ h => h)) hm
          have HM := Lib.hid hm'
          clear hm hm'
          go_wp2_with fail
          refine HM.out.mono ?_
          rintro e w4 ⟨r, rfl, hr, hk4⟩
          obtain rfl : r = true := hr.2 rfl
          have HK4 := Lib.hid ((HK2.out.alloc _).trans hk4 (fun _ _ h => h))
          clear hr hk4
          go_wp2_with fail
          go_ret
          exact ⟨rfl, HK4.out.below0 (fun _ h => h.elim)⟩
      · have t10 : ((c.toNat : Int) == 10) = false := test_no (c := c) (k := 10) h10
        rw [back_c h10 HLOW.out]
        rintro e w2 ⟨v, n, rfl, hv, hk2⟩
        obtain ⟨va, vc, rfl, _, _⟩ := hv.shape
        obtain ⟨g, o, xa, xl, xc, rfl, ⟨q0, q1, q2⟩, hx, hg⟩ := hv.at (Keeps.refl _ _) (i := 0) (by simp)
        rw [show ([(⟨1, [], backParts c a1.data.toList⟩ : Tk)] : List Tk).length = 1 from rfl]
        have q2' : w2.cell? ⟨g, o + 2, none⟩ = some (.slice xa xl xc) := q2
        have HX := Lib.hid (show PtsAt w2 _ _ (backParts c a1.data.toList) _ from hx)
        have HK2 := Lib.hid (HK1.out.trans hk2 (fun _ _ h => h))
        obtain ⟨i0, hi0, hz0, hz1, hz2⟩ := info_parts info_part
        have hcv2 := conv_one w2 _ c rfl
        clear hk2 hc0 h10 hv q0 q1 q2 hx
        obtain ⟨m1, hm1⟩ := one_reads (w2.alloc (.cells #[.int .u8 (c.toNat : Nat)] 5)) 2 ⟨#[c]⟩ false
        have how := one_own (w2.alloc (.cells #[.int .u8 (c.toNat : Nat)] 5)) 2 ⟨#[c]⟩ false
        rw [show (w2.alloc (.cells #[.int .u8 (c.toNat : Nat)] 5)).heap.size = w2.heap.size + 1 by simp] at hm1 how
        cases hs : a1.data.toList with
        | nil =>
          rw [hs] at HX
          obtain ⟨s1, s2⟩ := ba_empty hs
          have hm' := sameparts_any _ _ _ _ _ _ _ _ _ (HX.out.keep (((Keeps.refl (fun _ => False) w2).alloc (.cells #[.int .u8 (c.toNat : Nat)] 5)).alloc _) (fun _ _ _ h => h)) hm1
          have HM := Lib.hid hm'
          clear hm' hm1 how hs
          go_wp2_with fail
          refine (num_any 0 _).mono ?_
          rintro e w3 ⟨rfl, hw3⟩
          subst hw3
          go_wp2_with fail
          refine HM.out.mono ?_
          rintro e w4 ⟨r, rfl, hr, hk4⟩
          obtain rfl : r = true := hr.2 rfl
          have HK4 := Lib.hid (((HK2.out.alloc _).alloc _).trans hk4 (fun _ _ h => h))
          clear hr hk4
          go_wp2_with fail
          go_ret
          exact ⟨rfl, HK4.out.below0 (fun _ h => h.elim)⟩
        | cons x t =>
          have hbp : backParts c a1.data.toList = [quoP [c], txtP a1.data.toList] := by rw [hs]; rfl
          rw [hbp] at HX
          obtain ⟨s1, s2⟩ := ba_full (s := a1) (by rw [hs]; simp)
          have HOW := Lib.hid how
          clear hm1 how hs hbp
          go_wp2_with fail
          refine (num_any 0 _).mono ?_
          rintro e w3 ⟨rfl, hw3⟩
          subst hw3
          go_wp2_with (at_builtin; refine wpList_append_lies _ rfl (.tmp 84) (.tmp 87) _ rfl 0 39 i0 _ 6 88 Try.underlying32 hi0 hz0 hz1 hz2 rfl (by omega) (.slice (some ⟨w3.heap.size + 1, 0, none⟩) 1 1) 1 [.int .i64 2, .string ⟨#[c]⟩, .string ⟨#[]⟩, .string ⟨#[]⟩, .slice none 0 0, .bool false] rfl (HOW.out.alloc _) ⟨w3.heap.size + 1 + 1, 0, none⟩ 1 1 [.int .i64 1, .string a1, .string ⟨#[]⟩, .string ⟨#[]⟩, .slice none 0 0, .bool false] rfl rfl (World.news_of_block (cs := #[.int .i64 1, .string a1, .string ⟨#[]⟩, .string ⟨#[]⟩, .slice none 0 0, .bool false]) (t := 39) (fr := (0, 0)) (by have h := heap_alloc_new ((w3.alloc (.cells #[.int .u8 (c.toNat : Nat)] 5)).alloc (.cells #[.int .i64 2, .string ⟨#[c]⟩, .string ⟨#[]⟩, .string ⟨#[]⟩, .slice none 0 0, .bool false] 39)) (.cells #[.int .i64 1, .string a1, .string ⟨#[]⟩, .string ⟨#[]⟩, .slice none 0 0, .bool false] 39); simpa using h)) (by simp [Value.oneCell']) (by omega) (by unfold maxLen; omega) (by omega) (by simp) (w3.heap.size + 3) (by simp) ?_; intro gg cap w5 hown2 hgrow hat hlt2; have hk5 : Keeps (fun _ => False) w3 w5 := ((((Keeps.refl (fun _ => False) w3).alloc _).alloc _).alloc _).grown hgrow (fun y hy hyl => by have h9 : w3.heap.size + 1 = y := Option.some.inj hy; omega); have q5 : w5.cell? ⟨g, o + 2, none⟩ = some (.slice xa xl xc) := (World.cell?_of_block (a := ⟨g, o + 2, none⟩) (hk5.block g hg (fun h => h))).trans q2')
          obtain ⟨m2, hm2⟩ := flat_reads (D := fun _ => True) (raw := [quoP [c], txtP a1.data.toList]) hown2 (fun i h => by
            match i, h with
            | 0, _ => rfl
            | 1, _ => rfl) (fun _ _ => trivial)
          have hm' := sameparts_any _ _ _ _ _ _ _ _ _ (HX.out.keep hk5 (fun _ _ _ h => h)) hm2
          have HM := Lib.hid hm'
          have HK5 := Lib.hid (HK2.out.trans hk5 (fun _ _ h => h))
          clear hm' hm2 hk5 hown2 hgrow hat q2'
          refine HM.out.mono ?_
          rintro e w6 ⟨r, rfl, hr, hk6⟩
          obtain rfl : r = true := hr.2 rfl
          have HK6 := Lib.hid (HK5.out.trans hk6 (fun _ _ h => h))
          clear hr hk6
          go_wp2_with fail
          go_ret
          exact ⟨rfl, HK6.out.below0 (fun _ h => h.elim)⟩
end Go.Proofs.Ytnndnldpbdhkgaa
