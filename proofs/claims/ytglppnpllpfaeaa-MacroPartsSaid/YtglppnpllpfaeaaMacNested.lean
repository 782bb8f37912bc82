/-
  MacroNested's walk.
-/
import Derived.Test.YtglppnpllpfaeaaMacP
import Derived.Test.YtglppnpllpfaeaaMacPA
namespace Go.Proofs.Ytglppnpllpfaeaa
open Go.RowKit
set_option linter.unusedVariables false

theorem ba_append (a b : ByteArray) : (a ++ b).data.toList = a.data.toList ++ b.data.toList := by
  rw [ByteArray.data_append, Array.toList_append]
theorem ba_size (a b : ByteArray) : (a ++ b).size = a.size + b.size := ByteArray.size_append
theorem ba_eq {a b : ByteArray} : (a.toList == b.toList) = decide (a = b) := by
  rw [Lib.toList_data, Lib.toList_data]
  by_cases h : a = b
  · subst h; simp
  · rw [decide_eq_false h, beq_eq_false_iff_ne]
    intro e
    exact h (by rw [← Lib.mk_data a, e, Lib.mk_data b])
set_option maxRecDepth 100000 in
set_option maxHeartbeats 8000000 in
theorem macroNested_walk (a0 a1 a2 : ByteArray) (w : World) (h0 : a0.size ≤ 140737488351232) (h1 : a1.size ≤ 140737488351232) (h2 : a2.size ≤ 140737488351232) (hsh : w.ShapedOpen Try.prog) :
    Calls Try.prog 10 #[.string a0, .string a1, .string a2] w fun e w' => e = .returned (.bool true) ∧ Below w.heap.size w w' := by
  have gl := gl_of hsh
  have hc2 : Try.prog.cellsOf 35 = 2 := by kernel_rfl
  cases hn0 : nameF a0.data.toList with
  | false =>
    have HN0 := Lib.hid hn0
    clear hn0
    go_enter Try.func10, Try.ntmps10
    go_wp2_with fail
    refine (alive_any w gl).mono ?_
    rintro e w1 ⟨rfl, hk⟩
    have HK0 := Lib.hid hk
    clear hk
    go_wp2_with fail
    refine (name_any a0 _ (by omega)).mono ?_
    rintro e w2 ⟨rfl, hk⟩
    have HK1 := Lib.hid (HK0.out.trans hk (fun _ _ h => h))
    rw [HN0.out]
    clear hk
    go_wp2_with fail
    go_ret
    exact ⟨rfl, HK1.out.below0 (fun _ h => h.elim)⟩
  | true =>
    have HN0 := Lib.hid hn0
    cases hn1 : nameF a1.data.toList with
    | false =>
      have HN1 := Lib.hid hn1
      clear hn0 hn1
      go_enter Try.func10, Try.ntmps10
      go_wp2_with fail
      refine (alive_any w gl).mono ?_
      rintro e w1 ⟨rfl, hk⟩
      have HK0 := Lib.hid hk
      clear hk
      go_wp2_with fail
      refine (name_any a0 _ (by omega)).mono ?_
      rintro e w2 ⟨rfl, hk⟩
      have HK1 := Lib.hid (HK0.out.trans hk (fun _ _ h => h))
      rw [HN0.out]
      clear hk
      go_wp2_with fail
      refine (name_any a1 _ (by omega)).mono ?_
      rintro e w3 ⟨rfl, hk⟩
      have HK2 := Lib.hid (HK1.out.trans hk (fun _ _ h => h))
      rw [HN1.out]
      clear hk
      go_wp2_with fail
      go_ret
      exact ⟨rfl, HK2.out.below0 (fun _ h => h.elim)⟩
    | true =>
      have HN1 := Lib.hid hn1
      have HNM := Lib.hid (show (∀ c ∈ a0.data.toList, nameB c = true) ∧ (∀ c ∈ a1.data.toList, nameB c = true) ∧ a0.data.toList.length ≤ 60 ∧ a1.data.toList.length ≤ 60 from ⟨(nameF_parts hn0).2.2, (nameF_parts hn1).2.2, (nameF_parts hn0).2.1, (nameF_parts hn1).2.1⟩)
      clear hn0 hn1
      cases heq : (a0.toList == a1.toList) with
      | true =>
        go_enter Try.func10, Try.ntmps10
        go_wp2_with fail
        refine (alive_any w gl).mono ?_
        rintro e w1 ⟨rfl, hk⟩
        have HK0 := Lib.hid hk
        clear hk
        go_wp2_with fail
        refine (name_any a0 _ (by omega)).mono ?_
        rintro e w1a ⟨rfl, hk⟩
        have HK1 := Lib.hid (HK0.out.trans hk (fun _ _ h => h))
        rw [HN0.out]
        clear hk
        go_wp2_with fail
        refine (name_any a1 _ (by omega)).mono ?_
        rintro e w2 ⟨rfl, hk⟩
        have HK2 := Lib.hid (HK1.out.trans hk (fun _ _ h => h))
        rw [HN1.out]
        clear hk
        go_wp2_with fail
        go_ret
        exact ⟨rfl, HK2.out.below0 (fun _ h => h.elim)⟩
      | false =>
        have HNE := Lib.hid (show a0.data.toList ≠ a1.data.toList from fun e => by rw [Lib.toList_data, Lib.toList_data, e] at heq; simp at heq)
        rcases Nat.lt_or_ge 30 a0.size with hl0 | hl0
        · have q0 : (30 : Int) < (a0.size : Int) := by omega
          clear hl0
          go_enter Try.func10, Try.ntmps10
          go_wp2_with fail
          refine (alive_any w gl).mono ?_
          rintro e w1 ⟨rfl, hk⟩
          have HK0 := Lib.hid hk
          clear hk
          go_wp2_with fail
          refine (name_any a0 _ (by omega)).mono ?_
          rintro e w1a ⟨rfl, hk⟩
          have HK1 := Lib.hid (HK0.out.trans hk (fun _ _ h => h))
          rw [HN0.out]
          clear hk
          go_wp2_with fail
          refine (name_any a1 _ (by omega)).mono ?_
          rintro e w2 ⟨rfl, hk⟩
          have HK2 := Lib.hid (HK1.out.trans hk (fun _ _ h => h))
          rw [HN1.out]
          clear hk
          go_wp2_with fail
          go_ret
          exact ⟨rfl, HK2.out.below0 (fun _ h => h.elim)⟩
        have q0 : ¬ (30 : Int) < (a0.size : Int) := by omega
        rcases Nat.lt_or_ge 30 a1.size with hl1 | hl1
        · have q1 : (30 : Int) < (a1.size : Int) := by omega
          clear hl1
          go_enter Try.func10, Try.ntmps10
          go_wp2_with fail
          refine (alive_any w gl).mono ?_
          rintro e w1 ⟨rfl, hk⟩
          have HK0 := Lib.hid hk
          clear hk
          go_wp2_with fail
          refine (name_any a0 _ (by omega)).mono ?_
          rintro e w1a ⟨rfl, hk⟩
          have HK1 := Lib.hid (HK0.out.trans hk (fun _ _ h => h))
          rw [HN0.out]
          clear hk
          go_wp2_with fail
          refine (name_any a1 _ (by omega)).mono ?_
          rintro e w2 ⟨rfl, hk⟩
          have HK2 := Lib.hid (HK1.out.trans hk (fun _ _ h => h))
          rw [HN1.out]
          clear hk
          go_wp2_with fail
          go_ret
          exact ⟨rfl, HK2.out.below0 (fun _ h => h.elim)⟩
        have q1 : ¬ (30 : Int) < (a1.size : Int) := by omega
        rcases Nat.lt_or_ge 60 a2.size with hl2 | hl2
        · have q2 : (60 : Int) < (a2.size : Int) := by omega
          clear hl2
          go_enter Try.func10, Try.ntmps10
          go_wp2_with fail
          refine (alive_any w gl).mono ?_
          rintro e w1 ⟨rfl, hk⟩
          have HK0 := Lib.hid hk
          clear hk
          go_wp2_with fail
          refine (name_any a0 _ (by omega)).mono ?_
          rintro e w1a ⟨rfl, hk⟩
          have HK1 := Lib.hid (HK0.out.trans hk (fun _ _ h => h))
          rw [HN0.out]
          clear hk
          go_wp2_with fail
          refine (name_any a1 _ (by omega)).mono ?_
          rintro e w2 ⟨rfl, hk⟩
          have HK2 := Lib.hid (HK1.out.trans hk (fun _ _ h => h))
          rw [HN1.out]
          clear hk
          go_wp2_with fail
          go_ret
          exact ⟨rfl, HK2.out.below0 (fun _ h => h.elim)⟩
        have q2 : ¬ (60 : Int) < (a2.size : Int) := by omega
        go_enter Try.func10, Try.ntmps10
        go_wp2_with fail
        refine (alive_any w gl).mono ?_
        rintro e w1 ⟨rfl, hk⟩
        have HK0 := Lib.hid hk
        clear hk
        go_wp2_with fail
        refine (name_any a0 _ (by omega)).mono ?_
        rintro e w1a ⟨rfl, hk⟩
        have HK1 := Lib.hid (HK0.out.trans hk (fun _ _ h => h))
        rw [HN0.out]
        clear hk
        go_wp2_with fail
        refine (name_any a1 _ (by omega)).mono ?_
        rintro e w2 ⟨rfl, hk⟩
        have HK2 := Lib.hid (HK1.out.trans hk (fun _ _ h => h))
        rw [HN1.out]
        clear hk
        go_wp2_with fail
        go_loopw [9] (fun k' wr => ∃ k : Nat, k' = .int .i64 k ∧ k ≤ a2.size ∧ Hid (∀ j, j < k → byteAt a2 j ≠ 36) ∧ w2 = wr) (fun k' _ => a2.size - (intOf k').toNat)
        case atStart => exact ⟨0, rfl, Nat.zero_le _, Lib.hid (fun j hj => absurd hj (Nat.not_lt_zero _)), rfl⟩
        case round =>
          obtain ⟨k, rfl, hk, HL, hwr⟩ := hrel
          subst hwr
          rcases Nat.lt_or_ge k a2.size with hlt | hge
          · have p1 : (k : Int) < (a2.size : Int) := by omega
            have hb := byteAt_in hlt
            obtain ⟨c, hc⟩ : ∃ c, c = byteAt a2 k := ⟨_, rfl⟩
            rw [← hc] at hb
            have HX := Lib.hid hc
            clear hc
            by_cases t36 : c = 36
            · have f36 : ((c.toNat : Int) == 36) = true := test_yes (c := c) (k := 36) t36
              clear t36
              go_wp2_with fail
              go_ret
              exact ⟨rfl, HK2.out.below0 (fun _ h => h.elim)⟩
            have f36 : ((c.toNat : Int) == 36) = false := test_no (c := c) (k := 36) t36
            have HL2 := Lib.hid t36
            clear t36
            go_wp2_with fail
            go_roundw
            case rel => exact ⟨k + 1, by go_num, by omega, Lib.hid (fun j hj => by
              rcases Nat.lt_or_ge j k with h | h
              · exact HL.out j h
              · obtain rfl : j = k := by omega
                rw [← HX.out]; exact HL2.out), by first | rfl | trivial⟩
            case measure => simp [intOf]; omega
          · obtain rfl : k = a2.size := by omega
            have HFR := Lib.hid (show FreeD a2.data.toList from fun c hc => by
              obtain ⟨j, hj⟩ := List.mem_iff_getElem?.1 hc
              have h2 := HL.out j (by rw [Lib.size_eq]; exact (List.getElem?_eq_some_iff.1 hj).1)
              unfold byteAt at h2
              rw [List.getD_eq_getElem?_getD, hj] at h2
              exact h2)
            have p1 : ¬ (a2.size : Int) < (a2.size : Int) := by omega
            clear hge HL
            obtain ⟨W, hW⟩ : ∃ W, W = w2.alloc (.cells #[.string a0, .string a1, .string a1, .string a2] 35) := ⟨_, rfl⟩
            have HKW := Lib.hid (show Keeps (fun _ => False) w W by rw [hW]; exact HK2.out.alloc _)
            have HPR := Lib.hid (show PairsAt W (fun _ => True) (.slice (some ⟨w2.heap.size, 0, none⟩) 2 2) [(a0.data.toList, a1.data.toList), (a1.data.toList, a2.data.toList)] by
              rw [hW]
              exact pairs_block (heap_alloc_new w2 _) (pairs_lit (by show [_, _, _, _] = [strV _, strV _, strV _, strV _]; rw [strV_of (s := a0) rfl, strV_of (s := a1) rfl, strV_of (s := a2) rfl])) rfl (by simp))
            have HSM := Lib.hid (show Small [(a0.data.toList, a1.data.toList), (a1.data.toList, a2.data.toList)] ∧ Small [] from ⟨small_of fun p hp => by
              rcases List.mem_cons.1 hp with rfl | hp
              · show a1.data.toList.length ≤ 3000; rw [← Lib.size_eq]; omega
              · obtain rfl := List.mem_singleton.1 hp
                show a2.data.toList.length ≤ 3000; rw [← Lib.size_eq]; omega, small_nil⟩)
            obtain ⟨S, hS⟩ : ∃ S, S = (⟨#[36, 40, 36, 40]⟩ : ByteArray) ++ a0 ++ ⟨#[41, 41]⟩ := ⟨_, rfl⟩
            obtain ⟨U, hU⟩ : ∃ U, U = (⟨#[36, 123, 36, 40]⟩ : ByteArray) ++ a0 ++ ⟨#[41, 125]⟩ := ⟨_, rfl⟩
            have hx1 := fun w' (hk : Keeps (fun _ => False) W w') => expand_any S (.slice (some ⟨w2.heap.size, 0, none⟩) 2 2) (.slice none 0 0) _ [] w' (by rw [hS, ba_size, ba_size]; show 4 + a0.size + 2 ≤ _; omega) (HPR.out.keep hk (fun _ _ _ h => h)) (PairsAt.nil _ _) HSM.out ((gl.keep HKW.out).keep hk)
            rw [show expandF [(a0.data.toList, a1.data.toList), (a1.data.toList, a2.data.toList)] [] S.data.toList = .ok a2.data.toList by rw [hS, ba_append, ba_append]; exact nested_par HNE.out HNM.out.1 HNM.out.2.1 HNM.out.2.2.1 HNM.out.2.2.2 HFR.out (by rw [← Lib.size_eq]; omega)] at hx1
            have hx2 := fun w' (hk : Keeps (fun _ => False) W w') => expand_any U (.slice (some ⟨w2.heap.size, 0, none⟩) 2 2) (.slice none 0 0) _ [] w' (by rw [hU, ba_size, ba_size]; show 4 + a0.size + 2 ≤ _; omega) (HPR.out.keep hk (fun _ _ _ h => h)) (PairsAt.nil _ _) HSM.out ((gl.keep HKW.out).keep hk)
            rw [show expandF [(a0.data.toList, a1.data.toList), (a1.data.toList, a2.data.toList)] [] U.data.toList = .ok a2.data.toList by rw [hU, ba_append, ba_append]; exact nested_brace HNE.out HNM.out.1 HNM.out.2.1 HNM.out.2.2.1 HNM.out.2.2.2 HFR.out (by rw [← Lib.size_eq]; omega)] at hx2
            have HX1 := Lib.hid hx1
            have HX2 := Lib.hid hx2
            have HS := Lib.hid hS
            have HU := Lib.hid hU
            have HW := Lib.hid hW
            have hbq : (a2.toList == a2.toList) = true := beq_self_eq_true _
            clear hx1 hx2 hS hU hW
            go_wp2_with fail
            rw [← HW.out, ← HS.out]
            refine (HX1.out W (Keeps.refl _ _)).mono ?_
            rintro e w4 ⟨rfl, hk4⟩
            have HK4 := Lib.hid hk4
            rw [strV_of (s := a2) rfl]
            clear hk4
            go_wp2_with fail
            rw [← HU.out]
            refine (HX2.out w4 HK4.out).mono ?_
            rintro e w5 ⟨rfl, hk5⟩
            have HK5 := Lib.hid (HKW.out.trans (HK4.out.trans hk5 (fun _ _ h => h)) (fun _ _ h => h))
            rw [strV_of (s := a2) rfl]
            clear hk5
            go_wp2_with fail
            refine (num_any 0 _).mono ?_
            rintro e w6 ⟨rfl, hwn⟩
            rw [hwn]
            clear hwn
            go_wp2_with fail
            refine (num_any 0 _).mono ?_
            rintro e w7 ⟨rfl, hwn⟩
            rw [hwn]
            clear hwn
            go_wp2_with fail
            go_ret
            exact ⟨rfl, HK5.out.below0 (fun _ h => h.elim)⟩
end Go.Proofs.Ytglppnpllpfaeaa
