/-
  MacroAutos' walk.
-/
import Derived.Test.YtglppnpllpfaeaaMacNested
namespace Go.Proofs.Ytglppnpllpfaeaa
open Go.RowKit
set_option linter.unusedVariables false

theorem value_none {l auto : List (Bs × Bs)} {op : List Bs} {t : List Bs → Nat → Bs → MR} {refs : Nat} {s : Bs} (h : lastF auto s = none) (h2 : lastF l s = none) : valueF l auto op t refs s = .ok ([], refs) := by unfold valueF; rw [h, h2]
set_option maxRecDepth 100000 in
set_option maxHeartbeats 16000000 in
theorem macroAutos_walk (a0 a1 a2 : ByteArray) (a3 : Bool) (w : World) (h0 : a0.size ≤ 140737488351232) (h1 : a1.size ≤ 140737488351232) (h2 : a2.size ≤ 140737488351232) (hsh : w.ShapedOpen Try.prog) :
    Calls Try.prog 9 #[.string a0, .string a1, .string a2, .bool a3] w fun e w' => e = .returned (.bool true) ∧ Below w.heap.size w w' := by
  have gl := gl_of hsh
  have hc2 : Try.prog.cellsOf 35 = 2 := by kernel_rfl
  cases hn0 : nameF a0.data.toList with
  | false =>
    have HN0 := Lib.hid hn0
    clear hn0
    go_enter Try.func9, Try.ntmps9
    go_wp2_with fail
    refine (alive_any w gl).mono ?_
    rintro e w1 ⟨rfl, hk⟩
    have HK0 := Lib.hid hk
    clear hk
    go_wp2_with fail
    refine (name_any a0 _ (by omega)).mono ?_
    rintro e w1a ⟨rfl, hk⟩
    have HK1 := Lib.hid (HK0.out.trans hk (fun _ _ h => h))
    rw [HN0.out]
    clear hk
    go_wp2_with fail
    go_ret
    exact ⟨rfl, HK1.out.below0 (fun _ h => h.elim)⟩
  | true =>
    have HN0 := Lib.hid hn0
    have HNM := Lib.hid (show (∀ c ∈ a0.data.toList, nameB c = true) ∧ a0.data.toList.length ≤ 60 from ⟨(nameF_parts hn0).2.2, (nameF_parts hn0).2.1⟩)
    have HNM0 := Lib.hid (nameF_parts hn0).1
    clear hn0
    rcases Nat.lt_or_ge 40 a0.size with hl0 | hl0
    · have q0 : (40 : Int) < (a0.size : Int) := by omega
      clear hl0
      go_enter Try.func9, Try.ntmps9
      go_wp2_with fail
      refine (alive_any w gl).mono ?_
      rintro e w1 ⟨rfl, hk⟩
      have HK0 := Lib.hid hk
      clear hk
      go_wp2_with fail
      refine (name_any a0 _ (by omega)).mono ?_
      rintro e w1a ⟨rfl, hk⟩
      have HK1 := Lib.hid (HK0.out.trans hk (fun _ _ h => h))
      rw [HN0.out]
      clear hk
      go_wp2_with fail
      go_ret
      exact ⟨rfl, HK1.out.below0 (fun _ h => h.elim)⟩
    have q0 : ¬ (40 : Int) < (a0.size : Int) := by omega
    rcases Nat.lt_or_ge 100 a1.size with hl1 | hl1
    · have q1 : (100 : Int) < (a1.size : Int) := by omega
      clear hl1
      go_enter Try.func9, Try.ntmps9
      go_wp2_with fail
      refine (alive_any w gl).mono ?_
      rintro e w1 ⟨rfl, hk⟩
      have HK0 := Lib.hid hk
      clear hk
      go_wp2_with fail
      refine (name_any a0 _ (by omega)).mono ?_
      rintro e w1a ⟨rfl, hk⟩
      have HK1 := Lib.hid (HK0.out.trans hk (fun _ _ h => h))
      rw [HN0.out]
      clear hk
      go_wp2_with fail
      go_ret
      exact ⟨rfl, HK1.out.below0 (fun _ h => h.elim)⟩
    have q1 : ¬ (100 : Int) < (a1.size : Int) := by omega
    rcases Nat.lt_or_ge 100 a2.size with hl2 | hl2
    · have q2 : (100 : Int) < (a2.size : Int) := by omega
      clear hl2
      go_enter Try.func9, Try.ntmps9
      go_wp2_with fail
      refine (alive_any w gl).mono ?_
      rintro e w1 ⟨rfl, hk⟩
      have HK0 := Lib.hid hk
      clear hk
      go_wp2_with fail
      refine (name_any a0 _ (by omega)).mono ?_
      rintro e w1a ⟨rfl, hk⟩
      have HK1 := Lib.hid (HK0.out.trans hk (fun _ _ h => h))
      rw [HN0.out]
      clear hk
      go_wp2_with fail
      go_ret
      exact ⟨rfl, HK1.out.below0 (fun _ h => h.elim)⟩
    have q2 : ¬ (100 : Int) < (a2.size : Int) := by omega
    go_enter Try.func9, Try.ntmps9
    go_wp2_with fail
    refine (alive_any w gl).mono ?_
    rintro e w1 ⟨rfl, hk⟩
    have HK0 := Lib.hid hk
    clear hk
    go_wp2_with fail
    refine (name_any a0 _ (by omega)).mono ?_
    rintro e w1a ⟨rfl, hk⟩
    have HK1 := Lib.hid (HK0.out.trans hk (fun _ _ h => h))
    rw [HN0.out]
    clear hk
    go_wp2_with fail
    go_loopw [11] (fun k' wr => ∃ k : Nat, k' = .int .i64 k ∧ k ≤ a2.size ∧ Hid (∀ j, j < k → byteAt a2 j ≠ 36) ∧ w1a = wr) (fun k' _ => a2.size - (intOf k').toNat)
    case atStart => exact ⟨0, rfl, Nat.zero_le _, Lib.hid (fun j hj => absurd hj (Nat.not_lt_zero _)), rfl⟩
    case round =>
      obtain ⟨k, rfl, hk, HL, hwr⟩ := hrel
      subst hwr
      rcases Nat.lt_or_ge k a2.size with hlt | hge
      · have p1 : (k : Int) < (a2.size : Int) := by omega
        have hb := byteAt_in hlt
        obtain ⟨c, hc⟩ : ∃ c, c = byteAt a2 k := ⟨_, rfl⟩
        rw [← hc] at hb
        have HX := Lib.hid hc
        clear hc
        by_cases t36 : c = 36
        · have f36 : ((c.toNat : Int) == 36) = true := test_yes (c := c) (k := 36) t36
          clear t36
          go_wp2_with fail
          go_ret
          exact ⟨rfl, HK1.out.below0 (fun _ h => h.elim)⟩
        have f36 : ((c.toNat : Int) == 36) = false := test_no (c := c) (k := 36) t36
        have HL2 := Lib.hid t36
        clear t36
        go_wp2_with fail
        go_roundw
        case rel => exact ⟨k + 1, by go_num, by omega, Lib.hid (fun j hj => by
          rcases Nat.lt_or_ge j k with h | h
          · exact HL.out j h
          · obtain rfl : j = k := by omega
            rw [← HX.out]; exact HL2.out), by first | rfl | trivial⟩
        case measure => simp [intOf]; omega
      · obtain rfl : k = a2.size := by omega
        have HFR := Lib.hid (show FreeD a2.data.toList from fun c hc => by
          obtain ⟨j, hj⟩ := List.mem_iff_getElem?.1 hc
          have h2 := HL.out j (by rw [Lib.size_eq]; exact (List.getElem?_eq_some_iff.1 hj).1)
          unfold byteAt at h2
          rw [List.getD_eq_getElem?_getD, hj] at h2
          exact h2)
        have p1 : ¬ (a2.size : Int) < (a2.size : Int) := by omega
        clear hge HL
        cases a3 with
        | false =>
          cases hct : a0.data.toList with
          | nil => exact absurd hct HNM0.out
          | cons c tt =>
            cases tt with
            | nil =>
              have HCT := Lib.hid hct
              have hq1 : ¬ (1 : Int) < (a0.size : Int) := by rw [Lib.size_eq, hct]; simp
              clear hct
              obtain ⟨W, hW⟩ : ∃ W, W = w1a.alloc (.cells #[.string a0, .string ⟨#[102, 105, 114, 115, 116]⟩, .string a0, .string a2] 35) := ⟨_, rfl⟩
              have HKW := Lib.hid (show Keeps (fun _ => False) w W by rw [hW]; exact HK1.out.alloc _)
              have HPR := Lib.hid (show PairsAt W (fun _ => True) (.slice (some ⟨w1a.heap.size, 0, none⟩) 2 2) [(a0.data.toList, [102, 105, 114, 115, 116]), (a0.data.toList, a2.data.toList)] by
                have hp : PairsAt (w1a.alloc (.cells #[.string a0, .string ⟨#[102, 105, 114, 115, 116]⟩, .string a0, .string a2] 35)) (fun _ => True) (.slice (some ⟨w1a.heap.size, 0, none⟩) 2 2) [(a0.data.toList, [102, 105, 114, 115, 116]), (a0.data.toList, a2.data.toList)] := pairs_block (heap_alloc_new w1a _) (pairs_lit (by show [_, _, _, _] = [strV _, strV _, strV _, strV _]; rw [strV_of (s := a0) rfl, strV_of (s := a2) rfl]; rfl)) rfl (by simp)
                rw [hW]
                exact hp)
              have HPA := Lib.hid (show PairsAt W (fun _ => True) (.slice none 0 0) [] from PairsAt.nil _ _)
              have HSM := Lib.hid (show Small [(a0.data.toList, [102, 105, 114, 115, 116]), (a0.data.toList, a2.data.toList)] ∧ Small [] from ⟨small_of fun p hp => by
                rcases List.mem_cons.1 hp with rfl | hp
                · show (5 : Nat) ≤ 3000; omega
                · obtain rfl := List.mem_singleton.1 hp
                  show a2.data.toList.length ≤ 3000; rw [← Lib.size_eq]; omega, small_nil⟩)
              have hval : ∀ refs, refF [(a0.data.toList, [102, 105, 114, 115, 116]), (a0.data.toList, a2.data.toList)] [] 40 [] refs a0.data.toList = .ok (a2.data.toList, refs) := fun refs => by
                rw [ref_name HNM.out.1 (by have := HNM.out.2; omega)]
                exact value_free rfl (by unfold lastF; simp) (by simp) HFR.out (by rw [← Lib.size_eq]; omega)
              obtain ⟨S, hS⟩ : ∃ S, S = (⟨#[60, 36, 40]⟩ : ByteArray) ++ a0 ++ ⟨#[41, 36]⟩ ++ ⟨#[123]⟩ ++ a0 ++ ⟨#[125, 62]⟩ := ⟨_, rfl⟩
              obtain ⟨U, hU⟩ : ∃ U, U = (⟨#[36]⟩ : ByteArray) ++ a0 := ⟨_, rfl⟩
              obtain ⟨X, hX⟩ : ∃ X, X = (⟨#[60]⟩ : ByteArray) ++ a2 ++ a2 ++ ⟨#[62]⟩ := ⟨_, rfl⟩
              have hx1 := expand_any S (.slice (some ⟨w1a.heap.size, 0, none⟩) 2 2) (.slice none 0 0) [(a0.data.toList, [102, 105, 114, 115, 116]), (a0.data.toList, a2.data.toList)] [] W (by rw [hS, ba_size, ba_size, ba_size, ba_size, ba_size]; show 3 + a0.size + 2 + 1 + a0.size + 2 ≤ _; omega) HPR.out HPA.out HSM.out (gl.keep HKW.out)
              rw [show expandF [(a0.data.toList, [102, 105, 114, 115, 116]), (a0.data.toList, a2.data.toList)] [] S.data.toList = .ok X.data.toList by
                rw [hS, hX]
                simp only [ba_append]
                exact autos_text HNM.out.1 HNM.out.2 hval (by rw [← Lib.size_eq]; omega)] at hx1
              have hx2 := fun w' (hk : Keeps (fun _ => False) W w') => expand_any U (.slice (some ⟨w1a.heap.size, 0, none⟩) 2 2) (.slice none 0 0) [(a0.data.toList, [102, 105, 114, 115, 116]), (a0.data.toList, a2.data.toList)] [] w' (by rw [hU, ba_size]; show 1 + a0.size ≤ _; omega) (HPR.out.keep hk (fun _ _ _ h => h)) (HPA.out.keep hk (fun _ _ _ h => h)) HSM.out ((gl.keep HKW.out).keep hk)
              rw [show expandF [(a0.data.toList, [102, 105, 114, 115, 116]), (a0.data.toList, a2.data.toList)] [] U.data.toList = .ok a2.data.toList by
                rw [hU, ba_append]
                have h := autos_one (l := [(a0.data.toList, [102, 105, 114, 115, 116]), (a0.data.toList, a2.data.toList)]) (auto := []) (c := c) (t := []) (v := a2.data.toList) (by rw [← HCT.out]; exact HNM.out.1) (by simp) (by rw [← HCT.out]; exact hval) (by rw [← Lib.size_eq]; omega)
                rw [List.append_nil, ← HCT.out] at h
                exact h] at hx2
              have RU : ∃ R : ByteArray, R = a2 := ⟨_, rfl⟩
              obtain ⟨R, hR⟩ := RU
              have HR1 := Lib.hid (show strV a2.data.toList = .string R by rw [hR]; exact strV_of rfl)
              have hrr : (R.toList == a2.toList) = true := by rw [hR]; exact beq_self_eq_true _
              have HX1 := Lib.hid hx1
              have HX2 := Lib.hid hx2
              have HS := Lib.hid hS
              have HU := Lib.hid hU
              have HXX := Lib.hid hX
              have HW := Lib.hid hW
              have hbq : (X.toList == X.toList) = true := beq_self_eq_true _
              clear hx1 hx2 hS hU hX hW hval hR
              go_wp2_with fail
              rw [← HW.out, ← HS.out]
              refine HX1.out.mono ?_
              rintro e w4 ⟨rfl, hk4⟩
              have HK4 := Lib.hid hk4
              rw [strV_of (s := X) rfl]
              clear hk4
              go_wp2_with fail
              rw [← HU.out]
              refine (HX2.out w4 HK4.out).mono ?_
              rintro e w5 ⟨rfl, hk5⟩
              have HK5 := Lib.hid (HKW.out.trans (HK4.out.trans hk5 (fun _ _ h => h)) (fun _ _ h => h))
              rw [HR1.out]
              clear hk5
              go_wp2_with fail
              refine (num_any 0 _).mono ?_
              rintro e w6 ⟨rfl, hwn⟩
              rw [hwn]
              clear hwn
              have hxx := HXX.out
              have hb3 : (X.toList == ((⟨#[60]⟩ : ByteArray) ++ a2 ++ a2 ++ ⟨#[62]⟩).toList) = true := by rw [← hxx]; exact beq_self_eq_true _
              clear hxx
              go_wp2_with fail
              refine (num_any 0 _).mono ?_
              rintro e w7 ⟨rfl, hwn⟩
              rw [hwn]
              clear hwn
              go_wp2_with fail
              go_ret
              exact ⟨rfl, HK5.out.below0 (fun _ h => h.elim)⟩
            | cons c2 t =>
              have HCT := Lib.hid hct
              have hq1 : (1 : Int) < (a0.size : Int) := by rw [Lib.size_eq, hct]; simp only [List.length_cons]; omega
              clear hct
              obtain ⟨W, hW⟩ : ∃ W, W = w1a.alloc (.cells #[.string a0, .string ⟨#[102, 105, 114, 115, 116]⟩, .string a0, .string a2] 35) := ⟨_, rfl⟩
              have HKW := Lib.hid (show Keeps (fun _ => False) w W by rw [hW]; exact HK1.out.alloc _)
              have HPR := Lib.hid (show PairsAt W (fun _ => True) (.slice (some ⟨w1a.heap.size, 0, none⟩) 2 2) [(a0.data.toList, [102, 105, 114, 115, 116]), (a0.data.toList, a2.data.toList)] by
                have hp : PairsAt (w1a.alloc (.cells #[.string a0, .string ⟨#[102, 105, 114, 115, 116]⟩, .string a0, .string a2] 35)) (fun _ => True) (.slice (some ⟨w1a.heap.size, 0, none⟩) 2 2) [(a0.data.toList, [102, 105, 114, 115, 116]), (a0.data.toList, a2.data.toList)] := pairs_block (heap_alloc_new w1a _) (pairs_lit (by show [_, _, _, _] = [strV _, strV _, strV _, strV _]; rw [strV_of (s := a0) rfl, strV_of (s := a2) rfl]; rfl)) rfl (by simp)
                rw [hW]
                exact hp)
              have HPA := Lib.hid (show PairsAt W (fun _ => True) (.slice none 0 0) [] from PairsAt.nil _ _)
              have HSM := Lib.hid (show Small [(a0.data.toList, [102, 105, 114, 115, 116]), (a0.data.toList, a2.data.toList)] ∧ Small [] from ⟨small_of fun p hp => by
                rcases List.mem_cons.1 hp with rfl | hp
                · show (5 : Nat) ≤ 3000; omega
                · obtain rfl := List.mem_singleton.1 hp
                  show a2.data.toList.length ≤ 3000; rw [← Lib.size_eq]; omega, small_nil⟩)
              have hval : ∀ refs, refF [(a0.data.toList, [102, 105, 114, 115, 116]), (a0.data.toList, a2.data.toList)] [] 40 [] refs a0.data.toList = .ok (a2.data.toList, refs) := fun refs => by
                rw [ref_name HNM.out.1 (by have := HNM.out.2; omega)]
                exact value_free rfl (by unfold lastF; simp) (by simp) HFR.out (by rw [← Lib.size_eq]; omega)
              obtain ⟨S, hS⟩ : ∃ S, S = (⟨#[60, 36, 40]⟩ : ByteArray) ++ a0 ++ ⟨#[41, 36]⟩ ++ ⟨#[123]⟩ ++ a0 ++ ⟨#[125, 62]⟩ := ⟨_, rfl⟩
              obtain ⟨U, hU⟩ : ∃ U, U = (⟨#[36]⟩ : ByteArray) ++ a0 := ⟨_, rfl⟩
              obtain ⟨X, hX⟩ : ∃ X, X = (⟨#[60]⟩ : ByteArray) ++ a2 ++ a2 ++ ⟨#[62]⟩ := ⟨_, rfl⟩
              have hx1 := expand_any S (.slice (some ⟨w1a.heap.size, 0, none⟩) 2 2) (.slice none 0 0) [(a0.data.toList, [102, 105, 114, 115, 116]), (a0.data.toList, a2.data.toList)] [] W (by rw [hS, ba_size, ba_size, ba_size, ba_size, ba_size]; show 3 + a0.size + 2 + 1 + a0.size + 2 ≤ _; omega) HPR.out HPA.out HSM.out (gl.keep HKW.out)
              rw [show expandF [(a0.data.toList, [102, 105, 114, 115, 116]), (a0.data.toList, a2.data.toList)] [] S.data.toList = .ok X.data.toList by
                rw [hS, hX]
                simp only [ba_append]
                exact autos_text HNM.out.1 HNM.out.2 hval (by rw [← Lib.size_eq]; omega)] at hx1
              have hx2 := fun w' (hk : Keeps (fun _ => False) W w') => expand_any U (.slice (some ⟨w1a.heap.size, 0, none⟩) 2 2) (.slice none 0 0) [(a0.data.toList, [102, 105, 114, 115, 116]), (a0.data.toList, a2.data.toList)] [] w' (by rw [hU, ba_size]; show 1 + a0.size ≤ _; omega) (HPR.out.keep hk (fun _ _ _ h => h)) (HPA.out.keep hk (fun _ _ _ h => h)) HSM.out ((gl.keep HKW.out).keep hk)
              rw [show expandF [(a0.data.toList, [102, 105, 114, 115, 116]), (a0.data.toList, a2.data.toList)] [] U.data.toList = .ok (c2 :: t) by
                rw [hU, ba_append]
                have h := autos_one (l := [(a0.data.toList, [102, 105, 114, 115, 116]), (a0.data.toList, a2.data.toList)]) (auto := []) (c := c) (t := c2 :: t) (v := []) (by rw [← HCT.out]; exact HNM.out.1) (by rw [← HCT.out]; exact HNM.out.2) (fun refs => by
                  rw [ref_name (by intro x hx; exact HNM.out.1 x (by rw [HCT.out]; obtain rfl := List.mem_singleton.1 hx; exact List.mem_cons_self ..)) (by simp)]
                  exact value_none (rfl) (by unfold lastF; rw [HCT.out]; simp)) (by simp)
                rw [List.nil_append, ← HCT.out] at h
                exact h] at hx2
              have RU : ∃ R : ByteArray, R = ⟨(c2 :: t).toArray⟩ := ⟨_, rfl⟩
              obtain ⟨R, hR⟩ := RU
              have HR1 := Lib.hid (show strV (c2 :: t) = .string R by rw [hR]; rfl)
              skip
              have HX1 := Lib.hid hx1
              have HX2 := Lib.hid hx2
              have HS := Lib.hid hS
              have HU := Lib.hid hU
              have HXX := Lib.hid hX
              have HW := Lib.hid hW
              have hbq : (X.toList == X.toList) = true := beq_self_eq_true _
              clear hx1 hx2 hS hU hX hW hval hR
              go_wp2_with fail
              rw [← HW.out, ← HS.out]
              refine HX1.out.mono ?_
              rintro e w4 ⟨rfl, hk4⟩
              have HK4 := Lib.hid hk4
              rw [strV_of (s := X) rfl]
              clear hk4
              go_wp2_with fail
              rw [← HU.out]
              refine (HX2.out w4 HK4.out).mono ?_
              rintro e w5 ⟨rfl, hk5⟩
              have HK5 := Lib.hid (HKW.out.trans (HK4.out.trans hk5 (fun _ _ h => h)) (fun _ _ h => h))
              rw [HR1.out]
              clear hk5
              go_wp2_with fail
              refine (num_any 0 _).mono ?_
              rintro e w6 ⟨rfl, hwn⟩
              rw [hwn]
              clear hwn
              have hxx := HXX.out
              have hb3 : (X.toList == ((⟨#[60]⟩ : ByteArray) ++ a2 ++ a2 ++ ⟨#[62]⟩).toList) = true := by rw [← hxx]; exact beq_self_eq_true _
              clear hxx
              go_wp2_with fail
              refine (num_any 0 _).mono ?_
              rintro e w7 ⟨rfl, hwn⟩
              rw [hwn]
              clear hwn
              go_wp2_with fail
              go_ret
              exact ⟨rfl, HK5.out.below0 (fun _ h => h.elim)⟩
        | true =>
          cases hct : a0.data.toList with
          | nil => exact absurd hct HNM0.out
          | cons c tt =>
            cases tt with
            | nil =>
              have HCT := Lib.hid hct
              have hq1 : ¬ (1 : Int) < (a0.size : Int) := by rw [Lib.size_eq, hct]; simp
              clear hct
              obtain ⟨W, hW⟩ : ∃ W, W = (w1a.alloc (.cells #[.string a0, .string ⟨#[102, 105, 114, 115, 116]⟩, .string a0, .string a2] 35)).alloc (.cells #[.string a0, .string a1] 35) := ⟨_, rfl⟩
              have HKW := Lib.hid (show Keeps (fun _ => False) w W by rw [hW]; exact (HK1.out.alloc _).alloc _)
              have HPR := Lib.hid (show PairsAt W (fun _ => True) (.slice (some ⟨w1a.heap.size, 0, none⟩) 2 2) [(a0.data.toList, [102, 105, 114, 115, 116]), (a0.data.toList, a2.data.toList)] by
                have hp : PairsAt (w1a.alloc (.cells #[.string a0, .string ⟨#[102, 105, 114, 115, 116]⟩, .string a0, .string a2] 35)) (fun _ => True) (.slice (some ⟨w1a.heap.size, 0, none⟩) 2 2) [(a0.data.toList, [102, 105, 114, 115, 116]), (a0.data.toList, a2.data.toList)] := pairs_block (heap_alloc_new w1a _) (pairs_lit (by show [_, _, _, _] = [strV _, strV _, strV _, strV _]; rw [strV_of (s := a0) rfl, strV_of (s := a2) rfl]; rfl)) rfl (by simp)
                rw [hW]
                exact hp.keep ((Keeps.refl (fun _ => False) _).alloc _) (fun _ _ _ h => h))
              have HPA := Lib.hid (show PairsAt W (fun _ => True) (.slice (some ⟨w1a.heap.size + 1, 0, none⟩) 1 1) [(a0.data.toList, a1.data.toList)] by
                have hh := heap_alloc_new (w1a.alloc (.cells #[.string a0, .string ⟨#[102, 105, 114, 115, 116]⟩, .string a0, .string a2] 35)) (.cells #[.string a0, .string a1] 35)
                rw [show (w1a.alloc (.cells #[.string a0, .string ⟨#[102, 105, 114, 115, 116]⟩, .string a0, .string a2] 35)).heap.size = w1a.heap.size + 1 by simp] at hh
                rw [hW]
                exact pairs_block hh (pairs_lit (by show [_, _] = [strV _, strV _]; rw [strV_of (s := a0) rfl, strV_of (s := a1) rfl])) rfl (by simp))
              have HSM := Lib.hid (show Small [(a0.data.toList, [102, 105, 114, 115, 116]), (a0.data.toList, a2.data.toList)] ∧ Small [(a0.data.toList, a1.data.toList)] from ⟨small_of fun p hp => by
                rcases List.mem_cons.1 hp with rfl | hp
                · show (5 : Nat) ≤ 3000; omega
                · obtain rfl := List.mem_singleton.1 hp
                  show a2.data.toList.length ≤ 3000; rw [← Lib.size_eq]; omega, small_of fun p hp => by obtain rfl := List.mem_singleton.1 hp; show a1.data.toList.length ≤ 3000; rw [← Lib.size_eq]; omega⟩)
              have hval : ∀ refs, refF [(a0.data.toList, [102, 105, 114, 115, 116]), (a0.data.toList, a2.data.toList)] [(a0.data.toList, a1.data.toList)] 40 [] refs a0.data.toList = .ok (a1.data.toList, refs) := fun refs => by
                rw [ref_name HNM.out.1 (by have := HNM.out.2; omega)]
                exact value_auto (by unfold lastF; simp)
              obtain ⟨S, hS⟩ : ∃ S, S = (⟨#[60, 36, 40]⟩ : ByteArray) ++ a0 ++ ⟨#[41, 36]⟩ ++ ⟨#[123]⟩ ++ a0 ++ ⟨#[125, 62]⟩ := ⟨_, rfl⟩
              obtain ⟨U, hU⟩ : ∃ U, U = (⟨#[36]⟩ : ByteArray) ++ a0 := ⟨_, rfl⟩
              obtain ⟨X, hX⟩ : ∃ X, X = (⟨#[60]⟩ : ByteArray) ++ a1 ++ a1 ++ ⟨#[62]⟩ := ⟨_, rfl⟩
              have hx1 := expand_any S (.slice (some ⟨w1a.heap.size, 0, none⟩) 2 2) (.slice (some ⟨w1a.heap.size + 1, 0, none⟩) 1 1) [(a0.data.toList, [102, 105, 114, 115, 116]), (a0.data.toList, a2.data.toList)] [(a0.data.toList, a1.data.toList)] W (by rw [hS, ba_size, ba_size, ba_size, ba_size, ba_size]; show 3 + a0.size + 2 + 1 + a0.size + 2 ≤ _; omega) HPR.out HPA.out HSM.out (gl.keep HKW.out)
              rw [show expandF [(a0.data.toList, [102, 105, 114, 115, 116]), (a0.data.toList, a2.data.toList)] [(a0.data.toList, a1.data.toList)] S.data.toList = .ok X.data.toList by
                rw [hS, hX]
                simp only [ba_append]
                exact autos_text HNM.out.1 HNM.out.2 hval (by rw [← Lib.size_eq]; omega)] at hx1
              have hx2 := fun w' (hk : Keeps (fun _ => False) W w') => expand_any U (.slice (some ⟨w1a.heap.size, 0, none⟩) 2 2) (.slice (some ⟨w1a.heap.size + 1, 0, none⟩) 1 1) [(a0.data.toList, [102, 105, 114, 115, 116]), (a0.data.toList, a2.data.toList)] [(a0.data.toList, a1.data.toList)] w' (by rw [hU, ba_size]; show 1 + a0.size ≤ _; omega) (HPR.out.keep hk (fun _ _ _ h => h)) (HPA.out.keep hk (fun _ _ _ h => h)) HSM.out ((gl.keep HKW.out).keep hk)
              rw [show expandF [(a0.data.toList, [102, 105, 114, 115, 116]), (a0.data.toList, a2.data.toList)] [(a0.data.toList, a1.data.toList)] U.data.toList = .ok a1.data.toList by
                rw [hU, ba_append]
                have h := autos_one (l := [(a0.data.toList, [102, 105, 114, 115, 116]), (a0.data.toList, a2.data.toList)]) (auto := [(a0.data.toList, a1.data.toList)]) (c := c) (t := []) (v := a1.data.toList) (by rw [← HCT.out]; exact HNM.out.1) (by simp) (by rw [← HCT.out]; exact hval) (by rw [← Lib.size_eq]; omega)
                rw [List.append_nil, ← HCT.out] at h
                exact h] at hx2
              have RU : ∃ R : ByteArray, R = a1 := ⟨_, rfl⟩
              obtain ⟨R, hR⟩ := RU
              have HR1 := Lib.hid (show strV a1.data.toList = .string R by rw [hR]; exact strV_of rfl)
              have hrr : (R.toList == a1.toList) = true := by rw [hR]; exact beq_self_eq_true _
              have HX1 := Lib.hid hx1
              have HX2 := Lib.hid hx2
              have HS := Lib.hid hS
              have HU := Lib.hid hU
              have HXX := Lib.hid hX
              have HW := Lib.hid hW
              have hbq : (X.toList == X.toList) = true := beq_self_eq_true _
              clear hx1 hx2 hS hU hX hW hval hR
              go_wp2_with fail
              rw [← HW.out, ← HS.out]
              refine HX1.out.mono ?_
              rintro e w4 ⟨rfl, hk4⟩
              have HK4 := Lib.hid hk4
              rw [strV_of (s := X) rfl]
              clear hk4
              go_wp2_with fail
              rw [← HU.out]
              refine (HX2.out w4 HK4.out).mono ?_
              rintro e w5 ⟨rfl, hk5⟩
              have HK5 := Lib.hid (HKW.out.trans (HK4.out.trans hk5 (fun _ _ h => h)) (fun _ _ h => h))
              rw [HR1.out]
              clear hk5
              go_wp2_with fail
              refine (num_any 0 _).mono ?_
              rintro e w6 ⟨rfl, hwn⟩
              rw [hwn]
              clear hwn
              have hxx := HXX.out
              have hb3 : (X.toList == ((⟨#[60]⟩ : ByteArray) ++ a1 ++ a1 ++ ⟨#[62]⟩).toList) = true := by rw [← hxx]; exact beq_self_eq_true _
              clear hxx
              go_wp2_with fail
              refine (num_any 0 _).mono ?_
              rintro e w7 ⟨rfl, hwn⟩
              rw [hwn]
              clear hwn
              go_wp2_with fail
              go_ret
              exact ⟨rfl, HK5.out.below0 (fun _ h => h.elim)⟩
            | cons c2 t =>
              have HCT := Lib.hid hct
              have hq1 : (1 : Int) < (a0.size : Int) := by rw [Lib.size_eq, hct]; simp only [List.length_cons]; omega
              clear hct
              obtain ⟨W, hW⟩ : ∃ W, W = (w1a.alloc (.cells #[.string a0, .string ⟨#[102, 105, 114, 115, 116]⟩, .string a0, .string a2] 35)).alloc (.cells #[.string a0, .string a1] 35) := ⟨_, rfl⟩
              have HKW := Lib.hid (show Keeps (fun _ => False) w W by rw [hW]; exact (HK1.out.alloc _).alloc _)
              have HPR := Lib.hid (show PairsAt W (fun _ => True) (.slice (some ⟨w1a.heap.size, 0, none⟩) 2 2) [(a0.data.toList, [102, 105, 114, 115, 116]), (a0.data.toList, a2.data.toList)] by
                have hp : PairsAt (w1a.alloc (.cells #[.string a0, .string ⟨#[102, 105, 114, 115, 116]⟩, .string a0, .string a2] 35)) (fun _ => True) (.slice (some ⟨w1a.heap.size, 0, none⟩) 2 2) [(a0.data.toList, [102, 105, 114, 115, 116]), (a0.data.toList, a2.data.toList)] := pairs_block (heap_alloc_new w1a _) (pairs_lit (by show [_, _, _, _] = [strV _, strV _, strV _, strV _]; rw [strV_of (s := a0) rfl, strV_of (s := a2) rfl]; rfl)) rfl (by simp)
                rw [hW]
                exact hp.keep ((Keeps.refl (fun _ => False) _).alloc _) (fun _ _ _ h => h))
              have HPA := Lib.hid (show PairsAt W (fun _ => True) (.slice (some ⟨w1a.heap.size + 1, 0, none⟩) 1 1) [(a0.data.toList, a1.data.toList)] by
                have hh := heap_alloc_new (w1a.alloc (.cells #[.string a0, .string ⟨#[102, 105, 114, 115, 116]⟩, .string a0, .string a2] 35)) (.cells #[.string a0, .string a1] 35)
                rw [show (w1a.alloc (.cells #[.string a0, .string ⟨#[102, 105, 114, 115, 116]⟩, .string a0, .string a2] 35)).heap.size = w1a.heap.size + 1 by simp] at hh
                rw [hW]
                exact pairs_block hh (pairs_lit (by show [_, _] = [strV _, strV _]; rw [strV_of (s := a0) rfl, strV_of (s := a1) rfl])) rfl (by simp))
              have HSM := Lib.hid (show Small [(a0.data.toList, [102, 105, 114, 115, 116]), (a0.data.toList, a2.data.toList)] ∧ Small [(a0.data.toList, a1.data.toList)] from ⟨small_of fun p hp => by
                rcases List.mem_cons.1 hp with rfl | hp
                · show (5 : Nat) ≤ 3000; omega
                · obtain rfl := List.mem_singleton.1 hp
                  show a2.data.toList.length ≤ 3000; rw [← Lib.size_eq]; omega, small_of fun p hp => by obtain rfl := List.mem_singleton.1 hp; show a1.data.toList.length ≤ 3000; rw [← Lib.size_eq]; omega⟩)
              have hval : ∀ refs, refF [(a0.data.toList, [102, 105, 114, 115, 116]), (a0.data.toList, a2.data.toList)] [(a0.data.toList, a1.data.toList)] 40 [] refs a0.data.toList = .ok (a1.data.toList, refs) := fun refs => by
                rw [ref_name HNM.out.1 (by have := HNM.out.2; omega)]
                exact value_auto (by unfold lastF; simp)
              obtain ⟨S, hS⟩ : ∃ S, S = (⟨#[60, 36, 40]⟩ : ByteArray) ++ a0 ++ ⟨#[41, 36]⟩ ++ ⟨#[123]⟩ ++ a0 ++ ⟨#[125, 62]⟩ := ⟨_, rfl⟩
              obtain ⟨U, hU⟩ : ∃ U, U = (⟨#[36]⟩ : ByteArray) ++ a0 := ⟨_, rfl⟩
              obtain ⟨X, hX⟩ : ∃ X, X = (⟨#[60]⟩ : ByteArray) ++ a1 ++ a1 ++ ⟨#[62]⟩ := ⟨_, rfl⟩
              have hx1 := expand_any S (.slice (some ⟨w1a.heap.size, 0, none⟩) 2 2) (.slice (some ⟨w1a.heap.size + 1, 0, none⟩) 1 1) [(a0.data.toList, [102, 105, 114, 115, 116]), (a0.data.toList, a2.data.toList)] [(a0.data.toList, a1.data.toList)] W (by rw [hS, ba_size, ba_size, ba_size, ba_size, ba_size]; show 3 + a0.size + 2 + 1 + a0.size + 2 ≤ _; omega) HPR.out HPA.out HSM.out (gl.keep HKW.out)
              rw [show expandF [(a0.data.toList, [102, 105, 114, 115, 116]), (a0.data.toList, a2.data.toList)] [(a0.data.toList, a1.data.toList)] S.data.toList = .ok X.data.toList by
                rw [hS, hX]
                simp only [ba_append]
                exact autos_text HNM.out.1 HNM.out.2 hval (by rw [← Lib.size_eq]; omega)] at hx1
              have hx2 := fun w' (hk : Keeps (fun _ => False) W w') => expand_any U (.slice (some ⟨w1a.heap.size, 0, none⟩) 2 2) (.slice (some ⟨w1a.heap.size + 1, 0, none⟩) 1 1) [(a0.data.toList, [102, 105, 114, 115, 116]), (a0.data.toList, a2.data.toList)] [(a0.data.toList, a1.data.toList)] w' (by rw [hU, ba_size]; show 1 + a0.size ≤ _; omega) (HPR.out.keep hk (fun _ _ _ h => h)) (HPA.out.keep hk (fun _ _ _ h => h)) HSM.out ((gl.keep HKW.out).keep hk)
              rw [show expandF [(a0.data.toList, [102, 105, 114, 115, 116]), (a0.data.toList, a2.data.toList)] [(a0.data.toList, a1.data.toList)] U.data.toList = .ok (c2 :: t) by
                rw [hU, ba_append]
                have h := autos_one (l := [(a0.data.toList, [102, 105, 114, 115, 116]), (a0.data.toList, a2.data.toList)]) (auto := [(a0.data.toList, a1.data.toList)]) (c := c) (t := c2 :: t) (v := []) (by rw [← HCT.out]; exact HNM.out.1) (by rw [← HCT.out]; exact HNM.out.2) (fun refs => by
                  rw [ref_name (by intro x hx; exact HNM.out.1 x (by rw [HCT.out]; obtain rfl := List.mem_singleton.1 hx; exact List.mem_cons_self ..)) (by simp)]
                  exact value_none (by unfold lastF; rw [HCT.out]; simp) (by unfold lastF; rw [HCT.out]; simp)) (by simp)
                rw [List.nil_append, ← HCT.out] at h
                exact h] at hx2
              have RU : ∃ R : ByteArray, R = ⟨(c2 :: t).toArray⟩ := ⟨_, rfl⟩
              obtain ⟨R, hR⟩ := RU
              have HR1 := Lib.hid (show strV (c2 :: t) = .string R by rw [hR]; rfl)
              skip
              have HX1 := Lib.hid hx1
              have HX2 := Lib.hid hx2
              have HS := Lib.hid hS
              have HU := Lib.hid hU
              have HXX := Lib.hid hX
              have HW := Lib.hid hW
              have hbq : (X.toList == X.toList) = true := beq_self_eq_true _
              clear hx1 hx2 hS hU hX hW hval hR
              go_wp2_with fail
              rw [← HW.out, ← HS.out]
              refine HX1.out.mono ?_
              rintro e w4 ⟨rfl, hk4⟩
              have HK4 := Lib.hid hk4
              rw [strV_of (s := X) rfl]
              clear hk4
              go_wp2_with fail
              rw [← HU.out]
              refine (HX2.out w4 HK4.out).mono ?_
              rintro e w5 ⟨rfl, hk5⟩
              have HK5 := Lib.hid (HKW.out.trans (HK4.out.trans hk5 (fun _ _ h => h)) (fun _ _ h => h))
              rw [HR1.out]
              clear hk5
              go_wp2_with fail
              refine (num_any 0 _).mono ?_
              rintro e w6 ⟨rfl, hwn⟩
              rw [hwn]
              clear hwn
              have hxx := HXX.out
              have hb3 : (X.toList == ((⟨#[60]⟩ : ByteArray) ++ a1 ++ a1 ++ ⟨#[62]⟩).toList) = true := by rw [← hxx]; exact beq_self_eq_true _
              clear hxx
              go_wp2_with fail
              refine (num_any 0 _).mono ?_
              rintro e w7 ⟨rfl, hwn⟩
              rw [hwn]
              clear hwn
              go_wp2_with fail
              go_ret
              exact ⟨rfl, HK5.out.below0 (fun _ h => h.elim)⟩
end Go.Proofs.Ytglppnpllpfaeaa
