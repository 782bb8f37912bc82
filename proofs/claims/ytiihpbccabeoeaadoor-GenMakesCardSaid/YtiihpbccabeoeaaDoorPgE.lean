/-
  The contracts of the document's GenMakefile and GenScript.
-/
import Derived.Test.YtiihpbccabeoeaaDoorPgD
namespace Go.Proofs.YtiihpbccabeoeaaDoor
open Go.RowKit Go.Joins
set_option linter.unusedVariables false

def ten27 : ByteArray := ⟨#[48, 49, 50, 51, 52, 53, 54, 55, 56, 57]⟩
theorem ten27_at (r : Nat) (h : r ≤ 9) : (ten27.extract r (r + 1)).data.toList = [UInt8.ofNat (48 + r)] := by
  have : ∀ r : Fin 10, (ten27.extract r.val (r.val + 1)).data.toList = [UInt8.ofNat (48 + r.val)] := by decide +kernel
  exact this ⟨r, by omega⟩
def Dig27 (w : World) (n : Nat) (e : Ending) (w' : World) : Prop := ∃ D : ByteArray, e = .returned (.string D) ∧ D.data.toList = Lib.decDigits n ∧ w' = w
theorem dig27_one (n : Nat) (h : n ≤ 9) (w : World) : Calls Tryd.prog 20 #[.int .i64 n] w (Dig27 w n) := by
  have h10 : (n : Int).tmod 10 = (n : Int) := by
    rw [show (n : Int).tmod 10 = ((n % 10 : Nat) : Int) from rfl, Nat.mod_eq_of_lt (by omega)]
  have ew : IntKind.i64.wrap ((n : Int) + 1) = (n : Int) + 1 := IntWalk.i64_in _ (by omega)
  have q1 : (n : Int) ≤ (n : Int) + 1 := by omega
  have q2 : (n : Int) + 1 ≤ 10 := by omega
  have q3 : ((n : Int) + 1).toNat = n + 1 := by omega
  have q4 : ¬ (9 : Int) < (n : Int) := by omega
  go_enter Tryd.func20, Tryd.ntmps20
  go_wp2_with fail
  go_ret
  refine ⟨_, rfl, ?_, rfl⟩
  rw [Lib.decDigits, dif_pos (by omega)]
  exact ten27_at n h
theorem dig27_any (n : Nat) (h : n ≤ 99) (w : World) : Calls Tryd.prog 20 #[.int .i64 n] w (Dig27 w n) := by
  by_cases h9 : n ≤ 9
  · exact dig27_one n h9 w
  · obtain ⟨r, hr⟩ : ∃ r, r = n % 10 := ⟨_, rfl⟩
    obtain ⟨q, hq⟩ : ∃ q, q = n / 10 := ⟨_, rfl⟩
    have h10 : (n : Int).tmod 10 = (r : Int) := by rw [hr]; rfl
    have h11 : (n : Int).tdiv 10 = (q : Int) := by rw [hq]; rfl
    have hr9 : r ≤ 9 := by omega
    have hq9 : q ≤ 9 := by omega
    have ew : IntKind.i64.wrap ((r : Int) + 1) = (r : Int) + 1 := IntWalk.i64_in _ (by omega)
    have ew2 : IntKind.i64.wrap (q : Int) = (q : Int) := IntWalk.i64_in _ (by omega)
    have q1 : (r : Int) ≤ (r : Int) + 1 := by omega
    have q2 : (r : Int) + 1 ≤ 10 := by omega
    have q3 : ((r : Int) + 1).toNat = r + 1 := by omega
    have q4 : (9 : Int) < (n : Int) := by omega
    have HF := Lib.hid (show Lib.decDigits n = Lib.decDigits q ++ [UInt8.ofNat (48 + r)] by rw [Lib.decDigits, dif_neg (by omega), hr, hq])
    have HQL := Lib.hid (dec_len q (by omega))
    clear hr hq h9
    go_enter Tryd.func20, Tryd.ntmps20
    go_wp2_with fail
    refine (dig27_one q hq9 _).mono ?_
    rintro e w1 ⟨D, rfl, hD, hw1⟩
    have HD := Lib.hid hD
    have hDs : D.size ≤ 2 := by rw [Lib.size_eq, hD]; exact HQL.out
    rw [hw1]
    clear hD hw1
    go_wp2_with fail
    go_ret
    refine ⟨_, rfl, ?_, rfl⟩
    rw [HF.out, ByteArray.data_append, Array.toList_append, HD.out]
    exact congrArg _ (ten27_at r hr9)
theorem within_any (n : Int) (m : Nat) (w : World) :
    Calls Tryd.prog 18 #[.int .i64 n, .int .i64 m] w fun e w' => e = .returned (.int .i64 (clamp n m : Nat)) ∧ w' = w := by
  unfold clamp
  by_cases h0 : n < 0
  · have e0 : min n.toNat m = 0 := by omega
    rw [e0]
    go_enter Tryd.func18, Tryd.ntmps18
    go_wp2_with fail
    go_ret
    exact ⟨rfl, rfl⟩
  · by_cases h1 : (m : Int) < n
    · have e0 : min n.toNat m = m := by omega
      rw [e0]
      go_enter Tryd.func18, Tryd.ntmps18
      go_wp2_with fail
      go_ret
      exact ⟨rfl, rfl⟩
    · have e0 : ((min n.toNat m : Nat) : Int) = n := by omega
      rw [e0]
      go_enter Tryd.func18, Tryd.ntmps18
      go_wp2_with fail
      go_ret
      exact ⟨rfl, rfl⟩


set_option maxRecDepth 100000 in
set_option maxHeartbeats 4000000 in
theorem script_ref (s n : Int) (w : World) :
    Calls Tryd.prog 9 #[.int .i64 s, .int .i64 n] w fun e w' => e = .returned (.string ⟨(scrG (clamp n 100) (low s)).1.toArray⟩) ∧ Below w.heap.size w w' := by
  obtain ⟨z, hz⟩ : ∃ z, z = clamp n 100 := ⟨_, rfl⟩
  have hz50 : z ≤ 100 := by rw [hz]; exact clamp_le _ _
  rw [← hz]
  have HZ := Lib.hid hz; clear hz
  obtain ⟨s0, hs0⟩ : ∃ s0, s0 = low s := ⟨_, rfl⟩
  have HS0 := Lib.hid hs0; clear hs0
  go_enter Tryd.func9, Tryd.ntmps9
  go_wp2_with fail
  refine (within_any n 100 _).mono ?_
  rintro e w9 ⟨rfl, hw9⟩
  rw [hw9, ← HZ.out]
  clear hw9
  go_wp2_with fail
  refine (rnew_any s _).mono ?_
  rintro e w1 ⟨rfl, T, rfl⟩
  rw [← HS0.out]
  have hl0 := LotAt.new w s0 T
  have hbel0 := (Below.refl w.heap.size w).alloc (Nat.le_refl _) (.cells #[.int .i64 s0] T)
  obtain ⟨w2, hw2⟩ : ∃ w2, w2 = w.alloc (.cells #[.int .i64 s0] T) := ⟨_, rfl⟩
  rw [← hw2] at hl0 hbel0 ⊢
  clear hw2
  have HL0 := Lib.hid hl0; have HBE0 := Lib.hid hbel0
  clear hl0 hbel0
  obtain ⟨L, hL⟩ : ∃ L, L = w.heap.size := ⟨_, rfl⟩
  rw [← hL] at HL0 HBE0 ⊢
  have HLW := Lib.hid hL; clear hL
  go_wp2_with fail
  go_loopw [6, 7] (fun sv i wr => ∃ (k : Nat) (S : ByteArray), k ≤ z ∧ i = .int .i64 k ∧ sv = .string S ∧ Hid (S.data.toList = (scrG k s0).1) ∧ Hid (LotAt wr L (scrG k s0).2) ∧ Hid (Below L w wr)) (fun sv i _ => z - (intOf i).toNat)
  case atStart => exact ⟨0, ⟨#[]⟩, Nat.zero_le _, rfl, rfl, Lib.hid rfl, HL0, HBE0⟩
  case round =>
    obtain ⟨k, S, hk, rfl, rfl, HS, HL, HBE⟩ := hrel
    clear HL0 HBE0
    have hml := scrG_len k s0
    have hSs : S.size ≤ 31 * 100 := by rw [Lib.size_eq, HS.out]; omega
    by_cases hlt : k < z
    · obtain ⟨acc, hacc⟩ : ∃ acc, acc = (scrG k s0).1 := ⟨_, rfl⟩
      obtain ⟨s1, hs1⟩ : ∃ s1, s1 = (scrG k s0).2 := ⟨_, rfl⟩
      rw [← hacc] at HS hml
      rw [← hs1] at HL
      have HACC := Lib.hid hacc; have HS1 := Lib.hid hs1
      clear hacc hs1 hml
      go_wp2_with fail
      refine (rnext_lot L s1 6 _ HL.out).mono ?_
      rintro e w5 ⟨rfl, hl, hg⟩
      obtain ⟨u, hv, ub⟩ := nextV6 s1
      rw [hv]
      have HVu := Lib.hid hv; clear hv
      have hLt := HL.out.lt
      replace HL := Lib.hid hl
      replace HBE := Lib.hid (HBE.out.grown hg (by omega) (by simp))
      clear hl hg hLt
      have hu7 : u = 5 ∨ u = 0 ∨ u = 1 ∨ u = 2 ∨ u = 3 ∨ u = 4 := by omega
      obtain ⟨s2, hs2⟩ : ∃ s2, s2 = nextS s1 := ⟨_, rfl⟩
      rcases hu7 with rfl | rfl | rfl | rfl | rfl | rfl
      · have HF := Lib.hid (show lineF s1 = (lineS 5 [], nextS s1) by unfold lineF; rw [HVu.out]; rfl)
        clear hs2
        go_wp2_with fail
        go_roundw
        case rel => exact ⟨k + 1, _, by omega, by go_num, rfl, Lib.hid (by simp only [scrG]; rw [← HACC.out, ← HS1.out, HF.out]; simp [lineS, HS.out]), Lib.hid (by simp only [scrG]; rw [← HS1.out, HF.out]; exact HL.out), HBE⟩
        case measure => simp [intOf]; omega
      · have HF := Lib.hid (show ∀ a : Nat, nextV (nextS s1) 4 = a → lineF s1 = (lineS 0 (Lib.decDigits a), nextS (nextS s1)) from fun a h => by unfold lineF; rw [HVu.out, h]; rfl)
        clear hs2
        go_wp2_with fail
        refine (rnext_lot L (nextS s1) 4 _ HL.out).mono ?_
        rintro e w6 ⟨rfl, hl, hg⟩
        obtain ⟨a, hv, ab⟩ := nextV4 (nextS s1)
        rw [hv]
        have HVa := Lib.hid hv; clear hv
        have hLt := HL.out.lt
        replace HL := Lib.hid hl
        replace HBE := Lib.hid (HBE.out.grown hg (by omega) (by simp))
        clear hl hg hLt
        replace HF := Lib.hid (HF.out a HVa.out)
        go_wp2_with fail
        refine (dig27_any a (by omega) _).mono ?_
        rintro e w7 ⟨D, rfl, hD, hw9⟩
        rw [hw9]
        have HD := Lib.hid hD
        have hDs : D.size ≤ 2 := by rw [Lib.size_eq, hD]; exact dec_len _ (by omega)
        clear hD hw9
        go_wp2_with fail
        go_roundw
        case rel => exact ⟨k + 1, _, by omega, by go_num, rfl, Lib.hid (by simp only [scrG]; rw [← HACC.out, ← HS1.out, HF.out]; simp [lineS, HS.out, HD.out]), Lib.hid (by simp only [scrG]; rw [← HS1.out, HF.out]; exact HL.out), HBE⟩
        case measure => simp [intOf]; omega
      · have HF := Lib.hid (show ∀ a : Nat, nextV (nextS s1) 4 = a → lineF s1 = (lineS 1 (Lib.decDigits a), nextS (nextS s1)) from fun a h => by unfold lineF; rw [HVu.out, h]; rfl)
        clear hs2
        go_wp2_with fail
        refine (rnext_lot L (nextS s1) 4 _ HL.out).mono ?_
        rintro e w6 ⟨rfl, hl, hg⟩
        obtain ⟨a, hv, ab⟩ := nextV4 (nextS s1)
        rw [hv]
        have HVa := Lib.hid hv; clear hv
        have hLt := HL.out.lt
        replace HL := Lib.hid hl
        replace HBE := Lib.hid (HBE.out.grown hg (by omega) (by simp))
        clear hl hg hLt
        replace HF := Lib.hid (HF.out a HVa.out)
        go_wp2_with fail
        refine (dig27_any a (by omega) _).mono ?_
        rintro e w7 ⟨D, rfl, hD, hw9⟩
        rw [hw9]
        have HD := Lib.hid hD
        have hDs : D.size ≤ 2 := by rw [Lib.size_eq, hD]; exact dec_len _ (by omega)
        clear hD hw9
        go_wp2_with fail
        go_roundw
        case rel => exact ⟨k + 1, _, by omega, by go_num, rfl, Lib.hid (by simp only [scrG]; rw [← HACC.out, ← HS1.out, HF.out]; simp [lineS, HS.out, HD.out]), Lib.hid (by simp only [scrG]; rw [← HS1.out, HF.out]; exact HL.out), HBE⟩
        case measure => simp [intOf]; omega
      · have HF := Lib.hid (show ∀ a : Nat, nextV (nextS s1) 4 = a → lineF s1 = (lineS 2 (Lib.decDigits a), nextS (nextS s1)) from fun a h => by unfold lineF; rw [HVu.out, h]; rfl)
        clear hs2
        go_wp2_with fail
        refine (rnext_lot L (nextS s1) 4 _ HL.out).mono ?_
        rintro e w6 ⟨rfl, hl, hg⟩
        obtain ⟨a, hv, ab⟩ := nextV4 (nextS s1)
        rw [hv]
        have HVa := Lib.hid hv; clear hv
        have hLt := HL.out.lt
        replace HL := Lib.hid hl
        replace HBE := Lib.hid (HBE.out.grown hg (by omega) (by simp))
        clear hl hg hLt
        replace HF := Lib.hid (HF.out a HVa.out)
        go_wp2_with fail
        refine (dig27_any a (by omega) _).mono ?_
        rintro e w7 ⟨D, rfl, hD, hw9⟩
        rw [hw9]
        have HD := Lib.hid hD
        have hDs : D.size ≤ 2 := by rw [Lib.size_eq, hD]; exact dec_len _ (by omega)
        clear hD hw9
        go_wp2_with fail
        go_roundw
        case rel => exact ⟨k + 1, _, by omega, by go_num, rfl, Lib.hid (by simp only [scrG]; rw [← HACC.out, ← HS1.out, HF.out]; simp [lineS, HS.out, HD.out]), Lib.hid (by simp only [scrG]; rw [← HS1.out, HF.out]; exact HL.out), HBE⟩
        case measure => simp [intOf]; omega
      · have HF := Lib.hid (show ∀ a : Nat, nextV (nextS s1) 4 = a → lineF s1 = (lineS 3 (Lib.decDigits a), nextS (nextS s1)) from fun a h => by unfold lineF; rw [HVu.out, h]; rfl)
        clear hs2
        go_wp2_with fail
        refine (rnext_lot L (nextS s1) 4 _ HL.out).mono ?_
        rintro e w6 ⟨rfl, hl, hg⟩
        obtain ⟨a, hv, ab⟩ := nextV4 (nextS s1)
        rw [hv]
        have HVa := Lib.hid hv; clear hv
        have hLt := HL.out.lt
        replace HL := Lib.hid hl
        replace HBE := Lib.hid (HBE.out.grown hg (by omega) (by simp))
        clear hl hg hLt
        replace HF := Lib.hid (HF.out a HVa.out)
        go_wp2_with fail
        refine (dig27_any a (by omega) _).mono ?_
        rintro e w7 ⟨D, rfl, hD, hw9⟩
        rw [hw9]
        have HD := Lib.hid hD
        have hDs : D.size ≤ 2 := by rw [Lib.size_eq, hD]; exact dec_len _ (by omega)
        clear hD hw9
        go_wp2_with fail
        go_roundw
        case rel => exact ⟨k + 1, _, by omega, by go_num, rfl, Lib.hid (by simp only [scrG]; rw [← HACC.out, ← HS1.out, HF.out]; simp [lineS, HS.out, HD.out]), Lib.hid (by simp only [scrG]; rw [← HS1.out, HF.out]; exact HL.out), HBE⟩
        case measure => simp [intOf]; omega
      · have HF := Lib.hid (show ∀ a : Nat, nextV (nextS s1) 4 = a → lineF s1 = (lineS 4 (Lib.decDigits a), nextS (nextS s1)) from fun a h => by unfold lineF; rw [HVu.out, h]; rfl)
        clear hs2
        go_wp2_with fail
        refine (rnext_lot L (nextS s1) 4 _ HL.out).mono ?_
        rintro e w6 ⟨rfl, hl, hg⟩
        obtain ⟨a, hv, ab⟩ := nextV4 (nextS s1)
        rw [hv]
        have HVa := Lib.hid hv; clear hv
        have hLt := HL.out.lt
        replace HL := Lib.hid hl
        replace HBE := Lib.hid (HBE.out.grown hg (by omega) (by simp))
        clear hl hg hLt
        replace HF := Lib.hid (HF.out a HVa.out)
        go_wp2_with fail
        refine (dig27_any a (by omega) _).mono ?_
        rintro e w7 ⟨D, rfl, hD, hw9⟩
        rw [hw9]
        have HD := Lib.hid hD
        have hDs : D.size ≤ 2 := by rw [Lib.size_eq, hD]; exact dec_len _ (by omega)
        clear hD hw9
        go_wp2_with fail
        go_roundw
        case rel => exact ⟨k + 1, _, by omega, by go_num, rfl, Lib.hid (by simp only [scrG]; rw [← HACC.out, ← HS1.out, HF.out]; simp [lineS, HS.out, HD.out]), Lib.hid (by simp only [scrG]; rw [← HS1.out, HF.out]; exact HL.out), HBE⟩
        case measure => simp [intOf]; omega
    · obtain rfl : k = z := by omega
      go_wp2_with fail
      go_ret
      refine ⟨?_, by rw [← HLW.out]; exact HBE.out⟩
      rw [← HS0.out, ← HS.out]
      rfl

set_option maxRecDepth 100000 in
set_option maxHeartbeats 4000000 in
theorem makefile_ref (s n : Int) (w : World) :
    Calls Tryd.prog 8 #[.int .i64 s, .int .i64 n] w fun e w' => e = .returned (.string ⟨(makeF (clamp n 50) (clamp n 50) (low s)).1.toArray⟩) ∧ Below w.heap.size w w' := by
  obtain ⟨z, hz⟩ : ∃ z, z = clamp n 50 := ⟨_, rfl⟩
  have hz50 : z ≤ 50 := by rw [hz]; exact clamp_le _ _
  rw [← hz]
  have HZ := Lib.hid hz; clear hz
  obtain ⟨s0, hs0⟩ : ∃ s0, s0 = low s := ⟨_, rfl⟩
  have HS0 := Lib.hid hs0; clear hs0
  go_enter Tryd.func8, Tryd.ntmps8
  go_wp2_with fail
  refine (within_any n 50 _).mono ?_
  rintro e w9 ⟨rfl, hw9⟩
  rw [hw9, ← HZ.out]
  clear hw9
  go_wp2_with fail
  refine (rnew_any s _).mono ?_
  rintro e w1 ⟨rfl, T, rfl⟩
  rw [← HS0.out]
  have hl0 := LotAt.new w s0 T
  have hbel0 := (Below.refl w.heap.size w).alloc (Nat.le_refl _) (.cells #[.int .i64 s0] T)
  obtain ⟨w2, hw2⟩ : ∃ w2, w2 = w.alloc (.cells #[.int .i64 s0] T) := ⟨_, rfl⟩
  rw [← hw2] at hl0 hbel0 ⊢
  clear hw2
  have HL0 := Lib.hid hl0; have HBE0 := Lib.hid hbel0
  clear hl0 hbel0
  obtain ⟨L, hL⟩ : ∃ L, L = w.heap.size := ⟨_, rfl⟩
  rw [← hL] at HL0 HBE0 ⊢
  have HLW := Lib.hid hL; clear hL
  go_wp2_with fail
  go_loopw [6, 7] (fun sv i wr => ∃ (k : Nat) (S : ByteArray), k ≤ z ∧ i = .int .i64 k ∧ sv = .string S ∧ Hid (S.data.toList = (makeF z k s0).1) ∧ Hid (LotAt wr L (makeF z k s0).2) ∧ Hid (Below L w wr)) (fun sv i _ => z - (intOf i).toNat)
  case atStart => exact ⟨0, ⟨#[]⟩, Nat.zero_le _, rfl, rfl, Lib.hid rfl, HL0, HBE0⟩
  case round =>
    obtain ⟨k, S, hk, rfl, rfl, HS, HL, HBE⟩ := hrel
    clear HL0 HBE0
    have hml := makeF_len z k s0 (by omega) hz50
    have hSs : S.size ≤ 40 * 50 := by rw [Lib.size_eq, HS.out]; omega
    by_cases hlt : k < z
    · obtain ⟨acc, hacc⟩ : ∃ acc, acc = (makeF z k s0).1 := ⟨_, rfl⟩
      obtain ⟨s1, hs1⟩ : ∃ s1, s1 = (makeF z k s0).2 := ⟨_, rfl⟩
      rw [← hacc] at HS hml
      rw [← hs1] at HL
      have HACC := Lib.hid hacc; have HS1 := Lib.hid hs1
      clear hacc hs1 hml
      go_wp2_with fail
      refine (dig27_any k (by omega) _).mono ?_
      rintro e w4 ⟨D, rfl, hD, hw9⟩
      rw [hw9]
      have HD := Lib.hid hD
      have hDs : D.size ≤ 2 := by rw [Lib.size_eq, hD]; exact dec_len _ (by omega)
      clear hD hw9
      go_wp2_with fail
      refine (rnext_lot L s1 3 _ HL.out).mono ?_
      rintro e w5 ⟨rfl, hl, hg⟩
      obtain ⟨v, hv, vb⟩ := nextV3 s1
      rw [hv]
      have HVv := Lib.hid hv; clear hv
      have hLt := HL.out.lt
      replace HL := Lib.hid hl
      replace HBE := Lib.hid (HBE.out.grown hg (by omega) (by simp))
      clear hl hg hLt
      have HF := Lib.hid (show tgtF k z s1 = (headF k ++ (needsF k z v (nextS s1)).1 ++ tailF k v, (needsF k z v (nextS s1)).2) by unfold tgtF; rw [HVv.out]; simp)
      obtain ⟨s2, hs2⟩ : ∃ s2, s2 = nextS s1 := ⟨_, rfl⟩
      rw [← hs2] at HF HL
      clear hs2
      obtain ⟨S2, hS2⟩ : ∃ S2, S2 = S ++ ⟨#[116]⟩ ++ D ++ ⟨#[58]⟩ := ⟨_, rfl⟩
      have HS2 := Lib.hid (show S2.data.toList = acc ++ headF k by rw [hS2]; simp [headF, HS.out, HD.out])
      have hS2s : S2.size ≤ 2010 := by rw [hS2]; simp [ByteArray.size_append, show (⟨#[116]⟩ : ByteArray).size = 1 from rfl, show (⟨#[58]⟩ : ByteArray).size = 1 from rfl]; omega
      rw [← hS2]
      clear hS2
      go_wp2_with fail
      go_loopw [6, 9] (fun sv i wr => ∃ (j : Nat) (X : ByteArray), j ≤ v ∧ i = .int .i64 j ∧ sv = .string X ∧ Hid (X.data.toList = acc ++ headF k ++ (needsF k z j s2).1) ∧ Hid (LotAt wr L (needsF k z j s2).2) ∧ Hid (Below L w wr)) (fun sv i _ => v - (intOf i).toNat)
      case atStart => exact ⟨0, S2, Nat.zero_le _, rfl, rfl, Lib.hid (by simpa [needsF] using HS2.out), HL, HBE⟩
      case round =>
        clear HL HBE
        obtain ⟨j, X, hj, rfl, rfl, HX, HL, HBE⟩ := hrel
        have hnl := needsF_len k z j s2 (by omega) hz50
        have hXs : X.size ≤ 2100 := by
          have h9 := HS2.out
          rw [Lib.size_eq, HX.out, ← h9, List.length_append, ← Lib.size_eq]
          omega
        by_cases hlt2 : j < v
        · obtain ⟨acc2, hacc2⟩ : ∃ acc2, acc2 = (needsF k z j s2).1 := ⟨_, rfl⟩
          obtain ⟨s3, hs3⟩ : ∃ s3, s3 = (needsF k z j s2).2 := ⟨_, rfl⟩
          rw [← hacc2] at HX hnl
          rw [← hs3] at HL
          have HACC2 := Lib.hid hacc2; have HS3 := Lib.hid hs3
          clear hacc2 hs3 hnl
          go_wp2_with fail
          refine (rnext_lot L s3 3 _ HL.out).mono ?_
          rintro e w6 ⟨rfl, hl, hg⟩
          obtain ⟨u, hv, ub⟩ := nextV3 s3
          rw [hv]
          have HVu := Lib.hid hv; clear hv
          have hLt := HL.out.lt
          replace HL := Lib.hid hl
          replace HBE := Lib.hid (HBE.out.grown hg (by omega) (by simp))
          clear hl hg hLt
          have ex : IntKind.i64.wrap ((k : Int) + 1 + (u : Int)) = ((k + 1 + u : Nat) : Int) := by rw [IntWalk.i64_in _ (by omega)]; omega
          have ex2 : IntKind.i64.wrap ((k : Int) + 1) = (k : Int) + 1 := IntWalk.i64_in _ (by omega)
          have ex3 : (k : Int) + 1 + (u : Int) = ((k + 1 + u : Nat) : Int) := by omega
          obtain ⟨q, hq⟩ : ∃ q, q = k + 1 + u := ⟨_, rfl⟩
          rw [← hq] at ex ex3
          have HQ := Lib.hid hq
          have hqb : q ≤ 60 := by omega
          clear hq
          by_cases hqz : q < z
          · have HG := Lib.hid (show needF k z s3 = ([32, 116] ++ Lib.decDigits q, nextS s3) by unfold needF; rw [HVu.out, HQ.out]; exact if_pos (by rw [HQ.out] at hqz; exact hqz))
            have hqi : (q : Int) < (z : Int) := by omega
            go_wp2_with fail
            refine (dig27_any q (by omega) _).mono ?_
            rintro e w7 ⟨D2, rfl, hD, hw9⟩
            rw [hw9]
            have HD2 := Lib.hid hD
            have hD2s : D2.size ≤ 2 := by rw [Lib.size_eq, hD]; exact dec_len _ (by omega)
            clear hD hw9
            go_wp2_with fail
            go_roundw
            case rel => exact ⟨j + 1, _, by omega, by go_num, rfl, Lib.hid (by simp only [needsF]; rw [← HACC2.out, ← HS3.out, HG.out]; simp [HX.out, HD2.out]), Lib.hid (by simp only [needsF]; rw [← HS3.out, HG.out]; exact HL.out), HBE⟩
            case measure => simp [intOf]; omega
          · have HG := Lib.hid (show ∀ a : Nat, nextV (nextS s3) 3 = a → needF k z s3 = ([32, 115] ++ Lib.decDigits a, nextS (nextS s3)) from fun a h => by unfold needF; rw [HVu.out, h]; exact if_neg (by rw [HQ.out] at hqz; exact hqz))
            have hqi : ¬ (q : Int) < (z : Int) := by omega
            go_wp2_with fail
            refine (rnext_lot L (nextS s3) 3 _ HL.out).mono ?_
            rintro e w7 ⟨rfl, hl, hg⟩
            obtain ⟨a, hv, ab⟩ := nextV3 (nextS s3)
            rw [hv]
            have HVa := Lib.hid hv; clear hv
            have hLt := HL.out.lt
            replace HL := Lib.hid hl
            replace HBE := Lib.hid (HBE.out.grown hg (by omega) (by simp))
            clear hl hg hLt
            replace HG := Lib.hid (HG.out a HVa.out)
            go_wp2_with fail
            refine (dig27_any a (by omega) _).mono ?_
            rintro e w8 ⟨D2, rfl, hD, hw9⟩
            rw [hw9]
            have HD2 := Lib.hid hD
            have hD2s : D2.size ≤ 2 := by rw [Lib.size_eq, hD]; exact dec_len _ (by omega)
            clear hD hw9
            go_wp2_with fail
            go_roundw
            case rel => exact ⟨j + 1, _, by omega, by go_num, rfl, Lib.hid (by simp only [needsF]; rw [← HACC2.out, ← HS3.out, HG.out]; simp [HX.out, HD2.out]), Lib.hid (by simp only [needsF]; rw [← HS3.out, HG.out]; exact HL.out), HBE⟩
            case measure => simp [intOf]; omega
        · obtain rfl : j = v := by omega
          by_cases hv0 : 0 < j
          · have HT := Lib.hid (show tailF k j = [10, 9, 99, 97, 116, 32, 36, 94, 32, 62, 32, 36, 64, 10] by unfold tailF; rw [if_pos hv0])
            go_wp2_with fail
            go_roundw
            case rel => exact ⟨k + 1, _, by omega, by go_num, rfl, Lib.hid (by simp only [makeF]; rw [← HACC.out, ← HS1.out, HF.out, HT.out]; simp [HX.out]), Lib.hid (by simp only [makeF]; rw [← HS1.out, HF.out]; exact HL.out), HBE⟩
            case measure => simp [intOf]; omega
          · have HT := Lib.hid (show tailF k j = [10, 9, 101, 99, 104, 111, 32] ++ Lib.decDigits k ++ [32, 62, 32, 36, 64, 10] by unfold tailF; rw [if_neg hv0])
            go_wp2_with fail
            refine (dig27_any k (by omega) _).mono ?_
            rintro e w7 ⟨D2, rfl, hD, hw9⟩
            rw [hw9]
            have HD2 := Lib.hid hD
            have hD2s : D2.size ≤ 2 := by rw [Lib.size_eq, hD]; exact dec_len _ (by omega)
            clear hD hw9
            go_wp2_with fail
            go_roundw
            case rel => exact ⟨k + 1, _, by omega, by go_num, rfl, Lib.hid (by simp only [makeF]; rw [← HACC.out, ← HS1.out, HF.out, HT.out]; simp [HX.out, HD2.out]), Lib.hid (by simp only [makeF]; rw [← HS1.out, HF.out]; exact HL.out), HBE⟩
            case measure => simp [intOf]; omega
    · obtain rfl : k = z := by omega
      go_wp2_with fail
      go_ret
      refine ⟨?_, by rw [← HLW.out]; exact HBE.out⟩
      rw [← HS0.out, ← HS.out]
      rfl
end Go.Proofs.YtiihpbccabeoeaaDoor
