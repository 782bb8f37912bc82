/-
  The contracts of gen's lines and scripts.
-/
import Derived.Test.YtiihpbccabeoeaaDoorPgA
namespace Go.Proofs.YtiihpbccabeoeaaDoor
open Go.RowKit Go.Joins
set_option linter.unusedVariables false

/-- A line of each kind. -/
def lineS (k : Nat) (D : List UInt8) : List UInt8 := match k with
  | 0 => [101, 99, 104, 111, 32] ++ D
  | 1 => [120, 61] ++ D
  | 2 => [101, 99, 104, 111, 32, 36, 120, 32, 62, 32, 102] ++ D
  | 3 => [99, 97, 116, 32, 102] ++ D
  | 4 => [116, 101, 115, 116, 32, 45, 101, 32, 102] ++ D ++ [32, 38, 38, 32, 101, 99, 104, 111, 32, 121]
  | _ => [102, 111, 114, 32, 105, 32, 105, 110, 32, 49, 32, 50, 59, 32, 100, 111, 32, 101, 99, 104, 111, 32, 36, 105, 59, 32, 100, 111, 110, 101]
/-- A line that a state tells, and the state behind it. -/
def lineF (s : Int) : List UInt8 × Int :=
  if (nextV s 6).toNat = 5 then (lineS 5 [], nextS s) else (lineS (nextV s 6).toNat (Lib.decDigits (nextV (nextS s) 4).toNat), nextS (nextS s))
def scrG : Nat → Int → List UInt8 × Int
  | 0, s => ([], s)
  | i + 1, s => ((scrG i s).1 ++ ((lineF (scrG i s).2).1 ++ [10]), (lineF (scrG i s).2).2)
theorem lineS_len (k : Nat) (D : List UInt8) (h : D.length ≤ 2) : (lineS k D).length ≤ 30 := by
  unfold lineS
  split <;> simp <;> omega
theorem lineF_len (s : Int) : (lineF s).1.length ≤ 30 := by
  obtain ⟨u, hu, hu4⟩ := nextV4 (nextS s)
  unfold lineF
  split
  · exact lineS_len 5 [] (by decide)
  · exact lineS_len _ _ (dec_len _ (by rw [hu]; simp; omega))
theorem scrG_len (n : Nat) (s : Int) : (scrG n s).1.length ≤ 31 * n := by
  induction n with
  | zero => simp [scrG]
  | succ k ih =>
    have := lineF_len (scrG k s).2
    simp only [scrG, List.length_append, List.length_cons, List.length_nil]; omega
def LinePost (w : World) (b : Nat) (s : Int) (e : Ending) (w' : World) : Prop := (∃ S : ByteArray, e = .returned (.string S) ∧ S.data.toList = (lineF s).1) ∧ LotAt w' b (lineF s).2 ∧ w.grownBy w' (some b)

set_option maxHeartbeats 4000000 in
theorem line_any (b : Nat) (s : Int) (w : World) (h : LotAt w b s) :
    Calls Tryd.prog 12 #[.pointer (some ⟨b, 0, none⟩)] w (LinePost w b s) := by
  obtain ⟨k, hk, hk6⟩ := nextV6 s
  obtain ⟨u, hu, hu4⟩ := nextV4 (nextS s)
  have HL := Lib.hid h
  have HV := Lib.hid hk
  have HU := Lib.hid hu
  by_cases h5 : k = 5
  · subst h5
    have HF := Lib.hid (show lineF s = (lineS 5 [], nextS s) by unfold lineF; rw [hk]; rfl)
    clear h hk hu
    go_enter Tryd.func12, Tryd.ntmps12
    go_wp2_with fail
    refine (next_lot b s 6 _ HL.out).mono ?_
    rintro e w1 ⟨rfl, hl1, hg1⟩
    rw [HV.out]
    have HL1 := Lib.hid hl1; have HG1 := Lib.hid hg1; clear hl1 hg1
    go_wp2_with fail
    go_ret
    unfold LinePost
    rw [HF.out]
    exact ⟨⟨_, rfl, rfl⟩, HL1.out, HG1.out⟩
  · have HF := Lib.hid (show lineF s = (lineS k (Lib.decDigits u), nextS (nextS s)) by
      unfold lineF
      rw [hk, hu]
      exact if_neg h5)
    clear h hk hu
    have hk5 : k = 0 ∨ k = 1 ∨ k = 2 ∨ k = 3 ∨ k = 4 := by omega
    rcases hk5 with rfl | rfl | rfl | rfl | rfl
    · go_enter Tryd.func12, Tryd.ntmps12
      go_wp2_with fail
      refine (next_lot b s 6 _ HL.out).mono ?_
      rintro e w1 ⟨rfl, hl1, hg1⟩
      rw [HV.out]
      have HL1 := Lib.hid hl1; have HG1 := Lib.hid hg1; clear hl1 hg1
      go_wp2_with fail
      refine (next_lot b _ 4 _ HL1.out).mono ?_
      rintro e w2 ⟨rfl, hl1, hg1⟩
      rw [HU.out]
      have HL2 := Lib.hid hl1; have HG2 := Lib.hid (gtrans HG1.out hg1); clear hl1 hg1
      go_wp2_with fail
      refine (dec_any u (by omega) _).mono ?_
      rintro e w3 ⟨⟨D, rfl, hD, hDl⟩, hw3⟩
      rw [← hw3]
      have HD := Lib.hid hD
      clear hD hw3
      go_wp2_with fail
      go_ret
      unfold LinePost
      rw [HF.out]
      exact ⟨⟨_, rfl, by simp [lineS, HD.out]⟩, HL2.out, HG2.out⟩
    · go_enter Tryd.func12, Tryd.ntmps12
      go_wp2_with fail
      refine (next_lot b s 6 _ HL.out).mono ?_
      rintro e w1 ⟨rfl, hl1, hg1⟩
      rw [HV.out]
      have HL1 := Lib.hid hl1; have HG1 := Lib.hid hg1; clear hl1 hg1
      go_wp2_with fail
      refine (next_lot b _ 4 _ HL1.out).mono ?_
      rintro e w2 ⟨rfl, hl1, hg1⟩
      rw [HU.out]
      have HL2 := Lib.hid hl1; have HG2 := Lib.hid (gtrans HG1.out hg1); clear hl1 hg1
      go_wp2_with fail
      refine (dec_any u (by omega) _).mono ?_
      rintro e w3 ⟨⟨D, rfl, hD, hDl⟩, hw3⟩
      rw [← hw3]
      have HD := Lib.hid hD
      clear hD hw3
      go_wp2_with fail
      go_ret
      unfold LinePost
      rw [HF.out]
      exact ⟨⟨_, rfl, by simp [lineS, HD.out]⟩, HL2.out, HG2.out⟩
    · go_enter Tryd.func12, Tryd.ntmps12
      go_wp2_with fail
      refine (next_lot b s 6 _ HL.out).mono ?_
      rintro e w1 ⟨rfl, hl1, hg1⟩
      rw [HV.out]
      have HL1 := Lib.hid hl1; have HG1 := Lib.hid hg1; clear hl1 hg1
      go_wp2_with fail
      refine (next_lot b _ 4 _ HL1.out).mono ?_
      rintro e w2 ⟨rfl, hl1, hg1⟩
      rw [HU.out]
      have HL2 := Lib.hid hl1; have HG2 := Lib.hid (gtrans HG1.out hg1); clear hl1 hg1
      go_wp2_with fail
      refine (dec_any u (by omega) _).mono ?_
      rintro e w3 ⟨⟨D, rfl, hD, hDl⟩, hw3⟩
      rw [← hw3]
      have HD := Lib.hid hD
      clear hD hw3
      go_wp2_with fail
      go_ret
      unfold LinePost
      rw [HF.out]
      exact ⟨⟨_, rfl, by simp [lineS, HD.out]⟩, HL2.out, HG2.out⟩
    · go_enter Tryd.func12, Tryd.ntmps12
      go_wp2_with fail
      refine (next_lot b s 6 _ HL.out).mono ?_
      rintro e w1 ⟨rfl, hl1, hg1⟩
      rw [HV.out]
      have HL1 := Lib.hid hl1; have HG1 := Lib.hid hg1; clear hl1 hg1
      go_wp2_with fail
      refine (next_lot b _ 4 _ HL1.out).mono ?_
      rintro e w2 ⟨rfl, hl1, hg1⟩
      rw [HU.out]
      have HL2 := Lib.hid hl1; have HG2 := Lib.hid (gtrans HG1.out hg1); clear hl1 hg1
      go_wp2_with fail
      refine (dec_any u (by omega) _).mono ?_
      rintro e w3 ⟨⟨D, rfl, hD, hDl⟩, hw3⟩
      rw [← hw3]
      have HD := Lib.hid hD
      clear hD hw3
      go_wp2_with fail
      go_ret
      unfold LinePost
      rw [HF.out]
      exact ⟨⟨_, rfl, by simp [lineS, HD.out]⟩, HL2.out, HG2.out⟩
    · go_enter Tryd.func12, Tryd.ntmps12
      go_wp2_with fail
      refine (next_lot b s 6 _ HL.out).mono ?_
      rintro e w1 ⟨rfl, hl1, hg1⟩
      rw [HV.out]
      have HL1 := Lib.hid hl1; have HG1 := Lib.hid hg1; clear hl1 hg1
      go_wp2_with fail
      refine (next_lot b _ 4 _ HL1.out).mono ?_
      rintro e w2 ⟨rfl, hl1, hg1⟩
      rw [HU.out]
      have HL2 := Lib.hid hl1; have HG2 := Lib.hid (gtrans HG1.out hg1); clear hl1 hg1
      go_wp2_with fail
      refine (dec_any u (by omega) _).mono ?_
      rintro e w3 ⟨⟨D, rfl, hD, hDl⟩, hw3⟩
      rw [← hw3]
      have HD := Lib.hid hD
      clear hD hw3
      go_wp2_with fail
      go_ret
      unfold LinePost
      rw [HF.out]
      exact ⟨⟨_, rfl, by simp [lineS, HD.out]⟩, HL2.out, HG2.out⟩

set_option maxHeartbeats 4000000 in
theorem script_gen (s n : Int) (w : World) :
    Calls Tryd.prog 5 #[.int .i64 s, .int .i64 n] w fun e w' => e = .returned (.string ⟨(scrG (clamp n 100) (low s)).1.toArray⟩) ∧ Below w.heap.size w w' := by
  obtain ⟨z, hz⟩ : ∃ z, z = clamp n 100 := ⟨_, rfl⟩
  have hz50 : z ≤ 100 := by rw [hz]; exact clamp_le _ _
  have hzi : min (max 0 n) 100 = (z : Int) := by rw [hz]; exact clamp_eq n 100
  rw [← hz]
  have HZ := Lib.hid hzi; clear hz hzi
  obtain ⟨s0, hs0⟩ : ∃ s0, s0 = low s := ⟨_, rfl⟩
  go_enter Tryd.func5, Tryd.ntmps5
  go_wp2_with fail
  refine (new_any s _).mono ?_
  rintro e w1 ⟨rfl, T, rfl⟩
  rw [← hs0]
  have HS0 := Lib.hid hs0; clear hs0
  go_wp2_with fail
  rw [HZ.out]
  have hl0 := (LotAt.new w s0 T).alloc (.cells #[.pointer none, .slice none 0 0] 33)
  have hb0 := BuildAt.new (w.alloc (.cells #[.int .i64 s0] T))
  have hsz : (w.alloc (.cells #[.int .i64 s0] T)).heap.size = w.heap.size + 1 := by simp
  rw [hsz] at hb0
  have hbel0 : Below w.heap.size w ((w.alloc (.cells #[.int .i64 s0] T)).alloc (.cells #[.pointer none, .slice none 0 0] 33)) := by
    have h1 := (Below.refl w.heap.size w).alloc (Nat.le_refl _) (.cells #[.int .i64 s0] T)
    exact h1.alloc (by rw [hsz]; omega) _
  obtain ⟨w2, hw2⟩ : ∃ w2, w2 = (w.alloc (.cells #[.int .i64 s0] T)).alloc (.cells #[.pointer none, .slice none 0 0] 33) := ⟨_, rfl⟩
  rw [← hw2] at hl0 hb0 hbel0 ⊢
  clear hw2 hsz
  have HL0 := Lib.hid hl0; have HB0 := Lib.hid hb0; have HBE0 := Lib.hid hbel0
  clear hl0 hb0 hbel0
  obtain ⟨L, hL⟩ : ∃ L, L = w.heap.size := ⟨_, rfl⟩
  rw [← hL] at HL0 HB0 HBE0 ⊢
  have HLW := Lib.hid hL; clear hL
  go_loopw [12] (fun i wr => ∃ k : Nat, k ≤ z ∧ i = .int .i64 k ∧ BuildAt (L + 1) (scrG k s0).1 wr ∧ LotAt wr L (scrG k s0).2 ∧ Below L w wr) (fun i _ => z - (intOf i).toNat)
  case atStart => exact ⟨0, Nat.zero_le _, rfl, HB0.out, HL0.out, HBE0.out⟩
  case round =>
    obtain ⟨k, hk, rfl, hb, hl, hbel⟩ := hrel
    clear HB0 HL0 HBE0
    by_cases hlt : k < z
    · have hml := scrG_len k s0
      obtain ⟨acc, hacc⟩ : ∃ acc, acc = (scrG k s0).1 := ⟨_, rfl⟩
      obtain ⟨s1, hs1⟩ : ∃ s1, s1 = (scrG k s0).2 := ⟨_, rfl⟩
      have hll := lineF_len s1
      rw [← hacc] at hb hml
      rw [← hs1] at hl
      have HACC := Lib.hid hacc; have HS1 := Lib.hid hs1
      have HB := Lib.hid hb; have HL := Lib.hid hl; have HBE := Lib.hid hbel
      clear hacc hs1 hb hl hbel
      go_wp2_with fail
      refine (line_any L s1 _ HL.out).mono ?_
      rintro e w6 ⟨⟨S, rfl, hS⟩, hl, hg⟩
      have hLt := HL.out.lt
      have hSl : S.size ≤ 30 := by rw [Lib.size_eq, hS]; exact hll
      have HS := Lib.hid hS; clear hS
      replace HL := Lib.hid hl
      replace HB := Lib.hid (HB.out.grown hg (by omega))
      replace HBE := Lib.hid (HBE.out.grown hg (by omega) (by simp))
      clear hl hg hLt
      go_wp2_with fail
      refine (write_build (L + 1) acc _ _ HB.out (by simp [ByteArray.size_append, show (⟨#[10]⟩ : ByteArray).size = 1 from rfl]; omega)).mono ?_
      rintro e w4 ⟨rfl, hb, hbel⟩
      have hx : acc ++ (S ++ { data := #[10] } : ByteArray).data.toList = acc ++ ((lineF s1).1 ++ [10]) := by simp [HS.out]
      rw [hx] at hb
      have hl := HL.out.below hbel (by omega)
      replace HB := Lib.hid hb; replace HL := Lib.hid hl; replace HBE := Lib.hid (HBE.out.trans (hbel.mono (by omega)))
      clear hb hl hbel hx
      go_wp2_with fail
      go_roundw
      case rel => exact ⟨k + 1, by omega, by go_num, by simp only [scrG]; rw [← HACC.out, ← HS1.out]; exact HB.out, by simp only [scrG]; rw [← HS1.out]; exact HL.out, HBE.out⟩
      case measure => simp [intOf]; omega
    · obtain rfl : k = z := by omega
      have HB := Lib.hid hb; have HBE := Lib.hid hbel
      clear hb hl hbel
      go_wp2_with fail
      refine (string_build (L + 1) _ _ HB.out).mono ?_
      rintro e w8 ⟨rfl, hbel⟩
      replace HBE := Lib.hid (HBE.out.trans (hbel.mono (by omega)))
      clear hbel
      go_wp2_with fail
      go_ret
      exact ⟨by rw [← HS0.out]; rfl, by rw [← HLW.out]; exact HBE.out⟩
end Go.Proofs.YtiihpbccabeoeaaDoor
