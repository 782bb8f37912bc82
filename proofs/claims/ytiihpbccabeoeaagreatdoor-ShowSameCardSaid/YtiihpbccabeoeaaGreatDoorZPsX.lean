/-
  What show writes of words of plain and quoted text.
-/
import Derived.Test.YtiihpbccabeoeaaGreatDoorZPsW
import Derived.Test.YtiihpbccabeoeaaGreatDoorZPsA
import Derived.Test.YtiihpbccabeoeaaGreatDoorZPsB
import Derived.StillTailTactics
import Derived.Deep.RegionHeld3
namespace Go.Proofs.YtiihpbccabeoeaaGreatDoor
open Go.RowKit
set_option linter.unusedVariables false
theorem keeps_below {a b : World} {B : Nat} (h : Below B a b) : Keeps (fun k => B ≤ k) a b := ⟨h.os, h.tape, h.output, h.size, fun k _ hs => h.block k (by omega)⟩
theorem cellKeep {a b : World} {g : Nat} {v : Value} (h : a.cell? ⟨g, 0, none⟩ = some v) (hk : Keeps (fun _ => False) a b) (hg : g < a.heap.size) : b.cell? ⟨g, 0, none⟩ = some v := (World.cell?_of_block (a := ⟨g, 0, none⟩) (hk.block g hg (fun h => h))).trans h
theorem cellLt {a : World} {g : Nat} {v : Value} (h : a.cell? ⟨g, 0, none⟩ = some v) : g < a.heap.size := by
  rcases Nat.lt_or_ge g a.heap.size with h9 | h9
  · exact h9
  · simp [World.cell?, Array.getElem?_eq_none h9] at h
theorem byteAt_ne {T : ByteArray} {y : UInt8} (h : ∀ c ∈ T.data.toList, c ≠ y) {k : Nat} (hk : k < T.size) : byteAt T k ≠ y := by
  unfold byteAt
  have hk2 : k < T.data.toList.length := by rw [← Lib.size_eq]; exact hk
  rw [List.getD_eq_getElem?_getD, List.getElem?_eq_getElem hk2]
  exact h _ (List.getElem_mem hk2)
theorem u8Ne {x : UInt8} {k : Nat} (hk : k < 256) (h : x ≠ UInt8.ofNat k) : ((x.toNat : Int) == (k : Int)) = false := by
  rw [beq_eq_false_iff_ne]
  intro e
  apply h
  apply UInt8.toNat.inj
  rw [UInt8.toNat_ofNat_of_lt' (by simpa [UInt8.size] using hk)]
  omega
set_option maxRecDepth 100000 in
set_option maxHeartbeats 4000000 in
theorem plain0 (B b : Nat) (l : List UInt8) (q : Bool) (s : ByteArray) (w : World) (h : Wr w B b l q) (hs : ∀ k, k < s.size → byteAt s k ≠ 36) (hlen : l.length + s.size ≤ 1000000) (hBw : B ≤ w.heap.size) :
    Calls Tryz.prog 48 #[.pointer (some ⟨b, 0, none⟩), .string s] w fun e w' => e = .returned (.tuple #[]) ∧ Wr w' B b (l ++ s.data.toList) q ∧ Below B w w' := by
  have HS := Lib.hid hs
  have HW0 := Lib.hid h
  clear h hs
  go_enter Tryz.func48, Tryz.ntmps48
  go_wp2_with fail
  go_loopw [7] (fun k' wr => ∃ k : Nat, k' = .int .i64 k ∧ k ≤ s.size ∧ Hid (Wr wr B b (l ++ s.data.toList.take k) q) ∧ Hid (Below B w wr)) (fun k' _ => s.size - (intOf k').toNat)
  case atStart => exact ⟨0, rfl, Nat.zero_le _, by simpa using HW0, Lib.hid (Below.refl _ _)⟩
  case round =>
    obtain ⟨k, rfl, hk, HW, HB⟩ := hrel
    by_cases hlt : k < s.size
    · have p1 : (k : Int) < (s.size : Int) := by omega
      obtain ⟨x, hx⟩ : ∃ x, x = byteAt s k := ⟨_, rfl⟩
      have hx36 := HS.out k hlt
      rw [← hx] at hx36
      have t0 : ((x.toNat : Int) == 36) = false := u8Ne (k := 36) (by decide) hx36
      have hlst : s.data.toList.take (k + 1) = s.data.toList.take k ++ [x] := by
        rw [List.take_succ_eq_append_getElem (by rw [← Lib.size_eq]; exact hlt), hx]
        congr 2
        unfold byteAt
        rw [List.getD_eq_getElem?_getD, List.getElem?_eq_getElem (by rw [← Lib.size_eq]; exact hlt)]
        rfl
      have HL := Lib.hid hlst
      have HX := Lib.hid hx
      have hll : (l ++ s.data.toList.take k).length ≤ 1000000 := by
        rw [List.length_append, List.length_take, ← Lib.size_eq]; omega
      have ei := byteAt_in hlt
      rw [← hx] at ei
      clear hlst hx36 hx
      go_wp2_with fail
      go_still_tail 6, (by kernel_rfl)
      change wpList _ _ _ _ _ wr.drew
      go_wp2_with fail
      refine (byte_w B b _ q x _ (HW.out.below ((Keeps.refl _ _).drew)) (by omega) (Nat.le_trans hBw HB.out.size)).mono ?_
      rintro e w2 ⟨rfl, hw2, hb2⟩
      replace HW := Lib.hid hw2
      replace HB := Lib.hid (HB.out.trans ((Below.drew (Below.refl B wr)).trans hb2))
      clear hw2 hb2
      go_wp2_with fail
      go_roundw
      case rel => exact ⟨k + 1, by go_num, by omega, Lib.hid (by rw [HL.out, ← List.append_assoc]; exact HW.out), HB⟩
      case measure => simp [intOf]; omega
    · obtain rfl : k = s.size := by omega
      have p1 : ¬ (s.size : Int) < (s.size : Int) := by omega
      go_wp2_with fail
      go_end0
      refine ⟨rfl, ?_, HB.out⟩
      have h9 := HW.out
      rw [List.take_of_length_le (by rw [← Lib.size_eq]; exact Nat.le_refl _)] at h9
      exact h9
def quoteS (s : List UInt8) : List UInt8 := [39] ++ Lib.replaceAll s [39] [39, 92, 39, 39] ++ [39]
def QuoteOK (s : List UInt8) : Prop := s.length + Lib.countB ⟨s.toArray⟩ ⟨#[39]⟩ * 4 ≤ 100000 ∧ (quoteS s).length ≤ 100000
set_option maxRecDepth 100000 in
set_option maxHeartbeats 4000000 in
theorem quote0 (B b : Nat) (l s : List UInt8) (m : Int) (w : World) (h : Wr w B b l false) (hq : QuoteOK s) (hm : w.cell? ⟨0, 0, none⟩ = some (.int .i64 m)) (hlen : l.length + (quoteS s).length ≤ 1000000) (hBw : B ≤ w.heap.size) :
    Calls Tryz.prog 49 #[.pointer (some ⟨b, 0, none⟩), .string ⟨s.toArray⟩] w fun e w' => e = .returned (.tuple #[]) ∧ Wr w' B b (l ++ quoteS s) false ∧ Below B w w' := by
  have c2 := h.flag
  have hlt := h.lt
  obtain ⟨S, hS⟩ : ∃ S : ByteArray, S = ⟨s.toArray⟩ := ⟨_, rfl⟩
  have hsl : S.data.toList = s := by rw [hS]
  have hss : S.size = s.length := by rw [Lib.size_eq, hsl]
  have h1 := hq.1
  have h2 := hq.2
  have hR := fun w hm => Tryz.strings_ReplaceAll S ⟨#[39]⟩ ⟨#[39, 92, 39, 39]⟩ m w (by omega) hm (by decide) (by rw [hss, hS]; show s.length + Lib.countB _ _ * 4 ≤ _; omega)
  rw [hsl] at hR
  rw [← hS]
  obtain ⟨R, hRe⟩ : ∃ R : ByteArray, R = ⟨(Lib.replaceAll s [39] [39, 92, 39, 39]).toArray⟩ := ⟨_, rfl⟩
  have hRs : R.size + 2 = (quoteS s).length := by rw [Lib.size_eq, hRe]; simp [quoteS]
  have hR9 : R.size ≤ 100000 := by omega
  have hq1 : (⟨#[39]⟩ : ByteArray).size = 1 := rfl
  have HRS := Lib.hid (show ([39] : List UInt8) ++ R.data.toList ++ [39] = quoteS s by rw [hRe]; rfl)
  have HR := Lib.hid (show ∀ w, w.cell? ⟨0, 0, none⟩ = some (.int .i64 m) → Calls Tryz.prog 77 #[.string S, .string ⟨#[39]⟩, .string ⟨#[39, 92, 39, 39]⟩] w (fun e w' => e = .returned (.string R) ∧ Below w.heap.size w w') by rw [hRe]; exact fun w hm => hR w hm)
  have HW := Lib.hid h
  have HM := Lib.hid hm
  clear h hm hR hRe hS hsl hss hq
  go_enter Tryz.func49, Tryz.ntmps49
  go_wp2_with fail
  go_region_with (first
    | (go_at_call 77; refine (HR.out w.drew (show w.drew.cell? _ = _ from HM.out)).mono ?_; rintro e w1 ⟨rfl, hb1⟩; have hk1 := Keeps.of_below hb1 (fun _ => False); have HW1 := Lib.hid (HW.out.below (((Keeps.refl (fun _ => False) w).drew).trans hk1 (fun _ _ h => h))); have HB1 := Lib.hid ((Below.drew (Below.refl B w)).trans (hb1.mono hBw)); have HL := Lib.hid (HB1.out.size); clear hb1 hk1)
    | (go_at_call 26; refine (str_w B b l false _ _ HW1.out (by simp [ByteArray.size_append, show (⟨#[39]⟩ : ByteArray).size = 1 from rfl]; omega) (Nat.le_trans hBw HL.out)).mono ?_; rintro e w2 ⟨rfl, hw2, hb2⟩; have HW2 := Lib.hid hw2; have HB2 := Lib.hid (HB1.out.trans hb2); clear hw2 hb2))
  go_wp2_with fail
  refine bodyPost_ret (v := .tuple #[]) (by simp [results, Tryz.results49, go_sem]) rfl ?_
  refine ⟨rfl, ?_, HB2.out⟩
  have h9 := HW2.out
  rw [show (({ data := #[39] } : ByteArray) ++ R ++ { data := #[39] }).data.toList = quoteS s by rw [← HRS.out]; simp] at h9
  exact h9
end Go.Proofs.YtiihpbccabeoeaaGreatDoor
