/-
  What show writes of words.
-/
import Derived.Test.YtiihpbccabeoeaaGreatDoorZPsX
namespace Go.Proofs.YtiihpbccabeoeaaGreatDoor
open Go.RowKit
set_option linter.unusedVariables false
def partS (x : Px) : List UInt8 := if x.kind = 1 then x.text else quoteS x.text
def outS (xs : List Px) : List UInt8 := xs.flatMap partS
def TxtOK (x : Px) : Prop := (x.kind = 1 ∧ ∀ c ∈ x.text, c ≠ 36) ∨ (x.kind = 2 ∧ QuoteOK x.text)
theorem outS_snoc {xs : List Px} {k : Nat} (h : k < xs.length) : outS (xs.take (k + 1)) = outS (xs.take k) ++ partS xs[k] := by
  unfold outS
  rw [List.take_succ_eq_append_getElem h, List.flatMap_append]
  simp
theorem outS_le (xs : List Px) (k : Nat) : (outS (xs.take k)).length ≤ (outS xs).length := by
  have h : outS xs = outS (xs.take k) ++ outS (xs.drop k) := by
    unfold outS
    rw [← List.flatMap_append, List.take_append_drop]
  rw [h, List.length_append]
  omega
set_option maxRecDepth 100000 in
set_option maxHeartbeats 4000000 in
theorem parts0 (B b : Nat) (l : List UInt8) (m : Int) (w : World) (D : Nat → Prop) (xs : List Px) (a : Option Addr) (L c : Nat) (h : Wr w B b l false) (ha : Rd w D (.sl 6 (xs.flatMap Px.row)) (.slice a L c)) (hD : ∀ g, D g → g < B) (hx : ∀ x ∈ xs, TxtOK x) (hm : w.cell? ⟨0, 0, none⟩ = some (.int .i64 m)) (hB0 : 0 < B) (hlen : l.length + (outS xs).length ≤ 100000) (hBw : B ≤ w.heap.size) :
    Calls Tryz.prog 27 #[.pointer (some ⟨b, 0, none⟩), .slice a L c] w fun e w' => e = .returned (.tuple #[]) ∧ Wr w' B b (l ++ outS xs) false ∧ Below B w w' := by
  have hc6 := cells_part
  have hLb := rdBound (by decide) ha
  have HL := Lib.hid (rdRecs (k := 6) (fun _ => rfl) (by decide) ha).1
  have HA := Lib.hid ha
  have HX := Lib.hid hx
  have HW0 := Lib.hid h
  have HM := Lib.hid hm
  have HD := Lib.hid hD
  clear ha hx h hm hD
  go_enter Tryz.func27, Tryz.ntmps27
  go_wp2_with fail
  go_loopw [8] (fun k' wr => ∃ k : Nat, k' = .int .i64 k ∧ k ≤ L ∧ Hid (Wr wr B b (l ++ outS (xs.take k)) false) ∧ Hid (Below B w wr)) (fun k' _ => L - (intOf k').toNat)
  case atStart => exact ⟨0, rfl, Nat.zero_le _, by simpa [outS] using HW0, Lib.hid (Below.refl _ _)⟩
  case round =>
    clear HW0
    obtain ⟨k, rfl, hk, HW, HB⟩ := hrel
    by_cases hlt : k < L
    · have hl2 : k < xs.length := by rw [← HL.out]; exact hlt
      obtain ⟨g, o, xa, xl, xc, rfl, hg, ⟨q0, q1, q2, q3, q4, q5⟩, hxw⟩ := partsAt (HA.out.keep (keeps_below HB.out) (fun b _ hb h => absurd (HD.out b hb) (by omega))) hl2
      have hok := HX.out _ (List.getElem_mem hl2)
      have hsn := outS_snoc hl2
      have hle := outS_le xs (k + 1)
      obtain ⟨x, hxe⟩ : ∃ x, x = xs[k] := ⟨_, rfl⟩
      rw [← hxe] at q0 q1 q2 q3 q5 hok hsn
      have hla : (l ++ outS (xs.take k)).length + (partS x).length ≤ 100000 := by
        rw [hsn, List.length_append] at hle
        rw [List.length_append]; omega
      have HSN := Lib.hid hsn
      obtain ⟨T, hT⟩ : ∃ T : ByteArray, T = ⟨x.text.toArray⟩ := ⟨_, rfl⟩
      have hTl : T.data.toList = x.text := by rw [hT]
      have p1 : (k : Int) < (L : Int) := by omega
      have HMW := Lib.hid (show wr.cell? ⟨0, 0, none⟩ = some (.int .i64 m) by rw [HB.out.cell (p := ⟨0, 0, none⟩) hB0]; exact HM.out)
      have hsz := HB.out.size
      rw [← hT] at q1
      clear hxw hle hsn hl2 hxe
      rcases hok with ⟨hk1, h36⟩ | ⟨hk1, hq⟩
      · rw [hk1] at q0
        have HP := Lib.hid (show partS x = x.text by unfold partS; rw [hk1]; rfl)
        rw [HP.out] at hla
        have HC : Hid (∀ W, Wr W B b (l ++ outS (xs.take k)) false → W.cell? ⟨0, 0, none⟩ = some (.int .i64 m) → B ≤ W.heap.size → Calls Tryz.prog 48 #[.pointer (some ⟨b, 0, none⟩), .string T] W (fun e w2 => e = .returned (.tuple #[]) ∧ Wr w2 B b (l ++ outS (xs.take k) ++ partS x) false ∧ Below B W w2)) := Lib.hid fun W hw hmw hbw => by
          have h9 := plain0 B b (l ++ outS (xs.take k)) false T W hw (fun k hk => byteAt_ne (T := T) (by rw [hTl]; exact h36) hk) (by rw [Lib.size_eq, hTl]; omega) hbw
          rw [hTl, ← HP.out] at h9
          exact h9
        clear hk1 h36 hTl hT
        go_wp2_with fail
        obtain ⟨W, hW⟩ : ∃ W, W = wr.alloc (.cells #[.int .i64 1, .string T, .string ⟨x.name.toArray⟩, .string ⟨x.op.toArray⟩, .slice xa xl xc, .bool x.quoted] 67) := ⟨_, rfl⟩
        rw [← hW]
        have hkW : Keeps (fun _ => False) wr W := by rw [hW]; exact (Keeps.refl _ _).alloc _
        have hbW : Below B wr W := by rw [hW]; exact (Below.refl B wr).alloc (by omega) _
        refine (HC.out W (HW.out.below hkW) (cellKeep HMW.out hkW (by omega)) (by have := hkW.size; omega)).mono ?_
        rintro e w2 ⟨rfl, hw2, hb2⟩
        have HW2 := Lib.hid hw2
        have HB2 := Lib.hid (HB.out.trans (hbW.trans hb2))
        clear hw2 hb2 hkW hbW hW
        go_wp2_with fail
        go_roundw
        case rel => exact ⟨k + 1, by go_num, by omega, Lib.hid (by rw [HSN.out, ← List.append_assoc]; exact HW2.out), HB2⟩
        case measure => simp [intOf]; omega
      · rw [hk1] at q0
        have HP := Lib.hid (show partS x = quoteS x.text by unfold partS; rw [hk1]; rfl)
        rw [HP.out] at hla
        have HC : Hid (∀ W, Wr W B b (l ++ outS (xs.take k)) false → W.cell? ⟨0, 0, none⟩ = some (.int .i64 m) → B ≤ W.heap.size → Calls Tryz.prog 49 #[.pointer (some ⟨b, 0, none⟩), .string T] W (fun e w2 => e = .returned (.tuple #[]) ∧ Wr w2 B b (l ++ outS (xs.take k) ++ partS x) false ∧ Below B W w2)) := Lib.hid fun W hw hmw hbw => by
          have h9 := quote0 B b (l ++ outS (xs.take k)) x.text m W hw hq hmw (by omega) hbw
          rw [← hT, ← HP.out] at h9
          exact h9
        clear hk1 hq hTl hT
        go_wp2_with fail
        obtain ⟨W, hW⟩ : ∃ W, W = wr.alloc (.cells #[.int .i64 2, .string T, .string ⟨x.name.toArray⟩, .string ⟨x.op.toArray⟩, .slice xa xl xc, .bool x.quoted] 67) := ⟨_, rfl⟩
        rw [← hW]
        have hkW : Keeps (fun _ => False) wr W := by rw [hW]; exact (Keeps.refl _ _).alloc _
        have hbW : Below B wr W := by rw [hW]; exact (Below.refl B wr).alloc (by omega) _
        refine (HC.out W (HW.out.below hkW) (cellKeep HMW.out hkW (by omega)) (by have := hkW.size; omega)).mono ?_
        rintro e w2 ⟨rfl, hw2, hb2⟩
        have HW2 := Lib.hid hw2
        have HB2 := Lib.hid (HB.out.trans (hbW.trans hb2))
        clear hw2 hb2 hkW hbW hW
        go_wp2_with fail
        go_roundw
        case rel => exact ⟨k + 1, by go_num, by omega, Lib.hid (by rw [HSN.out, ← List.append_assoc]; exact HW2.out), HB2⟩
        case measure => simp [intOf]; omega
    · obtain rfl : k = L := by omega
      have p1 : ¬ (k : Int) < (k : Int) := by omega
      go_wp2_with fail
      go_end0
      refine ⟨rfl, ?_, HB.out⟩
      have h9 := HW.out
      rw [List.take_of_length_le (by rw [← HL.out]; exact Nat.le_refl _)] at h9
      exact h9
def WordOKS (xs : List Px) : Prop := (∀ x ∈ xs, TxtOK x) ∧ outS xs ≠ [] ∧ (outS xs).length ≤ 100000 ∧ (∀ x t, xs = x :: t → x.kind = 1 → Lib.hasPrefix x.text [35] = false)
set_option maxRecDepth 100000 in
set_option maxHeartbeats 4000000 in
theorem word0 (m : Int) (w : World) (D : Nat → Prop) (xs : List Px) (a : Option Addr) (L c : Nat) (ha : Rd w D (.sl 6 (xs.flatMap Px.row)) (.slice a L c)) (hx : WordOKS xs) (hm : w.cell? ⟨0, 0, none⟩ = some (.int .i64 m)) (hB0 : 0 < w.heap.size) :
    Calls Tryz.prog 13 #[.slice a L c] w fun e w' => e = .returned (.string ⟨(outS xs).toArray⟩) ∧ Below w.heap.size w w' := by
  have hc6 := cells_part
  have hLb := rdBound (by decide) ha
  have HL := Lib.hid (rdRecs (k := 6) (fun _ => rfl) (by decide) ha).1
  have HA := Lib.hid ha
  have HX := Lib.hid hx
  have HM := Lib.hid hm
  obtain ⟨W, hW⟩ : ∃ W, W = w.alloc (.cells #[.pointer none, .slice none 0 0, .bool false] 65) := ⟨_, rfl⟩
  have hWr : Wr W w.heap.size w.heap.size [] false := by rw [hW]; exact Wr.new w
  have hkW : Keeps (fun _ => False) w W := by rw [hW]; exact (Keeps.refl _ _).alloc _
  have hbW : Below w.heap.size w W := by rw [hW]; exact (Below.refl _ _).alloc (Nat.le_refl _) _
  have HPT := Lib.hid (fun V (hv : Keeps (fun _ => False) W V) => parts0 w.heap.size w.heap.size [] m V (fun g => D g ∧ g < w.heap.size) xs a L c (hWr.below hv) (((ha.mono (D' := fun g => D g ∧ g < w.heap.size) (fun b hb hd => ⟨hd, hb⟩)).keep hkW (fun _ _ _ h => h)).keep hv (fun _ _ _ h => h)) (fun g hg => hg.2) hx.1 (cellKeep hm (hkW.trans hv (fun _ _ h => h)) hB0) hB0 (by simpa using hx.2.2.1) (Nat.le_trans hkW.size hv.size))
  have HBW := Lib.hid hbW
  have HWE := Lib.hid hW
  obtain ⟨S, hS⟩ : ∃ S : ByteArray, S = ⟨(outS xs).toArray⟩ := ⟨_, rfl⟩
  rw [← hS]
  have HS := Lib.hid hS
  clear ha hx hm hWr hkW hbW hW hS
  by_cases hL0 : L = 0
  · subst hL0
    exact absurd (by have h := HL.out; rw [List.eq_nil_of_length_eq_zero h.symm]; rfl) HX.out.2.1
  · have hl2 : 0 < xs.length := by rw [← HL.out]; omega
    obtain ⟨g, o, xa, xl, xc, rfl, hg, ⟨q0, q1, q2, q3, q4, q5⟩, hxw⟩ := partsAt (rdKeep0 HA.out (show Keeps (fun _ => False) w W by rw [HWE.out]; exact (Keeps.refl _ _).alloc _)) hl2
    obtain ⟨x, t, hxt⟩ : ∃ x t, xs = x :: t := by
      cases xs with
      | nil => simp at hl2
      | cons x t => exact ⟨x, t, rfl⟩
    have hx0 : xs[0] = x := by subst hxt; rfl
    rw [hx0] at q0 q1
    have hpf := HX.out.2.2.2 x t hxt
    simp only [Nat.zero_mul, Nat.add_zero] at q0 q1
    obtain ⟨T, hT⟩ : ∃ T : ByteArray, T = ⟨x.text.toArray⟩ := ⟨_, rfl⟩
    rw [← hT] at q1
    have hok := HX.out.1 x (by rw [hxt]; exact List.mem_cons_self ..)
    have p1 : (0 : Int) < (L : Int) := by omega
    have p2 : 0 < L := by omega
    clear hxw hx0 hxt hl2 q2 q3 q4 q5
    rcases hok with ⟨hk1, _⟩ | ⟨hk1, _⟩
    · have hp9 := hpf hk1
      have HPF := Lib.hid (show ∀ w, Calls Tryz.prog 25 #[.string T, .string ⟨#[35]⟩] w (fun e w' => e = .returned (.bool false) ∧ w' = w) from fun w => (Tryz.strings_HasPrefix T ⟨#[35]⟩ w).mono fun e w' h => by rw [show T.data.toList = x.text by rw [hT], show (⟨#[35]⟩ : ByteArray).data.toList = [35] from rfl, hp9] at h; exact h)
      rw [hk1] at q0
      clear hk1 hp9 hpf hT
      go_enter Tryz.func13, Tryz.ntmps13
      go_upto_region 2 with fail
      rw [← HWE.out]
      go_wp2_with fail
      refine (HPF.out _).mono ?_
      rintro e w1 ⟨rfl, rfl⟩
      go_wp2_with fail
      refine (HPT.out _ (Keeps.refl _ _)).mono ?_
      rintro e w2 ⟨rfl, hw2, hb2⟩
      have HW2 := Lib.hid hw2
      have HB2 := Lib.hid (HBW.out.trans hb2)
      clear hw2 hb2
      go_wp2_with fail
      refine (string_w w.heap.size w.heap.size (outS xs) false _ (by simpa using HW2.out) HX.out.2.1).mono ?_
      rintro e w3 ⟨rfl, hb3⟩
      rw [← HS.out]
      have HB3 := Lib.hid (HB2.out.trans hb3)
      clear hb3
      go_wp2_with fail
      go_ret
      exact ⟨rfl, HB3.out⟩
    · rw [hk1] at q0
      clear hk1 hpf hT
      go_enter Tryz.func13, Tryz.ntmps13
      go_upto_region 2 with fail
      rw [← HWE.out]
      go_wp2_with fail
      refine (HPT.out _ (Keeps.refl _ _)).mono ?_
      rintro e w2 ⟨rfl, hw2, hb2⟩
      have HW2 := Lib.hid hw2
      have HB2 := Lib.hid (HBW.out.trans hb2)
      clear hw2 hb2
      go_wp2_with fail
      refine (string_w w.heap.size w.heap.size (outS xs) false _ (by simpa using HW2.out) HX.out.2.1).mono ?_
      rintro e w3 ⟨rfl, hb3⟩
      rw [← HS.out]
      have HB3 := Lib.hid (HB2.out.trans hb3)
      clear hb3
      go_wp2_with fail
      go_ret
      exact ⟨rfl, HB3.out⟩
end Go.Proofs.YtiihpbccabeoeaaGreatDoor
