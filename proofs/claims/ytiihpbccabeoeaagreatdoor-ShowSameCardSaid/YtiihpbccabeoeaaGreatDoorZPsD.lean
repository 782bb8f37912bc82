/-
  show.Same: slices.EqualFunc at each kind, and what it asks.
-/
import Derived.Test.YtiihpbccabeoeaaGreatDoorZPsC
namespace Go.Proofs.YtiihpbccabeoeaaGreatDoor
open Go.RowKit
set_option linter.unusedVariables false
set_option maxRecDepth 100000 in
set_option maxHeartbeats 4000000 in
theorem eqPart (w : World) (D E : Nat → Prop) (xs ys : List (Px)) (A B : Option Addr) (L M C C' : Nat) (ha : Rd w D (.sl 6 (xs.flatMap Px.row)) (.slice A L C)) (hb : Rd w E (.sl 6 (ys.flatMap Px.row)) (.slice B M C'))
    (hcb : ∀ i (hi : i < xs.length) (hj : i < ys.length) (W : World) (xa : Option Addr) (xl xc : Nat) (xa' : Option Addr) (xl' xc' : Nat), Keeps (fun _ => False) w W → Rd W D (.sl 6 xs[i].word) (.slice xa xl xc) → Rd W E (.sl 6 ys[i].word) (.slice xa' xl' xc') →
      Calls Tryz.prog 81 #[.agg #[.int .i64 xs[i].kind, .string ⟨xs[i].text.toArray⟩, .string ⟨xs[i].name.toArray⟩, .string ⟨xs[i].op.toArray⟩, .slice xa xl xc, .bool xs[i].quoted], .agg #[.int .i64 ys[i].kind, .string ⟨ys[i].text.toArray⟩, .string ⟨ys[i].name.toArray⟩, .string ⟨ys[i].op.toArray⟩, .slice xa' xl' xc', .bool ys[i].quoted]] W (SamePost W (xs[i] = ys[i]))) :
    Calls Tryz.prog 80 #[.slice A L C, .slice B M C', .func (.func 81) #[] #[]] w (SamePost w (xs = ys)) := by
  have hmx := rdBound (by decide) ha
  have hmy := rdBound (by decide) hb
  have HLA := Lib.hid (rdRecs (k := 6) (fun _ => rfl) (by decide) ha).1
  have HLB := Lib.hid (rdRecs (k := 6) (fun _ => rfl) (by decide) hb).1
  have HA := Lib.hid ha
  have HB := Lib.hid hb
  have HCB := Lib.hid hcb
  have hc6 := cells_part
  clear ha hb hcb
  by_cases hl : L = M
  · subst hl
    go_enter Tryz.func80, Tryz.ntmps80
    go_wp2_with fail
    go_loopw [17] (fun k' wr => ∃ k : Nat, k' = .int .i64 k ∧ k ≤ L ∧ Hid (xs.take k = ys.take k) ∧ Hid (Keeps (fun _ => False) w wr)) (fun k' _ => L - (intOf k').toNat)
    case atStart => exact ⟨0, rfl, Nat.zero_le _, Lib.hid rfl, Lib.hid (Keeps.refl _ _)⟩
    case round =>
      obtain ⟨k, rfl, hk, HT, HK⟩ := hrel
      by_cases hlt : k < L
      · have hlta : k < xs.length := by rw [← HLA.out]; exact hlt
        have hltb : k < ys.length := by rw [← HLB.out]; exact hlt
        obtain ⟨g, o, xa, xl, xc, h, hg, ⟨q0, q1, q2, q3, q4, q5⟩, hx⟩ := partsAt (rdKeep0 HA.out HK.out) hlta
        obtain ⟨g', o', xa', xl', xc', h', hg', ⟨r0, r1, r2, r3, r4, r5⟩, hx'⟩ := partsAt (rdKeep0 HB.out HK.out) hltb
        subst h h'
        have HC := Lib.hid (fun W (hw : Keeps (fun _ => False) wr W) => HCB.out k hlta hltb W _ _ _ _ _ _ (HK.out.trans hw (fun _ _ s => s)) (rdKeep0 hx hw) (rdKeep0 hx' hw))
        have HTK := Lib.hid (fun e : xs[k] = ys[k] => take_same hlta hltb HT.out e)
        have HNE := Lib.hid (show xs = ys → xs[k] = ys[k] from fun h => by simp only [h])
        obtain ⟨x, hxe⟩ : ∃ x, x = xs[k] := ⟨_, rfl⟩
        obtain ⟨y, hye⟩ : ∃ y, y = ys[k] := ⟨_, rfl⟩
        rw [← hxe, ← hye] at HC HTK HNE
        rw [← hxe] at q0 q1 q2 q3 q5
        rw [← hye] at r0 r1 r2 r3 r5
        clear hxe hye hlta hltb HT hx hx'
        have p1 : (k : Int) < (L : Int) := by omega
        go_wp2_with fail
        refine (HC.out _ ((Keeps.refl _ _).alloc _ |>.alloc _)).mono ?_
        rintro e w2 ⟨r, rfl, hr, hk2⟩
        have HK2 := Lib.hid ((HK.out.trans ((Keeps.refl _ _).alloc _ |>.alloc _) (fun _ _ h => h)).trans hk2 (fun _ _ h => h))
        cases r with
        | true =>
          have HWD := Lib.hid (hr.1 rfl)
          clear hr hk2 HC
          go_wp2_with fail
          go_roundw
          case rel => exact ⟨k + 1, by go_num, by omega, Lib.hid (HTK.out HWD.out), HK2⟩
          case measure => simp [intOf]; omega
        | false =>
          have HWD := Lib.hid (show x ≠ y from fun h => by have := hr.2 h; cases this)
          clear hr hk2 HC
          go_wp2_with fail
          go_ret
          exact ⟨false, rfl, ⟨fun h => (by cases h), fun h => absurd (HNE.out h) HWD.out⟩, HK2.out⟩
      · obtain rfl : k = L := by omega
        have HF := Lib.hid (take_all HLA.out HLB.out HT.out)
        have p1 : ¬ (k : Int) < (k : Int) := by omega
        go_wp2_with fail
        go_ret
        exact ⟨true, rfl, ⟨fun _ => HF.out, fun _ => rfl⟩, HK.out⟩
  · have e1 : ((L : Int) != (M : Int)) = true := by rw [bne_iff_ne]; omega
    have HL := Lib.hid (show xs.length ≠ ys.length by rw [← HLA.out, ← HLB.out]; exact hl)
    clear hl
    go_enter Tryz.func80, Tryz.ntmps80
    go_wp2_with fail
    go_ret
    exact ⟨false, rfl, ⟨fun h => (by cases h), fun h => absurd (by rw [h]) HL.out⟩, Keeps.refl _ _⟩
set_option maxRecDepth 100000 in
set_option maxHeartbeats 4000000 in
theorem eqWord (w : World) (D E : Nat → Prop) (xs ys : List (List Dt)) (A B : Option Addr) (L M C C' : Nat) (ha : Rd w D (.sl 1 (xs.flatMap wdD)) (.slice A L C)) (hb : Rd w E (.sl 1 (ys.flatMap wdD)) (.slice B M C'))
    (hcb : ∀ i (hi : i < xs.length) (hj : i < ys.length) (W : World) (xa : Option Addr) (xl xc : Nat) (xa' : Option Addr) (xl' xc' : Nat), Keeps (fun _ => False) w W → Rd W D (.sl 6 xs[i]) (.slice xa xl xc) → Rd W E (.sl 6 ys[i]) (.slice xa' xl' xc') →
      Calls Tryz.prog 52 #[.slice xa xl xc, .slice xa' xl' xc'] W (SamePost W (xs[i] = ys[i]))) :
    Calls Tryz.prog 51 #[.slice A L C, .slice B M C', .func (.func 52) #[] #[]] w (SamePost w (xs = ys)) := by
  have hmx := rdBound (by decide) ha
  have hmy := rdBound (by decide) hb
  have HLA := Lib.hid (rdRecs (k := 1) (fun _ => rfl) (by decide) ha).1
  have HLB := Lib.hid (rdRecs (k := 1) (fun _ => rfl) (by decide) hb).1
  have HA := Lib.hid ha
  have HB := Lib.hid hb
  have HCB := Lib.hid hcb
  
  clear ha hb hcb
  by_cases hl : L = M
  · subst hl
    go_enter Tryz.func51, Tryz.ntmps51
    go_wp2_with fail
    go_loopw [17] (fun k' wr => ∃ k : Nat, k' = .int .i64 k ∧ k ≤ L ∧ Hid (xs.take k = ys.take k) ∧ Hid (Keeps (fun _ => False) w wr)) (fun k' _ => L - (intOf k').toNat)
    case atStart => exact ⟨0, rfl, Nat.zero_le _, Lib.hid rfl, Lib.hid (Keeps.refl _ _)⟩
    case round =>
      obtain ⟨k, rfl, hk, HT, HK⟩ := hrel
      by_cases hlt : k < L
      · have hlta : k < xs.length := by rw [← HLA.out]; exact hlt
        have hltb : k < ys.length := by rw [← HLB.out]; exact hlt
        obtain ⟨g, o, xa, xl, xc, h, hg, q0, hx⟩ := wordsAt (rdKeep0 HA.out HK.out) hlta
        obtain ⟨g', o', xa', xl', xc', h', hg', r0, hx'⟩ := wordsAt (rdKeep0 HB.out HK.out) hltb
        subst h h'
        have HC := Lib.hid (fun W (hw : Keeps (fun _ => False) wr W) => HCB.out k hlta hltb W _ _ _ _ _ _ (HK.out.trans hw (fun _ _ s => s)) (rdKeep0 hx hw) (rdKeep0 hx' hw))
        have HTK := Lib.hid (fun e : xs[k] = ys[k] => take_same hlta hltb HT.out e)
        have HNE := Lib.hid (show xs = ys → xs[k] = ys[k] from fun h => by simp only [h])
        obtain ⟨x, hxe⟩ : ∃ x, x = xs[k] := ⟨_, rfl⟩
        obtain ⟨y, hye⟩ : ∃ y, y = ys[k] := ⟨_, rfl⟩
        rw [← hxe, ← hye] at HC HTK HNE
        
        clear hxe hye hlta hltb HT hx hx'
        have p1 : (k : Int) < (L : Int) := by omega
        go_wp2_with fail
        refine (HC.out _ (Keeps.refl _ _)).mono ?_
        rintro e w2 ⟨r, rfl, hr, hk2⟩
        have HK2 := Lib.hid ((HK.out.trans (Keeps.refl _ _) (fun _ _ h => h)).trans hk2 (fun _ _ h => h))
        cases r with
        | true =>
          have HWD := Lib.hid (hr.1 rfl)
          clear hr hk2 HC
          go_wp2_with fail
          go_roundw
          case rel => exact ⟨k + 1, by go_num, by omega, Lib.hid (HTK.out HWD.out), HK2⟩
          case measure => simp [intOf]; omega
        | false =>
          have HWD := Lib.hid (show x ≠ y from fun h => by have := hr.2 h; cases this)
          clear hr hk2 HC
          go_wp2_with fail
          go_ret
          exact ⟨false, rfl, ⟨fun h => (by cases h), fun h => absurd (HNE.out h) HWD.out⟩, HK2.out⟩
      · obtain rfl : k = L := by omega
        have HF := Lib.hid (take_all HLA.out HLB.out HT.out)
        have p1 : ¬ (k : Int) < (k : Int) := by omega
        go_wp2_with fail
        go_ret
        exact ⟨true, rfl, ⟨fun _ => HF.out, fun _ => rfl⟩, HK.out⟩
  · have e1 : ((L : Int) != (M : Int)) = true := by rw [bne_iff_ne]; omega
    have HL := Lib.hid (show xs.length ≠ ys.length by rw [← HLA.out, ← HLB.out]; exact hl)
    clear hl
    go_enter Tryz.func51, Tryz.ntmps51
    go_wp2_with fail
    go_ret
    exact ⟨false, rfl, ⟨fun h => (by cases h), fun h => absurd (by rw [h]) HL.out⟩, Keeps.refl _ _⟩
set_option maxRecDepth 100000 in
set_option maxHeartbeats 4000000 in
theorem eqAssign (w : World) (D E : Nat → Prop) (xs ys : List (Bs × List Dt)) (A B : Option Addr) (L M C C' : Nat) (ha : Rd w D (.sl 2 (xs.flatMap prD)) (.slice A L C)) (hb : Rd w E (.sl 2 (ys.flatMap prD)) (.slice B M C'))
    (hcb : ∀ i (hi : i < xs.length) (hj : i < ys.length) (W : World) (xa : Option Addr) (xl xc : Nat) (xa' : Option Addr) (xl' xc' : Nat), Keeps (fun _ => False) w W → Rd W D (.sl 6 xs[i].2) (.slice xa xl xc) → Rd W E (.sl 6 ys[i].2) (.slice xa' xl' xc') →
      Calls Tryz.prog 54 #[.agg #[.string ⟨xs[i].1.toArray⟩, .slice xa xl xc], .agg #[.string ⟨ys[i].1.toArray⟩, .slice xa' xl' xc']] W (SamePost W (xs[i] = ys[i]))) :
    Calls Tryz.prog 53 #[.slice A L C, .slice B M C', .func (.func 54) #[] #[]] w (SamePost w (xs = ys)) := by
  have hmx := rdBound (by decide) ha
  have hmy := rdBound (by decide) hb
  have HLA := Lib.hid (rdRecs (k := 2) (fun _ => rfl) (by decide) ha).1
  have HLB := Lib.hid (rdRecs (k := 2) (fun _ => rfl) (by decide) hb).1
  have HA := Lib.hid ha
  have HB := Lib.hid hb
  have HCB := Lib.hid hcb
  have hcK : Tryz.prog.cellsOf 84 = 2 := by kernel_rfl
  clear ha hb hcb
  by_cases hl : L = M
  · subst hl
    go_enter Tryz.func53, Tryz.ntmps53
    go_wp2_with fail
    go_loopw [17] (fun k' wr => ∃ k : Nat, k' = .int .i64 k ∧ k ≤ L ∧ Hid (xs.take k = ys.take k) ∧ Hid (Keeps (fun _ => False) w wr)) (fun k' _ => L - (intOf k').toNat)
    case atStart => exact ⟨0, rfl, Nat.zero_le _, Lib.hid rfl, Lib.hid (Keeps.refl _ _)⟩
    case round =>
      obtain ⟨k, rfl, hk, HT, HK⟩ := hrel
      by_cases hlt : k < L
      · have hlta : k < xs.length := by rw [← HLA.out]; exact hlt
        have hltb : k < ys.length := by rw [← HLB.out]; exact hlt
        obtain ⟨g, o, xa, xl, xc, h, hg, q0, q1, hx⟩ := pairsAt (rdKeep0 HA.out HK.out) hlta
        obtain ⟨g', o', xa', xl', xc', h', hg', r0, r1, hx'⟩ := pairsAt (rdKeep0 HB.out HK.out) hltb
        subst h h'
        have HC := Lib.hid (fun W (hw : Keeps (fun _ => False) wr W) => HCB.out k hlta hltb W _ _ _ _ _ _ (HK.out.trans hw (fun _ _ s => s)) (rdKeep0 hx hw) (rdKeep0 hx' hw))
        have HTK := Lib.hid (fun e : xs[k] = ys[k] => take_same hlta hltb HT.out e)
        have HNE := Lib.hid (show xs = ys → xs[k] = ys[k] from fun h => by simp only [h])
        obtain ⟨x, hxe⟩ : ∃ x, x = xs[k] := ⟨_, rfl⟩
        obtain ⟨y, hye⟩ : ∃ y, y = ys[k] := ⟨_, rfl⟩
        rw [← hxe, ← hye] at HC HTK HNE
        rw [← hxe] at q0
        rw [← hye] at r0
        clear hxe hye hlta hltb HT hx hx'
        have p1 : (k : Int) < (L : Int) := by omega
        go_wp2_with fail
        refine (HC.out _ ((Keeps.refl _ _).alloc _ |>.alloc _)).mono ?_
        rintro e w2 ⟨r, rfl, hr, hk2⟩
        have HK2 := Lib.hid ((HK.out.trans ((Keeps.refl _ _).alloc _ |>.alloc _) (fun _ _ h => h)).trans hk2 (fun _ _ h => h))
        cases r with
        | true =>
          have HWD := Lib.hid (hr.1 rfl)
          clear hr hk2 HC
          go_wp2_with fail
          go_roundw
          case rel => exact ⟨k + 1, by go_num, by omega, Lib.hid (HTK.out HWD.out), HK2⟩
          case measure => simp [intOf]; omega
        | false =>
          have HWD := Lib.hid (show x ≠ y from fun h => by have := hr.2 h; cases this)
          clear hr hk2 HC
          go_wp2_with fail
          go_ret
          exact ⟨false, rfl, ⟨fun h => (by cases h), fun h => absurd (HNE.out h) HWD.out⟩, HK2.out⟩
      · obtain rfl : k = L := by omega
        have HF := Lib.hid (take_all HLA.out HLB.out HT.out)
        have p1 : ¬ (k : Int) < (k : Int) := by omega
        go_wp2_with fail
        go_ret
        exact ⟨true, rfl, ⟨fun _ => HF.out, fun _ => rfl⟩, HK.out⟩
  · have e1 : ((L : Int) != (M : Int)) = true := by rw [bne_iff_ne]; omega
    have HL := Lib.hid (show xs.length ≠ ys.length by rw [← HLA.out, ← HLB.out]; exact hl)
    clear hl
    go_enter Tryz.func53, Tryz.ntmps53
    go_wp2_with fail
    go_ret
    exact ⟨false, rfl, ⟨fun h => (by cases h), fun h => absurd (by rw [h]) HL.out⟩, Keeps.refl _ _⟩
set_option maxRecDepth 100000 in
set_option maxHeartbeats 4000000 in
theorem eqRedir (w : World) (D E : Nat → Prop) (xs ys : List (Bs × List Dt)) (A B : Option Addr) (L M C C' : Nat) (ha : Rd w D (.sl 2 (xs.flatMap prD)) (.slice A L C)) (hb : Rd w E (.sl 2 (ys.flatMap prD)) (.slice B M C'))
    (hcb : ∀ i (hi : i < xs.length) (hj : i < ys.length) (W : World) (xa : Option Addr) (xl xc : Nat) (xa' : Option Addr) (xl' xc' : Nat), Keeps (fun _ => False) w W → Rd W D (.sl 6 xs[i].2) (.slice xa xl xc) → Rd W E (.sl 6 ys[i].2) (.slice xa' xl' xc') →
      Calls Tryz.prog 56 #[.agg #[.string ⟨xs[i].1.toArray⟩, .slice xa xl xc], .agg #[.string ⟨ys[i].1.toArray⟩, .slice xa' xl' xc']] W (SamePost W (xs[i] = ys[i]))) :
    Calls Tryz.prog 55 #[.slice A L C, .slice B M C', .func (.func 56) #[] #[]] w (SamePost w (xs = ys)) := by
  have hmx := rdBound (by decide) ha
  have hmy := rdBound (by decide) hb
  have HLA := Lib.hid (rdRecs (k := 2) (fun _ => rfl) (by decide) ha).1
  have HLB := Lib.hid (rdRecs (k := 2) (fun _ => rfl) (by decide) hb).1
  have HA := Lib.hid ha
  have HB := Lib.hid hb
  have HCB := Lib.hid hcb
  have hcK : Tryz.prog.cellsOf 86 = 2 := by kernel_rfl
  clear ha hb hcb
  by_cases hl : L = M
  · subst hl
    go_enter Tryz.func55, Tryz.ntmps55
    go_wp2_with fail
    go_loopw [17] (fun k' wr => ∃ k : Nat, k' = .int .i64 k ∧ k ≤ L ∧ Hid (xs.take k = ys.take k) ∧ Hid (Keeps (fun _ => False) w wr)) (fun k' _ => L - (intOf k').toNat)
    case atStart => exact ⟨0, rfl, Nat.zero_le _, Lib.hid rfl, Lib.hid (Keeps.refl _ _)⟩
    case round =>
      obtain ⟨k, rfl, hk, HT, HK⟩ := hrel
      by_cases hlt : k < L
      · have hlta : k < xs.length := by rw [← HLA.out]; exact hlt
        have hltb : k < ys.length := by rw [← HLB.out]; exact hlt
        obtain ⟨g, o, xa, xl, xc, h, hg, q0, q1, hx⟩ := pairsAt (rdKeep0 HA.out HK.out) hlta
        obtain ⟨g', o', xa', xl', xc', h', hg', r0, r1, hx'⟩ := pairsAt (rdKeep0 HB.out HK.out) hltb
        subst h h'
        have HC := Lib.hid (fun W (hw : Keeps (fun _ => False) wr W) => HCB.out k hlta hltb W _ _ _ _ _ _ (HK.out.trans hw (fun _ _ s => s)) (rdKeep0 hx hw) (rdKeep0 hx' hw))
        have HTK := Lib.hid (fun e : xs[k] = ys[k] => take_same hlta hltb HT.out e)
        have HNE := Lib.hid (show xs = ys → xs[k] = ys[k] from fun h => by simp only [h])
        obtain ⟨x, hxe⟩ : ∃ x, x = xs[k] := ⟨_, rfl⟩
        obtain ⟨y, hye⟩ : ∃ y, y = ys[k] := ⟨_, rfl⟩
        rw [← hxe, ← hye] at HC HTK HNE
        rw [← hxe] at q0
        rw [← hye] at r0
        clear hxe hye hlta hltb HT hx hx'
        have p1 : (k : Int) < (L : Int) := by omega
        go_wp2_with fail
        refine (HC.out _ ((Keeps.refl _ _).alloc _ |>.alloc _)).mono ?_
        rintro e w2 ⟨r, rfl, hr, hk2⟩
        have HK2 := Lib.hid ((HK.out.trans ((Keeps.refl _ _).alloc _ |>.alloc _) (fun _ _ h => h)).trans hk2 (fun _ _ h => h))
        cases r with
        | true =>
          have HWD := Lib.hid (hr.1 rfl)
          clear hr hk2 HC
          go_wp2_with fail
          go_roundw
          case rel => exact ⟨k + 1, by go_num, by omega, Lib.hid (HTK.out HWD.out), HK2⟩
          case measure => simp [intOf]; omega
        | false =>
          have HWD := Lib.hid (show x ≠ y from fun h => by have := hr.2 h; cases this)
          clear hr hk2 HC
          go_wp2_with fail
          go_ret
          exact ⟨false, rfl, ⟨fun h => (by cases h), fun h => absurd (HNE.out h) HWD.out⟩, HK2.out⟩
      · obtain rfl : k = L := by omega
        have HF := Lib.hid (take_all HLA.out HLB.out HT.out)
        have p1 : ¬ (k : Int) < (k : Int) := by omega
        go_wp2_with fail
        go_ret
        exact ⟨true, rfl, ⟨fun _ => HF.out, fun _ => rfl⟩, HK.out⟩
  · have e1 : ((L : Int) != (M : Int)) = true := by rw [bne_iff_ne]; omega
    have HL := Lib.hid (show xs.length ≠ ys.length by rw [← HLA.out, ← HLB.out]; exact hl)
    clear hl
    go_enter Tryz.func55, Tryz.ntmps55
    go_wp2_with fail
    go_ret
    exact ⟨false, rfl, ⟨fun h => (by cases h), fun h => absurd (by rw [h]) HL.out⟩, Keeps.refl _ _⟩
set_option maxRecDepth 100000 in
set_option maxHeartbeats 4000000 in
theorem eqArm (w : World) (D E : Nat → Prop) (xs ys : List (List (List Dt) × List Dt)) (A B : Option Addr) (L M C C' : Nat) (ha : Rd w D (.sl 2 (xs.flatMap arD)) (.slice A L C)) (hb : Rd w E (.sl 2 (ys.flatMap arD)) (.slice B M C'))
    (hcb : ∀ i (hi : i < xs.length) (hj : i < ys.length) (W : World) (pa : Option Addr) (pn pc : Nat) (xa : Option Addr) (xl xc : Nat) (pa' : Option Addr) (pn' pc' : Nat) (xa' : Option Addr) (xl' xc' : Nat), Keeps (fun _ => False) w W → Rd W D (.sl 1 (xs[i].1.flatMap wdD)) (.slice pa pn pc) → Rd W D (.sl 8 xs[i].2) (.slice xa xl xc) → Rd W E (.sl 1 (ys[i].1.flatMap wdD)) (.slice pa' pn' pc') → Rd W E (.sl 8 ys[i].2) (.slice xa' xl' xc') →
      Calls Tryz.prog 58 #[.agg #[.slice pa pn pc, .slice xa xl xc], .agg #[.slice pa' pn' pc', .slice xa' xl' xc']] W (SamePost W (xs[i] = ys[i]))) :
    Calls Tryz.prog 57 #[.slice A L C, .slice B M C', .func (.func 58) #[] #[]] w (SamePost w (xs = ys)) := by
  have hmx := rdBound (by decide) ha
  have hmy := rdBound (by decide) hb
  have HLA := Lib.hid (rdRecs (k := 2) (fun _ => rfl) (by decide) ha).1
  have HLB := Lib.hid (rdRecs (k := 2) (fun _ => rfl) (by decide) hb).1
  have HA := Lib.hid ha
  have HB := Lib.hid hb
  have HCB := Lib.hid hcb
  have hcK : Tryz.prog.cellsOf 49 = 2 := by kernel_rfl
  clear ha hb hcb
  by_cases hl : L = M
  · subst hl
    go_enter Tryz.func57, Tryz.ntmps57
    go_wp2_with fail
    go_loopw [17] (fun k' wr => ∃ k : Nat, k' = .int .i64 k ∧ k ≤ L ∧ Hid (xs.take k = ys.take k) ∧ Hid (Keeps (fun _ => False) w wr)) (fun k' _ => L - (intOf k').toNat)
    case atStart => exact ⟨0, rfl, Nat.zero_le _, Lib.hid rfl, Lib.hid (Keeps.refl _ _)⟩
    case round =>
      obtain ⟨k, rfl, hk, HT, HK⟩ := hrel
      by_cases hlt : k < L
      · have hlta : k < xs.length := by rw [← HLA.out]; exact hlt
        have hltb : k < ys.length := by rw [← HLB.out]; exact hlt
        obtain ⟨g, o, pa, pn, pc, xa, xl, xc, h, hg, q0, q1, hy, hx⟩ := armsAt (rdKeep0 HA.out HK.out) hlta
        obtain ⟨g', o', pa', pn', pc', xa', xl', xc', h', hg', r0, r1, hy', hx'⟩ := armsAt (rdKeep0 HB.out HK.out) hltb
        subst h h'
        have HC := Lib.hid (fun W (hw : Keeps (fun _ => False) wr W) => HCB.out k hlta hltb W _ _ _ _ _ _ _ _ _ _ _ _ (HK.out.trans hw (fun _ _ s => s)) (rdKeep0 hy hw) (rdKeep0 hx hw) (rdKeep0 hy' hw) (rdKeep0 hx' hw))
        have HTK := Lib.hid (fun e : xs[k] = ys[k] => take_same hlta hltb HT.out e)
        have HNE := Lib.hid (show xs = ys → xs[k] = ys[k] from fun h => by simp only [h])
        obtain ⟨x, hxe⟩ : ∃ x, x = xs[k] := ⟨_, rfl⟩
        obtain ⟨y, hye⟩ : ∃ y, y = ys[k] := ⟨_, rfl⟩
        rw [← hxe, ← hye] at HC HTK HNE
        
        clear hxe hye hlta hltb HT hx hx' hy hy'
        have p1 : (k : Int) < (L : Int) := by omega
        go_wp2_with fail
        refine (HC.out _ ((Keeps.refl _ _).alloc _ |>.alloc _)).mono ?_
        rintro e w2 ⟨r, rfl, hr, hk2⟩
        have HK2 := Lib.hid ((HK.out.trans ((Keeps.refl _ _).alloc _ |>.alloc _) (fun _ _ h => h)).trans hk2 (fun _ _ h => h))
        cases r with
        | true =>
          have HWD := Lib.hid (hr.1 rfl)
          clear hr hk2 HC
          go_wp2_with fail
          go_roundw
          case rel => exact ⟨k + 1, by go_num, by omega, Lib.hid (HTK.out HWD.out), HK2⟩
          case measure => simp [intOf]; omega
        | false =>
          have HWD := Lib.hid (show x ≠ y from fun h => by have := hr.2 h; cases this)
          clear hr hk2 HC
          go_wp2_with fail
          go_ret
          exact ⟨false, rfl, ⟨fun h => (by cases h), fun h => absurd (HNE.out h) HWD.out⟩, HK2.out⟩
      · obtain rfl : k = L := by omega
        have HF := Lib.hid (take_all HLA.out HLB.out HT.out)
        have p1 : ¬ (k : Int) < (k : Int) := by omega
        go_wp2_with fail
        go_ret
        exact ⟨true, rfl, ⟨fun _ => HF.out, fun _ => rfl⟩, HK.out⟩
  · have e1 : ((L : Int) != (M : Int)) = true := by rw [bne_iff_ne]; omega
    have HL := Lib.hid (show xs.length ≠ ys.length by rw [← HLA.out, ← HLB.out]; exact hl)
    clear hl
    go_enter Tryz.func57, Tryz.ntmps57
    go_wp2_with fail
    go_ret
    exact ⟨false, rfl, ⟨fun h => (by cases h), fun h => absurd (by rw [h]) HL.out⟩, Keeps.refl _ _⟩
set_option maxRecDepth 100000 in
set_option maxHeartbeats 4000000 in
theorem eqNode (w : World) (D E : Nat → Prop) (xs ys : List (Ny)) (A B : Option Addr) (L M C C' : Nat) (ha : Rd w D (.sl 8 (xs.flatMap Ny.row)) (.slice A L C)) (hb : Rd w E (.sl 8 (ys.flatMap Ny.row)) (.slice B M C'))
    (hcb : ∀ i (hi : i < xs.length) (hj : i < ys.length) (W : World) (wa : Option Addr) (wl wc : Nat) (ga : Option Addr) (gl gc : Nat) (ra : Option Addr) (rl rcp : Nat) (ka : Option Addr) (kl kc : Nat) (aa : Option Addr) (al ac : Nat) (wa' : Option Addr) (wl' wc' : Nat) (ga' : Option Addr) (gl' gc' : Nat) (ra' : Option Addr) (rl' rcp' : Nat) (ka' : Option Addr) (kl' kc' : Nat) (aa' : Option Addr) (al' ac' : Nat), Keeps (fun _ => False) w W → NyR W D xs[i] wa wl wc ga gl gc ra rl rcp ka kl kc aa al ac → NyR W E ys[i] wa' wl' wc' ga' gl' gc' ra' rl' rcp' ka' kl' kc' aa' al' ac' →
      Calls Tryz.prog 30 #[.agg #[.int .i64 xs[i].kind, .bool xs[i].nt, .string ⟨xs[i].nm.toArray⟩, .slice wa wl wc, .slice ga gl gc, .slice ra rl rcp, .slice ka kl kc, .slice aa al ac], .agg #[.int .i64 ys[i].kind, .bool ys[i].nt, .string ⟨ys[i].nm.toArray⟩, .slice wa' wl' wc', .slice ga' gl' gc', .slice ra' rl' rcp', .slice ka' kl' kc', .slice aa' al' ac']] W (SamePost W (xs[i] = ys[i]))) :
    Calls Tryz.prog 29 #[.slice A L C, .slice B M C', .func (.func 30) #[] #[]] w (SamePost w (xs = ys)) := by
  have hmx := rdBound (by decide) ha
  have hmy := rdBound (by decide) hb
  have HLA := Lib.hid (rdRecs (k := 8) (fun _ => rfl) (by decide) ha).1
  have HLB := Lib.hid (rdRecs (k := 8) (fun _ => rfl) (by decide) hb).1
  have HA := Lib.hid ha
  have HB := Lib.hid hb
  have HCB := Lib.hid hcb
  have hc8 := cells_node
  clear ha hb hcb
  by_cases hl : L = M
  · subst hl
    go_enter Tryz.func29, Tryz.ntmps29
    go_wp2_with fail
    go_loopw [17] (fun k' wr => ∃ k : Nat, k' = .int .i64 k ∧ k ≤ L ∧ Hid (xs.take k = ys.take k) ∧ Hid (Keeps (fun _ => False) w wr)) (fun k' _ => L - (intOf k').toNat)
    case atStart => exact ⟨0, rfl, Nat.zero_le _, Lib.hid rfl, Lib.hid (Keeps.refl _ _)⟩
    case round =>
      obtain ⟨k, rfl, hk, HT, HK⟩ := hrel
      by_cases hlt : k < L
      · have hlta : k < xs.length := by rw [← HLA.out]; exact hlt
        have hltb : k < ys.length := by rw [← HLB.out]; exact hlt
        obtain ⟨g, o, wa, wl, wc, ga, gl, gc, ra, rl, rcp, ka, kl, kc, aa, al, ac, h, hg, ⟨q0, q1, q2, q3, q4, q5, q6, q7⟩, hx⟩ := nodesAt2 (rdKeep0 HA.out HK.out) hlta
        obtain ⟨g', o', wa', wl', wc', ga', gl', gc', ra', rl', rcp', ka', kl', kc', aa', al', ac', h', hg', ⟨r0, r1, r2, r3, r4, r5, r6, r7⟩, hx'⟩ := nodesAt2 (rdKeep0 HB.out HK.out) hltb
        subst h h'
        have HC := Lib.hid (fun W (hw : Keeps (fun _ => False) wr W) => HCB.out k hlta hltb W _ _ _ _ _ _ _ _ _ _ _ _ _ _ _ _ _ _ _ _ _ _ _ _ _ _ _ _ _ _ (HK.out.trans hw (fun _ _ s => s)) (hx.keep0 hw) (hx'.keep0 hw))
        have HTK := Lib.hid (fun e : xs[k] = ys[k] => take_same hlta hltb HT.out e)
        have HNE := Lib.hid (show xs = ys → xs[k] = ys[k] from fun h => by simp only [h])
        obtain ⟨x, hxe⟩ : ∃ x, x = xs[k] := ⟨_, rfl⟩
        obtain ⟨y, hye⟩ : ∃ y, y = ys[k] := ⟨_, rfl⟩
        rw [← hxe, ← hye] at HC HTK HNE
        rw [← hxe] at q0 q1 q2
        rw [← hye] at r0 r1 r2
        clear hxe hye hlta hltb HT hx hx'
        have p1 : (k : Int) < (L : Int) := by omega
        go_wp2_with fail
        refine (HC.out _ ((Keeps.refl _ _).alloc _ |>.alloc _)).mono ?_
        rintro e w2 ⟨r, rfl, hr, hk2⟩
        have HK2 := Lib.hid ((HK.out.trans ((Keeps.refl _ _).alloc _ |>.alloc _) (fun _ _ h => h)).trans hk2 (fun _ _ h => h))
        cases r with
        | true =>
          have HWD := Lib.hid (hr.1 rfl)
          clear hr hk2 HC
          go_wp2_with fail
          go_roundw
          case rel => exact ⟨k + 1, by go_num, by omega, Lib.hid (HTK.out HWD.out), HK2⟩
          case measure => simp [intOf]; omega
        | false =>
          have HWD := Lib.hid (show x ≠ y from fun h => by have := hr.2 h; cases this)
          clear hr hk2 HC
          go_wp2_with fail
          go_ret
          exact ⟨false, rfl, ⟨fun h => (by cases h), fun h => absurd (HNE.out h) HWD.out⟩, HK2.out⟩
      · obtain rfl : k = L := by omega
        have HF := Lib.hid (take_all HLA.out HLB.out HT.out)
        have p1 : ¬ (k : Int) < (k : Int) := by omega
        go_wp2_with fail
        go_ret
        exact ⟨true, rfl, ⟨fun _ => HF.out, fun _ => rfl⟩, HK.out⟩
  · have e1 : ((L : Int) != (M : Int)) = true := by rw [bne_iff_ne]; omega
    have HL := Lib.hid (show xs.length ≠ ys.length by rw [← HLA.out, ← HLB.out]; exact hl)
    clear hl
    go_enter Tryz.func29, Tryz.ntmps29
    go_wp2_with fail
    go_ret
    exact ⟨false, rfl, ⟨fun h => (by cases h), fun h => absurd (by rw [h]) HL.out⟩, Keeps.refl _ _⟩
end Go.Proofs.YtiihpbccabeoeaaGreatDoor
