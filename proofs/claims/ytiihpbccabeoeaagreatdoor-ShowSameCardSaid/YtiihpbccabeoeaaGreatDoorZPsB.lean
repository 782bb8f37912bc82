/-
  The document's SameParts and SameWords, of words of any kind.
-/
import Derived.Test.YtiihpbccabeoeaaGreatDoorZPsA
import Derived.Test.YtiihpbccabeoeaaGreatDoorZPkD
import Derived.StillTailTactics
namespace Go.Proofs.YtiihpbccabeoeaaGreatDoor
open Go.RowKit
set_option linter.unusedVariables false
theorem PartsD.out {n : Nat} {ds : List Dt} (h : PartsD n ds) : ∃ xs : List Px, ds = xs.flatMap Px.row ∧ ∀ x ∈ xs, 0 < n ∧ PartsD (n - 1) x.word := by
  cases n with
  | zero => exact ⟨[], h, fun x hx => by cases hx⟩
  | succ n =>
    obtain ⟨xs, h1, h2⟩ := h
    exact ⟨xs, h1, fun x hx => ⟨Nat.succ_pos _, h2 x hx⟩⟩
theorem Px.ext' {x y : Px} (h0 : x.kind = y.kind) (h1 : x.text = y.text) (h2 : x.name = y.name) (h3 : x.op = y.op) (h4 : x.word = y.word) (h5 : x.quoted = y.quoted) : x = y := by
  cases x; cases y
  dsimp only at h0 h1 h2 h3 h4 h5
  subst h0 h1 h2 h3 h4 h5
  rfl
theorem px_iff {xs ys : List Px} : xs.flatMap Px.row = ys.flatMap Px.row ↔ xs = ys := ⟨flatInj (k := 6) (by decide) (fun _ => rfl) px_inj xs ys, fun h => by rw [h]⟩
theorem rdKeep0 {w w' : World} {D : Nat → Prop} {d : Dt} {v : Value} (h : Rd w D d v) (hk : Keeps (fun _ => False) w w') : Rd w' D d v := h.keep hk (fun _ _ _ h => h)
set_option maxRecDepth 100000 in
set_option maxHeartbeats 4000000 in
theorem sameP (N : Nat) : ∀ (n : Nat), n < N → ∀ (m : Nat) (D E : Nat → Prop) (ds es : List Dt) (va vb : Value) (w : World), PartsD n ds → PartsD m es → Rd w D (.sl 6 ds) va → Rd w E (.sl 6 es) vb →
    Calls Tryz.prog 14 #[va, vb] w (SamePost w (ds = es)) := by
  induction N with
  | zero => intro n hn; omega
  | succ N ih =>
    intro n hn m D E ds es va vb w hds hes ha hb
    obtain ⟨xs, rfl, hxs⟩ := hds.out
    obtain ⟨ys, rfl, hys⟩ := hes.out
    obtain ⟨aa, al, ac, rfl⟩ := rdSl (by decide) ha
    obtain ⟨ba, bl, bc, rfl⟩ := rdSl (by decide) hb
    have hmx := rdBound (by decide) ha
    have hmy := rdBound (by decide) hb
    have hla := (rdRecs (k := 6) (fun _ => rfl) (by decide) ha).1
    have hlb := (rdRecs (k := 6) (fun _ => rfl) (by decide) hb).1
    have hc6 := cells_part
    rw [px_iff]
    have HLA := Lib.hid hla
    have HLB := Lib.hid hlb
    have HA := Lib.hid ha
    have HB := Lib.hid hb
    have HXS := Lib.hid hxs
    have HYS := Lib.hid hys
    have HIH := Lib.hid ih
    clear ha hb hla hlb hxs hys hds hes ih
    by_cases hl : al = bl
    · subst hl
      have HL := Lib.hid (show xs.length = ys.length by rw [← HLA.out, ← HLB.out])
      go_enter Tryz.func14, Tryz.ntmps14
      go_wp2_with fail
      go_loopw [5] (fun k' wr => ∃ k : Nat, k' = .int .i64 k ∧ k ≤ al ∧ Hid (xs.take k = ys.take k) ∧ Hid (Keeps (fun _ => False) w wr)) (fun k' _ => al - (intOf k').toNat)
      case atStart => exact ⟨0, rfl, Nat.zero_le _, Lib.hid rfl, Lib.hid (Keeps.refl _ _)⟩
      case round =>
        obtain ⟨k, rfl, hk, HT, HK⟩ := hrel
        by_cases hlt : k < al
        · have hlta : k < xs.length := by rw [← HLA.out]; exact hlt
          have hltb : k < ys.length := by rw [← HLB.out]; exact hlt
          obtain ⟨g, o, xa, xl, xc, rfl, hg, ⟨q0, q1, q2, q3, q4, q5⟩, hx⟩ := partsAt (rdKeep0 HA.out HK.out) hlta
          obtain ⟨g', o', ya, yl, yc, rfl, hg', ⟨r0, r1, r2, r3, r4, r5⟩, hy⟩ := partsAt (rdKeep0 HB.out HK.out) hltb
          obtain ⟨hn0, hxw⟩ := HXS.out _ (List.getElem_mem hlta)
          obtain ⟨_, hyw⟩ := HYS.out _ (List.getElem_mem hltb)
          obtain ⟨x, hxe⟩ : ∃ x, x = xs[k] := ⟨_, rfl⟩
          obtain ⟨y, hye⟩ : ∃ y, y = ys[k] := ⟨_, rfl⟩
          rw [← hxe] at q0 q1 q2 q3 q5 hx hxw
          rw [← hye] at r0 r1 r2 r3 r5 hy hyw
          have HX := Lib.hid hx
          have HY := Lib.hid hy
          have HXW := Lib.hid hxw
          have HYW := Lib.hid hyw
          have HTK := Lib.hid (fun e : x = y => take_same hlta hltb HT.out (by rw [← hxe, ← hye]; exact e))
          have HNE := Lib.hid (show xs = ys → x = y from fun h => by
            rw [hxe, hye]; simp only [h])
          clear hx hy hxe hye hxw hyw hlta hltb HT
          have p1 : (k : Int) < (al : Int) := by omega
          obtain ⟨kx, hkx⟩ : ∃ q, q = x.kind := ⟨_, rfl⟩
          obtain ⟨ky, hky⟩ : ∃ q, q = y.kind := ⟨_, rfl⟩
          rw [← hkx] at q0
          rw [← hky] at r0
          by_cases c0 : kx = ky
          · have t0 : (ky != ky) = false := by simp
            have C0 := Lib.hid (hkx.symm.trans (c0.trans hky))
            clear hkx hky
            subst c0
            cases t1 : (x.text == y.text) with
            | false =>
              go_wp2_with fail
              go_ret
              exact ⟨false, rfl, ⟨fun h => (by cases h), fun h => absurd (by rw [HNE.out h]) (ne_of_beq_false t1)⟩, (HK.out.alloc _).alloc _⟩
            | true =>
            cases t2 : (x.name == y.name) with
            | false =>
              go_wp2_with fail
              go_ret
              exact ⟨false, rfl, ⟨fun h => (by cases h), fun h => absurd (by rw [HNE.out h]) (ne_of_beq_false t2)⟩, (HK.out.alloc _).alloc _⟩
            | true =>
            cases t3 : (x.op == y.op) with
            | false =>
              go_wp2_with fail
              go_ret
              exact ⟨false, rfl, ⟨fun h => (by cases h), fun h => absurd (by rw [HNE.out h]) (ne_of_beq_false t3)⟩, (HK.out.alloc _).alloc _⟩
            | true =>
            obtain ⟨qx, hqx⟩ : ∃ q, q = x.quoted := ⟨_, rfl⟩
            obtain ⟨qy, hqy⟩ : ∃ q, q = y.quoted := ⟨_, rfl⟩
            rw [← hqx] at q5
            rw [← hqy] at r5
            by_cases t4 : qx = qy
            · have HQ := Lib.hid (hqx.symm.trans (t4.trans hqy))
              clear hqx hqy
              subst t4
              obtain ⟨W, hW⟩ : ∃ W, W = (wr.alloc (.cells #[.int .i64 kx, .string ⟨x.text.toArray⟩, .string ⟨x.name.toArray⟩, .string ⟨x.op.toArray⟩, .slice xa xl xc, .bool qx] 67)).alloc (.cells #[.int .i64 kx, .string ⟨y.text.toArray⟩, .string ⟨y.name.toArray⟩, .string ⟨y.op.toArray⟩, .slice ya yl yc, .bool qx] 67) := ⟨_, rfl⟩
              have hkW : Keeps (fun _ => False) wr W := by rw [hW]; exact ((Keeps.refl _ _).alloc _).alloc _
              have HC := Lib.hid (HIH.out (n - 1) (by omega) (m - 1) D E x.word y.word _ _ W HXW.out HYW.out (rdKeep0 HX.out hkW) (rdKeep0 HY.out hkW))
              have HKW := Lib.hid (HK.out.trans hkW (fun _ _ s => s))
              have HW := Lib.hid hW
              clear hkW hW
              have HT1 := Lib.hid (eq_of_beq t1)
              have HT2 := Lib.hid (eq_of_beq t2)
              have HT3 := Lib.hid (eq_of_beq t3)
              go_wp2_with fail
              rw [← HW.out]
              refine HC.out.mono ?_
              rintro e w2 ⟨r, rfl, hr, hk2⟩
              have HK2 := Lib.hid (HKW.out.trans hk2 (fun _ _ s => s))
              cases r with
              | true =>
                have HWD := Lib.hid (hr.1 rfl)
                clear hr hk2
                go_wp2_with fail
                go_roundw
                case rel => exact ⟨k + 1, by go_num, by omega, Lib.hid (HTK.out (Px.ext' C0.out HT1.out HT2.out HT3.out HWD.out HQ.out)), HK2⟩
                case measure => simp [intOf]; omega
              | false =>
                have HWD := Lib.hid (show x.word ≠ y.word from fun h => by have := hr.2 h; cases this)
                clear hr hk2
                go_wp2_with fail
                go_ret
                exact ⟨false, rfl, ⟨fun h => (by cases h), fun h => absurd (by rw [HNE.out h]) HWD.out⟩, HK2.out⟩
            · have HQ := Lib.hid (show x.quoted ≠ y.quoted by rw [← hqx, ← hqy]; exact t4)
              clear hqx hqy
              cases qx <;> cases qy
              · exact absurd rfl t4
              · clear t4
                go_wp2_with fail
                go_ret
                exact ⟨false, rfl, ⟨fun h => (by cases h), fun h => absurd (by rw [HNE.out h]) HQ.out⟩, (HK.out.alloc _).alloc _⟩
              · clear t4
                go_wp2_with fail
                go_ret
                exact ⟨false, rfl, ⟨fun h => (by cases h), fun h => absurd (by rw [HNE.out h]) HQ.out⟩, (HK.out.alloc _).alloc _⟩
              · exact absurd rfl t4
          · have t0 : (kx != ky) = true := by rw [bne_iff_ne]; exact c0
            have C0 := Lib.hid (show x.kind ≠ y.kind by rw [← hkx, ← hky]; exact c0)
            clear c0 hkx hky
            go_wp2_with fail
            go_ret
            exact ⟨false, rfl, ⟨fun h => (by cases h), fun h => absurd (by rw [HNE.out h]) C0.out⟩, (HK.out.alloc _).alloc _⟩
        · obtain rfl : k = al := by omega
          have HF := Lib.hid (show xs = ys by
            have h := HT.out
            rw [List.take_of_length_le (by rw [← HLA.out]; exact Nat.le_refl _), List.take_of_length_le (by rw [← HLB.out]; exact Nat.le_refl _)] at h
            exact h)
          have p1 : ¬ (k : Int) < (k : Int) := by omega
          go_wp2_with fail
          go_ret
          exact ⟨true, rfl, ⟨fun _ => HF.out, fun _ => rfl⟩, HK.out⟩
    · have e1 : ((al : Int) != (bl : Int)) = true := by rw [bne_iff_ne]; omega
      have HL := Lib.hid (show xs.length ≠ ys.length by rw [← HLA.out, ← HLB.out]; exact hl)
      clear hl
      go_enter Tryz.func14, Tryz.ntmps14
      go_wp2_with fail
      go_ret
      exact ⟨false, rfl, ⟨fun h => (by cases h), fun h => absurd (by rw [h]) HL.out⟩, Keeps.refl _ _⟩
theorem samePx (n m : Nat) (D E : Nat → Prop) (ds es : List Dt) (va vb : Value) (w : World) (hds : PartsD n ds) (hes : PartsD m es) (ha : Rd w D (.sl 6 ds) va) (hb : Rd w E (.sl 6 es) vb) :
    Calls Tryz.prog 14 #[va, vb] w (SamePost w (ds = es)) := sameP (n + 1) n (Nat.lt_succ_self _) m D E ds es va vb w hds hes ha hb
set_option maxRecDepth 100000 in
set_option maxHeartbeats 4000000 in
theorem sameWx (w : World) (D E : Nat → Prop) (n m : Nat) (xs ys : List (List Dt)) (hxs : ∀ v ∈ xs, PartsD n v) (hys : ∀ v ∈ ys, PartsD m v) (va vb : Value) (ha : Rd w D (.sl 1 (xs.flatMap wdD)) va) (hb : Rd w E (.sl 1 (ys.flatMap wdD)) vb) :
    Calls Tryz.prog 36 #[va, vb] w (SamePost w (xs = ys)) := by
  obtain ⟨aa, al, ac, rfl⟩ := rdSl (by decide) ha
  obtain ⟨ba, bl, bc, rfl⟩ := rdSl (by decide) hb
  have hmx := rdBound (by decide) ha
  have hmy := rdBound (by decide) hb
  have HLA := Lib.hid (rdRecs (k := 1) (fun _ => rfl) (by decide) ha).1
  have HLB := Lib.hid (rdRecs (k := 1) (fun _ => rfl) (by decide) hb).1
  have HA := Lib.hid ha
  have HB := Lib.hid hb
  have HXS := Lib.hid hxs
  have HYS := Lib.hid hys
  clear ha hb hxs hys
  by_cases hl : al = bl
  · subst hl
    go_enter Tryz.func36, Tryz.ntmps36
    go_wp2_with fail
    go_loopw [5] (fun k' wr => ∃ k : Nat, k' = .int .i64 k ∧ k ≤ al ∧ Hid (xs.take k = ys.take k) ∧ Hid (Keeps (fun _ => False) w wr)) (fun k' _ => al - (intOf k').toNat)
    case atStart => exact ⟨0, rfl, Nat.zero_le _, Lib.hid rfl, Lib.hid (Keeps.refl _ _)⟩
    case round =>
      obtain ⟨k, rfl, hk, HT, HK⟩ := hrel
      by_cases hlt : k < al
      · have hlta : k < xs.length := by rw [← HLA.out]; exact hlt
        have hltb : k < ys.length := by rw [← HLB.out]; exact hlt
        obtain ⟨g, o, xa, xl, xc, rfl, hg, q0, hx⟩ := wordsAt (rdKeep0 HA.out HK.out) hlta
        obtain ⟨g', o', ya, yl, yc, rfl, hg', r0, hy⟩ := wordsAt (rdKeep0 HB.out HK.out) hltb
        have HC := Lib.hid (fun W (h : Keeps (fun _ => False) wr W) => samePx n m D E xs[k] ys[k] _ _ W (HXS.out _ (List.getElem_mem hlta)) (HYS.out _ (List.getElem_mem hltb)) (rdKeep0 hx h) (rdKeep0 hy h))
        have HTK := Lib.hid (fun e : xs[k] = ys[k] => take_same hlta hltb HT.out e)
        have HNE := Lib.hid (show xs = ys → xs[k] = ys[k] from fun h => by simp only [h])
        have p1 : (k : Int) < (al : Int) := by omega
        obtain ⟨x, hxe⟩ : ∃ x, x = xs[k] := ⟨_, rfl⟩
        obtain ⟨y, hye⟩ : ∃ y, y = ys[k] := ⟨_, rfl⟩
        rw [← hxe, ← hye] at HC HTK HNE
        clear hx hy hxe hye hlta hltb HT
        go_wp2_with fail
        go_still_tail 8, (by kernel_rfl)
        change wpList _ _ _ _ _ wr.drew
        go_wp2_with fail
        refine (HC.out _ (Keeps.refl _ _).drew).mono ?_
        rintro e w2 ⟨r, rfl, hr, hk2⟩
        have HK2 := Lib.hid ((HK.out.trans ((Keeps.refl (fun _ => False) wr).drew) (fun _ _ h => h)).trans hk2 (fun _ _ h => h))
        cases r with
        | true =>
          have HWD := Lib.hid (hr.1 rfl)
          clear hr hk2 HC
          go_wp2_with fail
          go_roundw
          case rel => exact ⟨k + 1, by go_num, by omega, Lib.hid (HTK.out HWD.out), HK2⟩
          case measure => simp [intOf]; omega
        | false =>
          have HWD := Lib.hid (show x ≠ y from fun h => by have := hr.2 h; cases this)
          clear hr hk2 HC
          go_wp2_with fail
          go_ret
          exact ⟨false, rfl, ⟨fun h => (by cases h), fun h => absurd (HNE.out h) HWD.out⟩, HK2.out⟩
      · obtain rfl : k = al := by omega
        have HF := Lib.hid (show xs = ys by
          have h := HT.out
          rw [List.take_of_length_le (by rw [← HLA.out]; exact Nat.le_refl _), List.take_of_length_le (by rw [← HLB.out]; exact Nat.le_refl _)] at h
          exact h)
        have p1 : ¬ (k : Int) < (k : Int) := by omega
        go_wp2_with fail
        go_ret
        exact ⟨true, rfl, ⟨fun _ => HF.out, fun _ => rfl⟩, HK.out⟩
  · have e1 : ((al : Int) != (bl : Int)) = true := by rw [bne_iff_ne]; omega
    have HL := Lib.hid (show xs.length ≠ ys.length by rw [← HLA.out, ← HLB.out]; exact hl)
    clear hl
    go_enter Tryz.func36, Tryz.ntmps36
    go_wp2_with fail
    go_ret
    exact ⟨false, rfl, ⟨fun h => (by cases h), fun h => absurd (by rw [h]) HL.out⟩, Keeps.refl _ _⟩
end Go.Proofs.YtiihpbccabeoeaaGreatDoor
