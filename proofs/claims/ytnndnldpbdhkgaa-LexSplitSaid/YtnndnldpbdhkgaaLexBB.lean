/-
  SameTokens: two lists of tokens are one.
-/
import Derived.Test.YtnndnldpbdhkgaaLexBA
import Derived.StillTailTactics
namespace Go.Proofs.Ytnndnldpbdhkgaa
open Go.RowKit
set_option linter.unusedVariables false

theorem Tk.ext3 {x y : Tk} (h0 : x.kind = y.kind) (h1 : x.text = y.text) (h2 : x.word = y.word) : x = y := by
  cases x; cases y
  simp only at h0 h1 h2
  subst h0 h1 h2
  rfl
/-- The three cells, one by one. -/
def Three (w : World) (b o : Nat) (p : Tk) (v : Value) : Prop :=
  w.cell? ⟨b, o, none⟩ = some (.int .i64 (p.kind : Nat)) ∧ w.cell? ⟨b, o + 1, none⟩ = some (strV p.text) ∧ w.cell? ⟨b, o + 2, none⟩ = some v
theorem three_of {w : World} {b o : Nat} {p : Tk} {v : Value} (h : TkCells w b o p v) : Three w b o p v :=
  ⟨h 0 _ rfl, h 1 _ rfl, h 2 _ rfl⟩
theorem TksAt.shape {w : World} {D : Nat → Prop} {n : Nat} {l : List Tk} {v : Value} (h : TksAt w D n l v) : ∃ a c, v = .slice a l.length c ∧ l.length ≤ c ∧ c ≤ maxLen := by
  obtain ⟨a, c, e, h1, h2, _⟩ := h
  exact ⟨a, c, e, h1, h2⟩
theorem TksAt.at {w wr : World} {D : Nat → Prop} {n : Nat} {l : List Tk} {ad : Option Addr} {k c i : Nat} (h : TksAt w D n l (.slice ad k c)) (hk : Keeps (fun _ => False) w wr) (hi : i < l.length) :
    ∃ (g o : Nat) (xa : Option Addr) (xl xc : Nat), ad = some ⟨g, o, none⟩ ∧ Three wr g (o + i * 3) l[i] (.slice xa xl xc) ∧ PtsAt wr D n l[i].word (.slice xa xl xc) ∧ g < wr.heap.size := by
  obtain ⟨a, c, e, _, _, H⟩ := h
  obtain ⟨b, off, wv, ea, hb, hd, hc, hw⟩ := H i hi
  obtain ⟨xa, xc, rfl, _, _⟩ := hw.shape
  injection e with e1 e2 e3
  refine ⟨b, off, xa, _, xc, e1.trans ea, three_of fun j u hu => ?_, hw.keep hk (fun _ _ _ s => s), Nat.lt_of_lt_of_le hb hk.size⟩
  rw [World.cell?_of_block (hk.block b hb (fun x => x))]
  exact hc j u hu

set_option maxRecDepth 100000 in
set_option maxHeartbeats 4000000 in
theorem sametokens_any (n m : Nat) (D E : Nat → Prop) (a b : List Tk) (va vb : Value) (w : World) (ha : TksAt w D n a va) (hb : TksAt w E m b vb) :
    Calls Try.prog 17 #[va, vb] w (SamePost w (a = b)) := by
  obtain ⟨aa, ac, rfl, ha1, ha2⟩ := ha.shape
  obtain ⟨ba, bc, rfl, hb1, hb2⟩ := hb.shape
  have hc3 := cells_token
  have hmx : a.length ≤ 9223372036854775807 := by
    have h := Nat.le_trans ha1 ha2
    unfold maxLen at h
    omega
  by_cases hl : a.length = b.length
  · have e1 : ((a.length : Int) != (b.length : Int)) = false := by rw [bne_eq_false_iff_eq]; omega
    have HA := Lib.hid ha
    have HB := Lib.hid hb
    have HL := Lib.hid hl
    clear ha hb hl
    go_enter Try.func17, Try.ntmps17
    go_wp2_with fail
    go_loopw [5] (fun k' wr => ∃ k : Nat, k' = .int .i64 k ∧ k ≤ a.length ∧ Hid (a.take k = b.take k) ∧ Hid (Keeps (fun _ => False) w wr)) (fun k' _ => a.length - (intOf k').toNat)
    case atStart => exact ⟨0, rfl, Nat.zero_le _, Lib.hid rfl, Lib.hid (Keeps.refl _ _)⟩
    case round =>
      obtain ⟨k, rfl, hk, HT, HK⟩ := hrel
      by_cases hlt : k < a.length
      · have hltb : k < b.length := by have := HL.out; omega
        obtain ⟨g, o, xa, xl, xc, rfl, ⟨q0, q1, q2⟩, hx, hg⟩ := HA.out.at HK.out hlt
        obtain ⟨g', o', ya, yl, yc, rfl, ⟨r0, r1, r2⟩, hy, hg'⟩ := HB.out.at HK.out hltb
        obtain ⟨x, hxe⟩ : ∃ x, x = a[k] := ⟨_, rfl⟩
        obtain ⟨y, hye⟩ : ∃ y, y = b[k] := ⟨_, rfl⟩
        rw [← hxe] at q0 q1 hx
        rw [← hye] at r0 r1 hy
        unfold strV at q1 r1
        have HX := Lib.hid hx
        have HY := Lib.hid hy
        have HXE := Lib.hid hxe
        have HYE := Lib.hid hye
        clear hx hy hxe hye
        have p1 : (k : Int) < (a.length : Int) := by omega
        have p2 : (k : Int) < (b.length : Int) := by omega
        have hne : a = b → x = y := fun h => by
          rw [HXE.out, HYE.out]; simp only [h]
        have HNE := Lib.hid hne
        clear hne
        by_cases c0 : x.kind = y.kind
        · have t0 : ((x.kind : Int) != (y.kind : Int)) = false := by rw [bne_eq_false_iff_eq]; omega
          have C0 := Lib.hid c0
          clear c0
          cases t1 : (x.text == y.text) with
          | false =>
            go_wp2_with fail
            go_quiet (fail)
            go_wp2_with fail
            go_ret
            exact ⟨false, rfl, ⟨fun h => (by cases h), fun h => absurd (by rw [HNE.out h]) (ne_of_beq_false t1)⟩, HK.out.drewN _⟩
          | true =>
            have HT1 := Lib.hid (eq_of_beq t1)
            go_wp2_with fail
            go_still_tail 35, (by kernel_rfl)
            change wpList _ _ _ _ _ wr.drew
            obtain ⟨W, hW⟩ : ∃ W, W = wr.drew := ⟨_, rfl⟩
            rw [← hW]
            have hkW : Keeps (fun _ => False) wr W := by rw [hW]; exact (Keeps.refl _ _).drew
            have hcall := sameparts_any n m D E x.word y.word _ _ W (HX.out.keep hkW (fun _ _ _ s => s)) (HY.out.keep hkW (fun _ _ _ s => s))
            have HC := Lib.hid hcall
            have HKW := Lib.hid (HK.out.trans hkW (fun _ _ s => s))
            clear hkW hcall hW
            go_wp2_with fail
            refine HC.out.mono ?_
            rintro e w2 ⟨r, rfl, hr, hk2⟩
            have HK2 := Lib.hid (HKW.out.trans hk2 (fun _ _ s => s))
            cases r with
            | true =>
              have hw := hr.1 rfl
              have HWD := Lib.hid hw
              clear hr hk2 hw
              go_wp2_with fail
              go_roundw
              case rel => exact ⟨k + 1, by go_num, by omega, Lib.hid (take_same hlt hltb HT.out (by rw [← HXE.out, ← HYE.out]; exact Tk.ext3 C0.out HT1.out HWD.out)), HK2⟩
              case measure => simp [intOf]; omega
            | false =>
              have hw : x.word ≠ y.word := fun h => by have := hr.2 h; cases this
              have HWD := Lib.hid hw
              clear hr hk2 hw
              go_wp2_with fail
              go_ret
              exact ⟨false, rfl, ⟨fun h => (by cases h), fun h => absurd (by rw [HNE.out h]) HWD.out⟩, HK2.out⟩
        · have t0 : ((x.kind : Int) != (y.kind : Int)) = true := by rw [bne_iff_ne]; omega
          have C0 := Lib.hid c0
          clear c0
          go_wp2_with fail
          go_quiet (fail)
          go_wp2_with fail
          go_ret
          exact ⟨false, rfl, ⟨fun h => (by cases h), fun h => absurd (by rw [HNE.out h]) C0.out⟩, HK.out.drewN _⟩
      · obtain rfl : k = a.length := by omega
        have hfin : a = b := by
          have h := HT.out
          rw [List.take_length, HL.out, List.take_length] at h
          exact h
        have HF := Lib.hid hfin
        have p1 : ¬ (a.length : Int) < (a.length : Int) := by omega
        clear hfin
        go_wp2_with fail
        go_ret
        exact ⟨true, rfl, ⟨fun _ => HF.out, fun _ => rfl⟩, HK.out⟩
  · have e1 : ((a.length : Int) != (b.length : Int)) = true := by rw [bne_iff_ne]; omega
    have HL := Lib.hid hl
    clear ha hb hl
    go_enter Try.func17, Try.ntmps17
    go_wp2_with fail
    go_ret
    exact ⟨false, rfl, ⟨fun h => (by cases h), fun h => absurd (by rw [h]) HL.out⟩, Keeps.refl _ _⟩
end Go.Proofs.Ytnndnldpbdhkgaa
