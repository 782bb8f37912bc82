/-
  SameParts: two words are one.
-/
import Derived.Test.YtnndnldpbdhkgaaLexAK
namespace Go.Proofs.Ytnndnldpbdhkgaa
open Go.RowKit
set_option linter.unusedVariables false

theorem Pt.ext {x y : Pt} (h0 : x.kind = y.kind) (h1 : x.text = y.text) (h2 : x.name = y.name) (h3 : x.op = y.op) (h4 : x.word = y.word) (h5 : x.quoted = y.quoted) : x = y := by
  cases x; cases y
  simp only [Pt.kind, Pt.text, Pt.name, Pt.op, Pt.word, Pt.quoted] at h0 h1 h2 h3 h4 h5
  subst h0 h1 h2 h3 h4 h5
  rfl
theorem PtCells.keep {w w' : World} {b o : Nat} {p : Pt} {v : Value} (hk : Keeps (fun _ => False) w w') (hb : b < w.heap.size) (h : PtCells w b o p v) : PtCells w' b o p v := fun j u hu => by
  rw [World.cell?_of_block (hk.block b hb (fun x => x))]
  exact h j u hu
/-- One part of two words. -/
theorem PtsAt.at {w wr : World} {D : Nat → Prop} {n : Nat} {l : List Pt} {ad : Option Addr} {k c i : Nat} (h : PtsAt w D n l (.slice ad k c)) (hk : Keeps (fun _ => False) w wr) (hi : i < l.length) :
    ∃ (g o : Nat) (xa : Option Addr) (xl xc : Nat), ad = some ⟨g, o, none⟩ ∧ Six wr g (o + i * 6) l[i] (.slice xa xl xc) ∧ PtsAt wr D (n - 1) l[i].word (.slice xa xl xc) ∧ 0 < n ∧ g < wr.heap.size := by
  cases n with
  | zero => obtain ⟨rfl, _⟩ := h; simp at hi
  | succ n =>
    obtain ⟨a, c, e, _, _, H⟩ := h
    obtain ⟨b, off, wv, ea, hb, hd, hc, hw⟩ := H i hi
    obtain ⟨xa, xc, rfl, _, _⟩ := hw.shape
    injection e with e1 e2 e3
    exact ⟨b, off, xa, _, xc, e1.trans ea, six_of (hc.keep hk hb), hw.keep hk (fun _ _ _ s => s), Nat.succ_pos _, Nat.lt_of_lt_of_le hb hk.size⟩

def SamePost (w : World) (P : Prop) (e : Ending) (w' : World) : Prop := ∃ r, e = .returned (.bool r) ∧ (r = true ↔ P) ∧ Keeps (fun _ => False) w w'

theorem take_same {α} {a b : List α} {k : Nat} (hk : k < a.length) (hk2 : k < b.length) (h : a.take k = b.take k) (e : a[k] = b[k]) : a.take (k + 1) = b.take (k + 1) := by
  rw [List.take_succ_eq_append_getElem hk, List.take_succ_eq_append_getElem hk2, h, e]

set_option maxRecDepth 100000 in
set_option maxHeartbeats 4000000 in
theorem same_parts (N : Nat) : ∀ (n : Nat), n < N → ∀ (m : Nat) (D E : Nat → Prop) (a b : List Pt) (va vb : Value) (w : World), PtsAt w D n a va → PtsAt w E m b vb →
    Calls Try.prog 18 #[va, vb] w (SamePost w (a = b)) := by
  induction N with
  | zero => intro n hn; omega
  | succ N ih =>
    intro n hn m D E a b va vb w ha hb
    obtain ⟨aa, ac, rfl, ha1, ha2⟩ := ha.shape
    obtain ⟨ba, bc, rfl, hb1, hb2⟩ := hb.shape
    have hc6 := cells_part
    have hmx : a.length ≤ 9223372036854775807 := by
      have h := Nat.le_trans ha1 ha2
      unfold maxLen at h
      omega
    by_cases hl : a.length = b.length
    · have e1 : ((a.length : Int) != (b.length : Int)) = false := by rw [bne_eq_false_iff_eq]; omega
      have HA := Lib.hid ha
      have HB := Lib.hid hb
      have HL := Lib.hid hl
      clear ha hb hl
      go_enter Try.func18, Try.ntmps18
      go_wp2_with fail
      go_loopw [5] (fun k' wr => ∃ k : Nat, k' = .int .i64 k ∧ k ≤ a.length ∧ Hid (a.take k = b.take k) ∧ Hid (Keeps (fun _ => False) w wr)) (fun k' _ => a.length - (intOf k').toNat)
      case atStart => exact ⟨0, rfl, Nat.zero_le _, Lib.hid rfl, Lib.hid (Keeps.refl _ _)⟩
      case round =>
        obtain ⟨k, rfl, hk, HT, HK⟩ := hrel
        by_cases hlt : k < a.length
        · have hltb : k < b.length := by have := HL.out; omega
          obtain ⟨g, o, xa, xl, xc, rfl, ⟨q0, q1, q2, q3, q4, q5⟩, hx, hn0, hg⟩ := HA.out.at HK.out hlt
          obtain ⟨g', o', ya, yl, yc, rfl, ⟨r0, r1, r2, r3, r4, r5⟩, hy, _, hg'⟩ := HB.out.at HK.out hltb
          obtain ⟨x, hxe⟩ : ∃ x, x = a[k] := ⟨_, rfl⟩
          obtain ⟨y, hye⟩ : ∃ y, y = b[k] := ⟨_, rfl⟩
          rw [← hxe] at q0 q1 q2 q3 q5 hx
          rw [← hye] at r0 r1 r2 r3 r5 hy
          unfold strV at q1 q2 q3 r1 r2 r3
          have HX := Lib.hid hx
          have HY := Lib.hid hy
          have HXE := Lib.hid hxe
          have HYE := Lib.hid hye
          clear hx hy hxe hye
          have p1 : (k : Int) < (a.length : Int) := by omega
          have p2 : (k : Int) < (b.length : Int) := by omega
          have hne : a = b → x = y := fun h => by
            rw [HXE.out, HYE.out]; simp only [h]
          have HNE := Lib.hid hne
          clear hne
          by_cases c0 : x.kind = y.kind
          · have t0 : ((x.kind : Int) != (y.kind : Int)) = false := by rw [bne_eq_false_iff_eq]; omega
            have C0 := Lib.hid c0
            clear c0
            cases t1 : (x.text == y.text) with
            | false =>
              go_wp2_with fail
              go_ret
              exact ⟨false, rfl, ⟨fun h => (by cases h), fun h => absurd (by rw [HNE.out h]) (ne_of_beq_false t1)⟩, (HK.out.alloc _).alloc _⟩
            | true =>
            cases t2 : (x.name == y.name) with
            | false =>
              go_wp2_with fail
              go_ret
              exact ⟨false, rfl, ⟨fun h => (by cases h), fun h => absurd (by rw [HNE.out h]) (ne_of_beq_false t2)⟩, (HK.out.alloc _).alloc _⟩
            | true =>
            cases t3 : (x.op == y.op) with
            | false =>
              go_wp2_with fail
              go_ret
              exact ⟨false, rfl, ⟨fun h => (by cases h), fun h => absurd (by rw [HNE.out h]) (ne_of_beq_false t3)⟩, (HK.out.alloc _).alloc _⟩
            | true =>
            obtain ⟨qx, hqx⟩ : ∃ q, q = x.quoted := ⟨_, rfl⟩
            obtain ⟨qy, hqy⟩ : ∃ q, q = y.quoted := ⟨_, rfl⟩
            rw [← hqx] at q5
            rw [← hqy] at r5
            by_cases t4 : qx = qy
            · have HQ := Lib.hid (hqx.symm.trans (t4.trans hqy))
              clear hqx hqy
              subst t4
              obtain ⟨W, hW⟩ : ∃ W, W = (wr.alloc (.cells #[.int .i64 (x.kind : Nat), .string ⟨x.text.toArray⟩, .string ⟨x.name.toArray⟩, .string ⟨x.op.toArray⟩, .slice xa xl xc, .bool qx] 39)).alloc (.cells #[.int .i64 (y.kind : Nat), .string ⟨y.text.toArray⟩, .string ⟨y.name.toArray⟩, .string ⟨y.op.toArray⟩, .slice ya yl yc, .bool qx] 39) := ⟨_, rfl⟩
              have hkW : Keeps (fun _ => False) wr W := by rw [hW]; exact ((Keeps.refl _ _).alloc _).alloc _
              have hcall := ih (n - 1) (by omega) (m - 1) D E x.word y.word _ _ W (HX.out.keep hkW (fun _ _ _ s => s)) (HY.out.keep hkW (fun _ _ _ s => s))
              have HC := Lib.hid hcall
              have HKW := Lib.hid (HK.out.trans hkW (fun _ _ s => s))
              have HW := Lib.hid hW
              clear hkW hcall hW
              have HT1 := Lib.hid (eq_of_beq t1)
              have HT2 := Lib.hid (eq_of_beq t2)
              have HT3 := Lib.hid (eq_of_beq t3)
              go_wp2_with fail
              rw [← HW.out]
              refine HC.out.mono ?_
              rintro e w2 ⟨r, rfl, hr, hk2⟩
              have HK2 := Lib.hid (HKW.out.trans hk2 (fun _ _ s => s))
              cases r with
              | true =>
                have hw := hr.1 rfl
                have HWD := Lib.hid hw
                clear hr hk2 hw
                go_wp2_with fail
                go_roundw
                case rel => exact ⟨k + 1, by go_num, by omega, Lib.hid (take_same hlt hltb HT.out (by rw [← HXE.out, ← HYE.out]; exact Pt.ext C0.out HT1.out HT2.out HT3.out HWD.out HQ.out)), HK2⟩
                case measure => simp [intOf]; omega
              | false =>
                have hw : x.word ≠ y.word := fun h => by have := hr.2 h; cases this
                have HWD := Lib.hid hw
                clear hr hk2 hw
                go_wp2_with fail
                go_ret
                exact ⟨false, rfl, ⟨fun h => (by cases h), fun h => absurd (by rw [HNE.out h]) HWD.out⟩, HK2.out⟩
            · have HQ := Lib.hid (show x.quoted ≠ y.quoted by rw [← hqx, ← hqy]; exact t4)
              clear hqx hqy
              cases qx <;> cases qy
              · exact absurd rfl t4
              · clear t4
                go_wp2_with fail
                go_ret
                exact ⟨false, rfl, ⟨fun h => (by cases h), fun h => absurd (by rw [HNE.out h]) HQ.out⟩, (HK.out.alloc _).alloc _⟩
              · clear t4
                go_wp2_with fail
                go_ret
                exact ⟨false, rfl, ⟨fun h => (by cases h), fun h => absurd (by rw [HNE.out h]) HQ.out⟩, (HK.out.alloc _).alloc _⟩
              · exact absurd rfl t4
          · have t0 : ((x.kind : Int) != (y.kind : Int)) = true := by rw [bne_iff_ne]; omega
            have C0 := Lib.hid c0
            clear c0
            go_wp2_with fail
            go_ret
            exact ⟨false, rfl, ⟨fun h => (by cases h), fun h => absurd (by rw [HNE.out h]) C0.out⟩, (HK.out.alloc _).alloc _⟩
        · obtain rfl : k = a.length := by omega
          have hfin : a = b := by
            have h := HT.out
            rw [List.take_length, HL.out, List.take_length] at h
            exact h
          have HF := Lib.hid hfin
          have p1 : ¬ (a.length : Int) < (a.length : Int) := by omega
          clear hfin
          go_wp2_with fail
          go_ret
          exact ⟨true, rfl, ⟨fun _ => HF.out, fun _ => rfl⟩, HK.out⟩
    · have e1 : ((a.length : Int) != (b.length : Int)) = true := by rw [bne_iff_ne]; omega
      have HL := Lib.hid hl
      clear ha hb hl
      go_enter Try.func18, Try.ntmps18
      go_wp2_with fail
      go_ret
      exact ⟨false, rfl, ⟨fun h => (by cases h), fun h => absurd (by rw [h]) HL.out⟩, Keeps.refl _ _⟩
theorem sameparts_any (n m : Nat) (D E : Nat → Prop) (a b : List Pt) (va vb : Value) (w : World) (ha : PtsAt w D n a va) (hb : PtsAt w E m b vb) :
    Calls Try.prog 18 #[va, vb] w (SamePost w (a = b)) := same_parts (n + 1) n (Nat.lt_succ_self _) m D E a b va vb w ha hb
end Go.Proofs.Ytnndnldpbdhkgaa
