/-
  The contracts of long, name.
-/
import Derived.Test.YtnndnldpbdhkgaaLexO
import Derived.RegionTactic
import Derived.ChangeAlike
namespace Go.Proofs.Ytnndnldpbdhkgaa
open Go.RowKit
set_option linter.unusedVariables false

theorem byteAt_rest (s : ByteArray) (i : Nat) : byteAt s i = (rest s i).headD 0 := by
  unfold byteAt rest
  rw [List.getD_eq_getElem?_getD, List.headD_eq_head?_getD, List.head?_drop]
theorem headIs_at {c : UInt8} (hc : c ≠ 0) (s : ByteArray) (i : Nat) : headIs c (rest s i) = (byteAt s i == c) := by
  rw [byteAt_rest]
  cases rest s i with
  | nil =>
    show false = (0 == c)
    rw [eq_comm, beq_eq_false_iff_ne]
    exact Ne.symm hc
  | cons x t => rfl
theorem u8_eq {x c : UInt8} : (((x.toNat : Nat) : Int) == ((c.toNat : Nat) : Int)) = (x == c) := by
  rw [Bool.eq_iff_iff, beq_iff_eq, beq_iff_eq]
  constructor
  · intro h; exact UInt8.toNat.inj (by omega)
  · intro h; rw [h]
theorem u8_ne {x c : UInt8} : (((x.toNat : Nat) : Int) != ((c.toNat : Nat) : Int)) = !(x == c) := by
  show (!(((x.toNat : Nat) : Int) == ((c.toNat : Nat) : Int))) = _
  rw [u8_eq]
theorem at0_any (b : Nat) (s : ByteArray) (i : Nat) (d : Int) (w : World) (h : ScanAt w b s i d) (hs : s.size ≤ 140737488351232) (hi : i ≤ 140737488351232) :
    Calls Try.prog 42 #[.pointer (some ⟨b, 0, none⟩), .int .i64 0] w fun e w' => e = .returned (.int .u8 (byteAt s i).toNat) ∧ Drawn w w' :=
  at_any b s i 0 d w h hs hi (by omega)

def LongPost (w : World) (b : Nat) (s : ByteArray) (r : Bool) (j d : Int) (e : Ending) (w' : World) : Prop :=
  e = .returned (.bool r) ∧ ScanAt w' b s j d ∧ Keeps (fun k => k = b) w w'

set_option maxHeartbeats 1000000 in
theorem long_any (b : Nat) (s : ByteArray) (i : Nat) (d : Int) (w : World) (h : ScanAt w b s i d) (hs : s.size ≤ 140737488351232) (hi : i ≤ s.size) :
    Calls Try.prog 75 #[.pointer (some ⟨b, 0, none⟩)] w (LongPost w b s (longB (rest s i)) ((i + (longB (rest s i)).toNat : Nat) : Int) d) := by
  obtain ⟨r, hr⟩ : ∃ r, r = longB (rest s i) := ⟨_, rfl⟩
  rw [← hr]
  cases h1 : headIs 35 (rest s i)
  · have hl : longB (rest s i) = false := by unfold longB; rw [h1]; rfl
    rw [hl] at hr
    subst hr
    have hb : (((byteAt s i).toNat : Int) != 35) = true := by
      rw [headIs_at (by decide)] at h1
      have := u8_ne (x := byteAt s i) (c := 35)
      rw [h1] at this
      exact this
    clear hl h1
    go_enter Try.func75, Try.ntmps75
    go_wp2_with fail
    refine (at0_any b s i d _ h hs (by omega)).mono ?_
    rintro e w1 ⟨rfl, q, rfl⟩
    go_wp2_with fail
    go_ret
    exact ⟨rfl, h.drewN _, (Keeps.refl _ _).drewN _⟩
  · have hb : (((byteAt s i).toNat : Int) != 35) = false := by
      rw [headIs_at (by decide)] at h1
      have := u8_ne (x := byteAt s i) (c := 35)
      rw [h1] at this
      exact this
    have HR := Lib.hid hr; clear hr
    obtain ⟨c0, c1, c2, f1, f2⟩ := h.cells
    have hi2 : i < s.size := by
      rcases Nat.lt_or_ge i s.size with x | x
      · exact x
      · have : rest s i = [] := List.eq_nil_of_length_eq_zero (by rw [rest_len]; omega)
        rw [this] at h1; cases h1
    have htail : (rest s i).tail = rest s (i + 1) := by rw [← rest_drop, List.drop_one]
    have ew : IntKind.i64.wrap ((i : Int) + 1) = (i : Int) + 1 := IntWalk.i64_in _ (by omega)
    go_enter Try.func75, Try.ntmps75
    go_wp2_with fail
    refine (at0_any b s i d _ h hs (by omega)).mono ?_
    rintro e w1 ⟨rfl, q, rfl⟩
    go_wp2_with fail
    go_region
    go_wp2_with fail
    obtain ⟨w1, hw1⟩ : ∃ w1, w1 = (w.drewN (q + 1)).alloc (.cells #[.string s, .int .i64 ((i : Int) + 1), .int .i64 0] 55) := ⟨_, rfl⟩
    rw [← hw1]
    have hB : ScanAt w1 w.heap.size s ((i + 1 : Nat) : Int) 0 := by rw [hw1]; exact ScanAt.new (w.drewN (q + 1)) s _ _ _
    have hb1 : ScanAt w1 b s i d := by rw [hw1]; exact (h.drewN _).alloc _
    have hk1 : Keeps (fun k => k = b) w w1 := by rw [hw1]; exact ((Keeps.refl _ _).drewN _).alloc _
    have lb := h.lt
    have hne : b ≠ w.heap.size := by omega
    have hBlt := Nat.le_refl w.heap.size
    generalize hBe : w.heap.size = B at hB hne hBlt lb ⊢
    have HBE := Lib.hid hBe; clear hBe
    have HW1 := Lib.hid hw1; clear hw1 h c0 c1 c2 f1 f2
    cases h2 : headIs 125 (rest s (i + 1))
    · have hb2 : (((byteAt s (i + 1)).toNat : Int) == 125) = false := by
        rw [headIs_at (by decide)] at h2
        have := u8_eq (x := byteAt s (i + 1)) (c := 125)
        rw [h2] at this
        exact this
      have hl : r = (opF (rest s (i + 1))).isEmpty := by
        rw [HR.out]
        unfold longB
        rw [h1, htail, h2]; simp
      have HL := Lib.hid hl; clear hl h1 h2
      have HB := Lib.hid hB; clear hB
      refine (at0_any B s (i + 1) 0 _ HB.out hs (by omega)).mono ?_
      rintro e w2 ⟨rfl, q2, rfl⟩
      go_wp2_with fail
      refine (op_any B s (i + 1) 0 _ (HB.out.drewN q2) hs (by omega)).mono ?_
      rintro e w3 ⟨o, rfl, ho, hsc, hk⟩
      have hb3 : ScanAt w3 b s i d := (hb1.drewN q2).keep hk hne
      have hk3 : Keeps (fun k => k = b) w w3 := (hk1.drewN q2).trans hk (fun x hx e => by exfalso; have := HBE.out; omega)
      have HO := Lib.hid ho; have HK3 := Lib.hid hk3; have HB3 := Lib.hid hb3
      obtain ⟨c0, c1, c2, f1, f2⟩ := hb3.cells
      clear ho hk3 hk hsc hb1 hk1 hb3
      by_cases hne2 : opF (rest s (i + 1)) = []
      · obtain ⟨t1, t2⟩ := ba_empty (s := o) (HO.out.trans hne2)
        have hr : r = true := by rw [HL.out, hne2]; rfl
        have HRR := Lib.hid hr
        clear hne2 hr
        go_wp2_with fail
        go_ret
        exact ⟨by rw [HRR.out]; rfl, scan_end HB3.out 0 (by rw [HRR.out]; simp), HK3.out.trans (keep_end0 _ _ _ _) (fun x _ hx => hx)⟩
      · obtain ⟨t1, t2⟩ := ba_full (s := o) (by rw [HO.out]; exact hne2)
        have hr : r = false := by
          rw [HL.out]
          cases ho2 : opF (rest s (i + 1)) with
          | nil => exact absurd ho2 hne2
          | cons x y => rfl
        have HRR := Lib.hid hr
        clear hne2 hr
        go_wp2_with fail
        go_ret
        exact ⟨by rw [HRR.out]; rfl, by rw [HRR.out]; exact HB3.out, HK3.out⟩
    · have hb2 : (((byteAt s (i + 1)).toNat : Int) == 125) = true := by
        rw [headIs_at (by decide)] at h2
        have := u8_eq (x := byteAt s (i + 1)) (c := 125)
        rw [h2] at this
        exact this
      have hl : r = false := by
        rw [HR.out]
        unfold longB
        rw [h1, htail, h2]; simp
      have HL := Lib.hid hl; clear hl
      clear h1 h2
      refine (at0_any B s (i + 1) 0 _ hB hs (by omega)).mono ?_
      rintro e w2 ⟨rfl, q2, rfl⟩
      go_wp2_with fail
      go_ret
      exact ⟨by rw [HL.out]; rfl, by rw [HL.out]; exact hb1.drewN _, hk1.drewN _⟩
end Go.Proofs.Ytnndnldpbdhkgaa
