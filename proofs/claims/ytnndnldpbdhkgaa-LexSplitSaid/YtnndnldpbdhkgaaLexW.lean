/-
  The contract of pass: over what stands in quotes.
-/
import Derived.Test.YtnndnldpbdhkgaaLexV
import Derived.Deep.LoopGhost
namespace Go.Proofs.Ytnndnldpbdhkgaa
open Go.RowKit
set_option linter.unusedVariables false

/-- How many bytes are passed over, the closing quote too (true: the next byte is passed over). -/
def passQ (q : UInt8) : Bool → List UInt8 → Option Nat
  | _, [] => none
  | true, _ :: t => (passQ q false t).map (· + 1)
  | false, c :: t => if c == q then some 1 else (passQ q (c == 92 && q == 34) t).map (· + 1)

def PassPost (w : World) (b : Nat) (s : ByteArray) (i : Nat) (d : Int) (res : Option Nat) (e : Ending) (w' : World) : Prop :=
  match res with
  | some k => e = .returned (.tuple #[]) ∧ ScanAt w' b s ((i + k : Nat) : Int) d ∧ Keeps (fun k => k = b) w w'
  | none => FailPost w b 2 e w'

/-- How far the passing has come. -/
def PassAt (q : UInt8) (s : ByteArray) (i I : Nat) : Prop := i ≤ I ∧ passQ q false (rest s i) = (passQ q false (rest s I)).map (· + (I - i))
theorem PassAt.start (q : UInt8) (s : ByteArray) (i : Nat) : PassAt q s i i := ⟨Nat.le_refl _, by rw [Nat.sub_self]; cases passQ q false (rest s i) <;> rfl⟩
theorem rest_cons {s : ByteArray} {I : Nat} (h : I < s.size) : rest s I = byteAt s I :: rest s (I + 1) := by
  have hg := rest_get (s := s) (i := I) (k := 0) (by omega)
  have hd := drop_at hg
  rw [List.drop_zero] at hd
  rw [hd]
  have : byteAt s I = s[I + 0]'(by omega) := by
    rw [byteAt_rest, hd]; rfl
  rw [this, rest_drop]
theorem rest_nil {s : ByteArray} {I : Nat} (h : s.size ≤ I) : rest s I = [] := List.eq_nil_of_length_eq_zero (by rw [rest_len]; omega)
theorem PassAt.one {q : UInt8} {s : ByteArray} {i I : Nat} (h : PassAt q s i I) (hI : I < s.size) (h1 : (byteAt s I == q) = false) (h2 : (byteAt s I == 92 && q == 34) = false) : PassAt q s i (I + 1) := by
  refine ⟨by have := h.1; omega, ?_⟩
  rw [h.2, rest_cons hI, passQ, h1, h2]
  have := h.1
  cases passQ q false (rest s (I + 1)) with
  | none => rfl
  | some k => simp; omega
theorem PassAt.two {q : UInt8} {s : ByteArray} {i I : Nat} (h : PassAt q s i I) (hI : I < s.size) (h1 : (byteAt s I == q) = false) (h2 : (byteAt s I == 92 && q == 34) = true) : PassAt q s i (I + 2) := by
  refine ⟨by have := h.1; omega, ?_⟩
  rw [h.2, rest_cons hI, passQ, h1, h2]
  have := h.1
  rcases Nat.lt_or_ge (I + 1) s.size with hl | hl
  · rw [rest_cons hl, passQ]
    cases passQ q false (rest s (I + 2)) with
    | none => rfl
    | some k => simp; omega
  · rw [rest_nil hl, rest_nil (by omega : s.size ≤ I + 2)]; rfl
theorem PassAt.stop {q : UInt8} {s : ByteArray} {i I : Nat} (h : PassAt q s i I) (hI : I < s.size) (h1 : (byteAt s I == q) = true) : passQ q false (rest s i) = some (I + 1 - i) := by
  have := h.1
  rw [h.2, rest_cons hI, passQ, h1]
  simp; omega
theorem PassAt.over {q : UInt8} {s : ByteArray} {i I : Nat} (h : PassAt q s i I) (hI : s.size ≤ I) : passQ q false (rest s i) = none := by
  rw [h.2, rest_nil hI]; rfl

/-- The scanner stands at a later place, behind draws and a store. -/
theorem scan_moved {w : World} {b n : Nat} {s : ByteArray} {i d : Int} (h : ScanAt w b s i d) (j : Int) : ∃ w', w' = (w.drewN n).setCell ⟨b, 1, none⟩ (.int .i64 j) ∧ ScanAt w' b s j d ∧ Keeps (fun k => k = b) w w' :=
  ⟨_, rfl, scan_end h n rfl, keep_end _ _ _ _ _⟩

theorem scan_moved0 {w : World} {b : Nat} {s : ByteArray} {i d : Int} (h : ScanAt w b s i d) (j : Int) : ∃ w', w' = w.setCell ⟨b, 1, none⟩ (.int .i64 j) ∧ ScanAt w' b s j d ∧ Keeps (fun k => k = b) w w' :=
  ⟨_, rfl, scan_end h 0 rfl, keep_end0 _ _ _ _⟩

set_option maxHeartbeats 2000000 in
theorem pass_any (b : Nat) (s : ByteArray) (i : Nat) (d : Int) (w : World) (q : UInt8) (h : ScanAt w b s i d) (hs : s.size ≤ 140737488351000) (hi : i ≤ s.size) (res : Option Nat) (hres : passQ q false (rest s i) = res) :
    Calls Try.prog 78 #[.pointer (some ⟨b, 0, none⟩), .int .u8 (q.toNat : Nat)] w (PassPost w b s i d res) := by
  have HRES := Lib.hid hres
  clear hres
  go_enter Try.func78, Try.ntmps78
  go_wp2_with fail
  go_loopg [4] (s.size + 2 - i) (fun k _ wr => ∃ I : Nat, k = s.size + 2 - I ∧ I ≤ s.size + 1 ∧ ScanAt wr b s I d ∧ Keeps (fun k => k = b) w wr ∧ PassAt q s i I)
  case atStart => exact ⟨i, rfl, by omega, h, Keeps.refl _ _, PassAt.start _ _ _⟩
  case round =>
    obtain ⟨I, hgk, hI, hsc, hkp, hpa⟩ := hrel
    have HGK := Lib.hid hgk
    have HSC := Lib.hid hsc
    have HKP := Lib.hid hkp
    have HPA := Lib.hid hpa
    clear hgk hsc hkp hpa h
    by_cases hlt : I < s.size
    · have he : decide (s.size ≤ I) = false := decide_eq_false (by omega)
      have HE := Lib.hid he; clear he
      go_wp2_with fail
      refine (end_any b s I d _ HSC.out).mono ?_
      rintro e w1 ⟨rfl, q1, rfl⟩
      rw [HE.out]
      go_wp2_with fail
      refine (at0_any b s I d _ (HSC.out.drewN _) (by omega) (by omega)).mono ?_
      rintro e w1 ⟨rfl, q2, rfl⟩
      obtain ⟨c0, c1, c2, f1, f2⟩ := HSC.out.cells
      obtain ⟨c, hc⟩ : ∃ c, c = byteAt s I := ⟨_, rfl⟩
      rw [← hc]
      have HC := Lib.hid hc; clear hc
      cases t1 : (c == q)
      · have e1 : ((c.toNat : Int) == (q.toNat : Int)) = false := by rw [u8_eq]; exact t1
        cases t2 : (c == 92 && q == 34)
        · have hn := HPA.out.one hlt (by rw [← HC.out]; exact t1) (by rw [← HC.out]; exact t2)
          have HN := Lib.hid hn; clear hn
          have e2 : ((c.toNat : Int) == 92) = false ∨ ((c.toNat : Int) == 92) = true ∧ ((q.toNat : Int) == 34) = false := by
            have u1 := u8_eq (x := c) (c := 92)
            have u2 := u8_eq (x := q) (c := 34)
            cases v1 : (c == 92)
            · rw [v1] at u1; exact .inl u1
            · rw [v1] at u1 t2
              rw [Bool.true_and] at t2
              rw [t2] at u2
              exact .inr ⟨u1, u2⟩
          clear t1 t2
          rcases e2 with e2 | ⟨e2, e3⟩
          all_goals
            go_wp2_with fail
            obtain ⟨w2, hw2, hs2, hk2⟩ := scan_moved (n := q1 + q2) HSC.out ((I : Int) + 1)
            rw [← hw2]
            go_roundg (s.size + 2 - (I + 1))
            case measure => have := HGK.out; omega
            case rel => exact ⟨I + 1, rfl, by omega, hs2, HKP.out.trans hk2 (fun x _ hx => hx), HN.out⟩
        · have hn := HPA.out.two hlt (by rw [← HC.out]; exact t1) (by rw [← HC.out]; exact t2)
          have HN := Lib.hid hn; clear hn
          have e2 : ((c.toNat : Int) == 92) = true ∧ ((q.toNat : Int) == 34) = true := by
            have u1 := u8_eq (x := c) (c := 92)
            have u2 := u8_eq (x := q) (c := 34)
            cases v1 : (c == 92)
            · rw [v1] at t2; cases t2
            · rw [v1] at u1 t2
              rw [Bool.true_and] at t2
              rw [t2] at u2
              exact ⟨u1, u2⟩
          obtain ⟨e2, e3⟩ := e2
          clear t1 t2
          go_wp2_with fail
          obtain ⟨w2, hw2, hs2, hk2⟩ := scan_moved (n := q1 + q2) HSC.out ((I : Int) + 1)
          rw [← hw2]
          obtain ⟨w3, hw3, hs3, hk3⟩ := scan_moved0 hs2 ((I : Int) + 1 + 1)
          rw [← hw3]
          go_roundg (s.size + 2 - (I + 2))
          case measure => have := HGK.out; omega
          case rel => exact ⟨I + 2, rfl, by omega, hs3, (HKP.out.trans hk2 (fun x _ hx => hx)).trans hk3 (fun x _ hx => hx), HN.out⟩
      · have hr : res = some (I + 1 - i) := by rw [← HRES.out]; exact HPA.out.stop hlt (by rw [← HC.out]; exact t1)
        have HR := Lib.hid hr; clear hr
        have e1 : ((c.toNat : Int) == (q.toNat : Int)) = true := by rw [u8_eq]; exact t1
        clear t1
        go_wp2_with fail
        obtain ⟨w2, hw2, hs2, hk2⟩ := scan_moved (n := q1 + q2) HSC.out ((I : Int) + 1)
        rw [← hw2]
        refine bodyPost_ret (results_none rfl _ _ _) rfl ?_
        show PassPost w b s i d res _ _
        rw [HR.out]
        have := HPA.out.1
        refine ⟨rfl, ?_, HKP.out.trans hk2 (fun x _ hx => hx)⟩
        rw [show i + (I + 1 - i) = I + 1 by omega]
        exact hs2
    · have he : decide (s.size ≤ I) = true := decide_eq_true (by omega)
      have HE := Lib.hid he; clear he
      have hr : res = none := by rw [← HRES.out]; exact HPA.out.over (by omega)
      have HR := Lib.hid hr; clear hr
      go_wp2_with fail
      refine (end_any b s I d _ HSC.out).mono ?_
      rintro e w1 ⟨rfl, q1, rfl⟩
      rw [HE.out]
      go_wp2_with fail
      refine (fail_any 2 _).mono ?_
      rintro e w4 ⟨rfl, rfl⟩
      go_wp2_with fail
      refine ⟨rfl, ?_⟩
      rw [HR.out]
      exact ⟨rfl, HKP.out.drewN _⟩
end Go.Proofs.Ytnndnldpbdhkgaa
