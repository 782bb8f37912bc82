/-
  The contract of sub: a script, up to what closes it.
-/
import Derived.Test.YtnndnldpbdhkgaaLexX
namespace Go.Proofs.Ytnndnldpbdhkgaa
open Go.RowKit
set_option linter.unusedVariables false

/-- A byte's tests. -/
theorem test_no {c k : UInt8} (h : c ≠ k) : ((c.toNat : Int) == (k.toNat : Int)) = false := by rw [u8_eq]; exact beq_eq_false_iff_ne.2 h
theorem test_yes {c k : UInt8} (h : c = k) : ((c.toNat : Int) == (k.toNat : Int)) = true := by rw [u8_eq]; exact beq_iff_eq.2 h

theorem passQ_le {q : UInt8} : ∀ {l : List UInt8} {e : Bool} {k : Nat}, passQ q e l = some k → 1 ≤ k ∧ k ≤ l.length
  | [], e, k, h => by cases e <;> cases h
  | c :: t, true, k, h => by
    rw [passQ] at h
    cases h2 : passQ q false t with
    | none => rw [h2] at h; cases h
    | some m =>
      rw [h2] at h
      have := passQ_le h2
      simp at h ⊢; omega
  | c :: t, false, k, h => by
    rw [passQ] at h
    split at h
    · simp at h ⊢; omega
    · cases h2 : passQ q (c == 92 && q == 34) t with
      | none => rw [h2] at h; cases h
      | some m =>
        rw [h2] at h
        have := passQ_le h2
        simp at h ⊢; omega

set_option maxHeartbeats 4000000 in
theorem sub_any (b : Nat) (s : ByteArray) (i : Nat) (d : Int) (w : World) (h : ScanAt w b s i d) (hs : s.size ≤ 140737488351000) (hi : i ≤ s.size) (res : Option Nat) (hres : subF .n 0 (rest s i) = res) :
    Calls Try.prog 67 #[.pointer (some ⟨b, 0, none⟩)] w (TextPost w b s i 1 d res) := by
  have HRES := Lib.hid hres
  clear hres
  obtain ⟨c0, c1, c2, f1, f2⟩ := h.cells
  go_enter Try.func67, Try.ntmps67
  go_wp2_with fail
  go_loopg [4, 5] (s.size + 2 - i) (fun k o _ wr => ∃ n I : Nat, o = .int .i64 n ∧ k = s.size + 2 - I ∧ I ≤ s.size + 1 ∧ ScanAt wr b s I d ∧ Keeps (fun k => k = b) w wr ∧ SubAt s i n I ∧ n ≤ I)
  case atStart => exact ⟨0, i, rfl, rfl, by omega, h, Keeps.refl _ _, SubAt.start _ _, by omega⟩
  case round =>
    obtain ⟨n, I, rfl, hgk, hI, hsc, hkp, hpa, hnI⟩ := hrel
    have HGK := Lib.hid hgk
    have HSC := Lib.hid hsc
    have HKP := Lib.hid hkp
    have HPA := Lib.hid hpa
    clear hgk hsc hkp hpa h c0 c1 c2 f1 f2
    have HiI := Lib.hid HPA.out.1
    by_cases hlt : I < s.size
    · have he : decide (s.size ≤ I) = false := decide_eq_false (by omega)
      have HE := Lib.hid he; clear he
      go_wp2_with fail
      refine (end_any b s I d _ HSC.out).mono ?_
      rintro e w1 ⟨rfl, q1, rfl⟩
      rw [HE.out]
      go_wp2_with fail
      refine (at0_any b s I d _ (HSC.out.drewN _) (by omega) (by omega)).mono ?_
      rintro e w1 ⟨rfl, q2, rfl⟩
      obtain ⟨c0, c1, c2, f1, f2⟩ := HSC.out.cells
      obtain ⟨c, hc⟩ : ∃ c, c = byteAt s I := ⟨_, rfl⟩
      rw [← hc]
      have HC := Lib.hid hc; clear hc
      have hcase : (c = 39 ∨ c = 34) ∨ c = 92 ∨ c = 40 ∨ (c = 41 ∧ n = 0) ∨ (c = 41 ∧ 0 < n) ∨ (c ≠ 39 ∧ c ≠ 34 ∧ c ≠ 92 ∧ c ≠ 40 ∧ c ≠ 41) := by
        by_cases t1 : c = 39; exact .inl (.inl t1)
        by_cases t2 : c = 34; exact .inl (.inr t2)
        by_cases t3 : c = 92; exact .inr (.inl t3)
        by_cases t4 : c = 40; exact .inr (.inr (.inl t4))
        by_cases t5 : c = 41
        · rcases Nat.eq_zero_or_pos n with h0 | h0
          · exact .inr (.inr (.inr (.inl ⟨t5, h0⟩)))
          · exact .inr (.inr (.inr (.inr (.inl ⟨t5, h0⟩))))
        · exact .inr (.inr (.inr (.inr (.inr ⟨t1, t2, t3, t4, t5⟩))))
      rcases hcase with hq0 | t1 | t1 | ⟨t1, h0⟩ | ⟨t1, h0⟩ | ⟨t1, t2, t3, t4, t5⟩
      · have hq : subF .n n (rest s I) = (passQ c false (rest s (I + 1))).bind fun k => (subF .n n (rest s (I + (k + 1)))).map (· + (k + 1)) := by
          rcases hq0 with t1 | t1
          · rw [t1]; exact sub_quote1 hlt (by rw [← HC.out]; exact t1)
          · rw [t1]; exact sub_quote2 hlt (by rw [← HC.out]; exact t1)
        have HQ := Lib.hid hq
        have ht : ((c.toNat : Int) == 39) = true ∨ ((c.toNat : Int) == 39) = false ∧ ((c.toNat : Int) == 34) = true := by
          rcases hq0 with t1 | t1
          · exact .inl (test_yes (c := c) (k := 39) t1)
          · exact .inr ⟨test_no (c := c) (k := 39) (by rw [t1]; decide), test_yes (c := c) (k := 34) t1⟩
        clear hq hq0
        rcases ht with e1 | ⟨e1, e2⟩
        all_goals
          go_wp2_with fail
          obtain ⟨w2, hw2, hs2, hk2⟩ := scan_moved (n := q1 + q2) HSC.out ((I : Int) + 1)
          rw [← hw2]
          have HK2 := Lib.hid hk2; clear hk2 hw2
          refine (pass_any b s (I + 1) d _ c hs2 hs (by omega) (passQ c false (rest s (I + 1))) rfl).mono ?_
          intro e w3 hp
          cases hps : passQ c false (rest s (I + 1)) with
          | none =>
            rw [hps] at hp
            obtain ⟨rfl, hk3⟩ := hp
            have hr : res = none := by
              rw [← HRES.out, HPA.out.2, HQ.out, hps]; rfl
            have HR := Lib.hid hr; have HK3 := Lib.hid hk3; clear hr hk3 hps
            go_wp2_with fail
            refine ⟨rfl, ?_⟩
            rw [HR.out]
            exact ⟨rfl, (HKP.out.trans HK2.out (fun x _ hx => hx)).trans HK3.out (fun x _ hx => hx)⟩
          | some k =>
            rw [hps] at hp
            obtain ⟨rfl, hs3, hk3⟩ := hp
            have hn := HPA.out.on (k := k + 1) (o' := n) (by rw [HQ.out, hps]; rfl)
            have hkl := passQ_le hps
            rw [rest_len] at hkl
            have HN := Lib.hid hn; have HK3 := Lib.hid hk3; have HS3 := Lib.hid hs3; clear hn hk3 hps hs3
            go_wp2_with fail
            go_roundg (s.size + 2 - (I + (k + 1)))
            case measure => have := HGK.out; omega
            case rel => exact ⟨n, I + (k + 1), rfl, rfl, by omega, by have := HS3.out; rw [show I + 1 + k = I + (k + 1) by omega] at this; exact this, (HKP.out.trans HK2.out (fun x _ hx => hx)).trans HK3.out (fun x _ hx => hx), HN.out, by omega⟩
      · have hn := HPA.out.on (k := 2) (o' := n) (sub_back hlt (by rw [← HC.out]; exact t1))
        have HN := Lib.hid hn
        have e1 : ((c.toNat : Int) == 39) = false := test_no (c := c) (k := 39) (by rw [t1]; decide)
        have e2 : ((c.toNat : Int) == 34) = false := test_no (c := c) (k := 34) (by rw [t1]; decide)
        have e3 : ((c.toNat : Int) == 92) = true := test_yes (c := c) (k := 92) t1
        clear t1 hn
        go_wp2_with fail
        obtain ⟨w2, hw2, hs2, hk2⟩ := scan_moved (n := q1 + q2) HSC.out ((I : Int) + 1)
        rw [← hw2]
        obtain ⟨w3, hw3, hs3, hk3⟩ := scan_moved0 hs2 ((I : Int) + 1 + 1)
        rw [← hw3]
        go_roundg (s.size + 2 - (I + 2))
        case measure => have := HGK.out; omega
        case rel => exact ⟨n, I + 2, rfl, rfl, by omega, hs3, (HKP.out.trans hk2 (fun x _ hx => hx)).trans hk3 (fun x _ hx => hx), HN.out, by omega⟩
      · have hn := HPA.out.on (k := 1) (o' := n + 1) (by rw [rest_cons hlt, ← HC.out, t1]; rfl)
        have HN := Lib.hid hn
        have e1 : ((c.toNat : Int) == 39) = false := test_no (c := c) (k := 39) (by rw [t1]; decide)
        have e2 : ((c.toNat : Int) == 34) = false := test_no (c := c) (k := 34) (by rw [t1]; decide)
        have e3 : ((c.toNat : Int) == 92) = false := test_no (c := c) (k := 92) (by rw [t1]; decide)
        have e4 : ((c.toNat : Int) == 40) = true := test_yes (c := c) (k := 40) t1
        clear t1 hn
        go_wp2_with fail
        obtain ⟨w2, hw2, hs2, hk2⟩ := scan_moved (n := q1 + q2) HSC.out ((I : Int) + 1)
        rw [← hw2]
        go_roundg (s.size + 2 - (I + 1))
        case measure => have := HGK.out; omega
        case rel => exact ⟨n + 1, I + 1, by go_num, rfl, by omega, hs2, HKP.out.trans hk2 (fun x _ hx => hx), HN.out, by omega⟩
      · subst h0
        have hr : res = some (I - i) := by rw [← HRES.out]; exact HPA.out.stop hlt (by rw [← HC.out]; exact t1)
        have HR := Lib.hid hr
        have e1 : ((c.toNat : Int) == 39) = false := test_no (c := c) (k := 39) (by rw [t1]; decide)
        have e2 : ((c.toNat : Int) == 34) = false := test_no (c := c) (k := 34) (by rw [t1]; decide)
        have e3 : ((c.toNat : Int) == 92) = false := test_no (c := c) (k := 92) (by rw [t1]; decide)
        have e4 : ((c.toNat : Int) == 40) = false := test_no (c := c) (k := 40) (by rw [t1]; decide)
        have e5 : ((c.toNat : Int) == 41) = true := test_yes (c := c) (k := 41) t1
        have hiI := HiI.out
        have w1e : IntKind.i64.wrap ((I : Int) + 1 - 1) = (I : Int) := by rw [show (I : Int) + 1 - 1 = (I : Int) by omega]; exact IntWalk.i64_in _ (by omega)
        have p1 : (i : Int) ≤ (I : Int) := by omega
        have p2 : (I : Int) ≤ (s.size : Int) := by omega
        clear t1 hr
        go_wp2_with fail
        go_quiet (fail)
        go_wp2_with fail
        obtain ⟨w2, hw2, hs2, hk2⟩ := scan_moved (n := q1 + q2) HSC.out ((I : Int) + 1)
        rw [← hw2]
        go_ret
        show TextPost w b s i 1 d res _ _
        rw [HR.out]
        refine ⟨_, rfl, ?_, ?_, (HKP.out.trans hk2 (fun x _ hx => hx)).drewN _⟩
        · rw [Lib.extract_data]; rfl
        · rw [show i + (I - i + 1) = I + 1 by omega]
          exact hs2.drewN _
      · have hn := HPA.out.on (k := 1) (o' := n - 1) (by
          rw [rest_cons hlt, ← HC.out, t1]
          show (if n = 0 then some 0 else (subF .n (n - 1) (rest s (I + 1))).map (· + 1)) = _
          rw [if_neg (by omega)])
        have HN := Lib.hid hn
        have e1 : ((c.toNat : Int) == 39) = false := test_no (c := c) (k := 39) (by rw [t1]; decide)
        have e2 : ((c.toNat : Int) == 34) = false := test_no (c := c) (k := 34) (by rw [t1]; decide)
        have e3 : ((c.toNat : Int) == 92) = false := test_no (c := c) (k := 92) (by rw [t1]; decide)
        have e4 : ((c.toNat : Int) == 40) = false := test_no (c := c) (k := 40) (by rw [t1]; decide)
        have e5 : ((c.toNat : Int) == 41) = true := test_yes (c := c) (k := 41) t1
        have e6 : ((n : Int) == 0) = false := by rw [beq_eq_false_iff_ne]; omega
        clear t1 hn
        go_wp2_with fail
        obtain ⟨w2, hw2, hs2, hk2⟩ := scan_moved (n := q1 + q2) HSC.out ((I : Int) + 1)
        rw [← hw2]
        go_roundg (s.size + 2 - (I + 1))
        case measure => have := HGK.out; omega
        case rel => exact ⟨n - 1, I + 1, by show Value.int .i64 ((n : Int) - 1) = _; congr 1; omega, rfl, by omega, hs2, HKP.out.trans hk2 (fun x _ hx => hx), HN.out, by omega⟩
      · have hn := HPA.out.on (k := 1) (o' := n) (by
          rw [rest_cons hlt, ← HC.out]
          exact sub_else (beq_eq_false_iff_ne.2 t1) (beq_eq_false_iff_ne.2 t2) (beq_eq_false_iff_ne.2 t3) (beq_eq_false_iff_ne.2 t4) (beq_eq_false_iff_ne.2 t5))
        have HN := Lib.hid hn
        have e1 : ((c.toNat : Int) == 39) = false := test_no (c := c) (k := 39) t1
        have e2 : ((c.toNat : Int) == 34) = false := test_no (c := c) (k := 34) t2
        have e3 : ((c.toNat : Int) == 92) = false := test_no (c := c) (k := 92) t3
        have e4 : ((c.toNat : Int) == 40) = false := test_no (c := c) (k := 40) t4
        have e5 : ((c.toNat : Int) == 41) = false := test_no (c := c) (k := 41) t5
        clear t1 t2 t3 t4 t5 hn
        go_wp2_with fail
        obtain ⟨w2, hw2, hs2, hk2⟩ := scan_moved (n := q1 + q2) HSC.out ((I : Int) + 1)
        rw [← hw2]
        go_roundg (s.size + 2 - (I + 1))
        case measure => have := HGK.out; omega
        case rel => exact ⟨n, I + 1, rfl, rfl, by omega, hs2, HKP.out.trans hk2 (fun x _ hx => hx), HN.out, by omega⟩
    · have he : decide (s.size ≤ I) = true := decide_eq_true (by omega)
      have HE := Lib.hid he; clear he
      have hr : res = none := by rw [← HRES.out]; exact HPA.out.over (by omega)
      have HR := Lib.hid hr; clear hr
      go_wp2_with fail
      refine (end_any b s I d _ HSC.out).mono ?_
      rintro e w1 ⟨rfl, q1, rfl⟩
      rw [HE.out]
      go_wp2_with fail
      refine (fail_any 2 _).mono ?_
      rintro e w4 ⟨rfl, rfl⟩
      go_wp2_with fail
      refine ⟨rfl, ?_⟩
      rw [HR.out]
      exact ⟨rfl, HKP.out.drewN _⟩
end Go.Proofs.Ytnndnldpbdhkgaa
