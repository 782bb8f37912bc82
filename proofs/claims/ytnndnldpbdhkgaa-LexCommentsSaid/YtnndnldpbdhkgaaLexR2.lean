/-
  The document's own reader: a name.
  The document's own reader: an expression.
-/
import Derived.Test.YtnndnldpbdhkgaaLexR1
import Derived.Test.YtnndnldpbdhkgaaLexBD
import Derived.StillTailTactics
namespace Go.Proofs.Ytnndnldpbdhkgaa
open Go.RowKit
set_option linter.unusedVariables false

theorem rname_close {w wr : World} {b : Nat} {s : ByteArray} {i k n m : Nat} {d : Int} (hk : Keeps (fun _ => False) w wr) (h : ScanAt wr b s i d) (hm : m = k) (hi : i + k ≤ s.size) :
    NamePost w b s i k d (.returned (.string (s.extract i (i + m)))) ((wr.drewN n).setCell ⟨b, 1, none⟩ (.int .i64 ((i : Int) + (m : Int)))) := by
  subst hm
  refine ⟨_, rfl, ?_, ?_, ((hk.mono fun _ _ s => s.elim).drewN n).setCell _ _ fun _ => rfl⟩
  · rw [Lib.extract_data]
    unfold rest
    rw [show i + m - i = m by omega]
  · have := (h.drewN n).set1 ((i : Int) + (m : Int))
    rwa [show ((i : Int) + (m : Int)) = ((i + m : Nat) : Int) by omega] at this ⊢
theorem rname_close0 {w wr : World} {b : Nat} {s : ByteArray} {i k n : Nat} {d : Int} (hk : Keeps (fun _ => False) w wr) (h : ScanAt wr b s i d) (hm : k = 0) :
    NamePost w b s i k d (.returned (.string ByteArray.empty)) ((wr.drewN n).setCell ⟨b, 1, none⟩ (.int .i64 (i : Int))) := by
  subst hm
  exact ⟨_, rfl, rfl, (h.drewN n).set1 _, ((hk.mono fun _ _ s => s.elim).drewN n).setCell _ _ fun _ => rfl⟩
theorem special_no {c : UInt8} (h : specialB c = false) : ((c.toNat : Int) == 63) = false ∧ ((c.toNat : Int) == 35) = false ∧ ((c.toNat : Int) == 64) = false ∧ ((c.toNat : Int) == 42) = false := by
  simp only [specialB, Bool.or_eq_false_iff, beq_eq_false_iff_ne] at h
  obtain ⟨⟨⟨h1, h2⟩, h3⟩, h4⟩ := h
  exact ⟨test_no (c := c) (k := 63) h1, test_no (c := c) (k := 35) h2, test_no (c := c) (k := 64) h3, test_no (c := c) (k := 42) h4⟩
set_option maxHeartbeats 4000000 in
theorem rname_any (b : Nat) (s : ByteArray) (i : Nat) (d : Int) (w : World) (h : ScanAt w b s i d) (hs : s.size ≤ 140737488351232) (hi : i ≤ s.size) (k : Nat) (hk : nameF true (rest s i) = k) :
    Calls Try.prog 73 #[.pointer (some ⟨b, 0, none⟩)] w (NamePost w b s i k d) := by
  have hkl : k ≤ s.size - i := by rw [← hk, ← rest_len]; exact nameF_le _ _
  obtain ⟨c, hc⟩ : ∃ c, c = byteAt s i := ⟨_, rfl⟩
  have HC := Lib.hid hc.symm
  obtain ⟨R, hR⟩ : ∃ R, R = runF (rest s i) := ⟨_, rfl⟩
  have HRUN := Lib.hid hR.symm
  by_cases hrun : 0 < R
  · have hkk : R = k := by rw [← hk, hR]; unfold nameF; rw [if_pos (by rw [← hR]; exact hrun)]
    have p1 : ((R : Int) == 0) = false := by rw [beq_eq_false_iff_ne]; omega
    have p2 : (i : Int) + (R : Int) ≤ (s.size : Int) := by omega
    have p3 : (i : Int) ≤ (i : Int) + (R : Int) := by omega
    have p4 : ((i : Int) + (R : Int)).toNat = i + R := by omega
    have HKK := Lib.hid hkk
    clear hk hkk hR hc
    go_enter Try.func73, Try.ntmps73
    go_wp2_with fail
    refine (see0_any b s i d _ h hs (by omega)).mono ?_
    rintro e w1 ⟨rfl, q1, rfl⟩
    rw [HC.out]
    obtain ⟨W, hW⟩ : ∃ W, W = w.drewN q1 := ⟨_, rfl⟩
    rw [← hW]
    have hsW : ScanAt W b s i d := by rw [hW]; exact h.drewN _
    have HKW := Lib.hid (show Keeps (fun _ => False) w W by rw [hW]; exact (Keeps.refl _ _).drewN _)
    obtain ⟨c0, c1, c2, f1, f2⟩ := hsW.cells
    clear hW
    go_wp2_with fail
    go_quiet ((go_at_call 59; exact Calls.quiet_of_same ((nameLen_any s i _ hs hi).mono (fun e w' hh => ⟨by rw [hh.1, HRUN.out], hh.2.symm⟩))))
    obtain ⟨W2, hW2⟩ : ∃ W2, W2 = W.drewN nq := ⟨_, rfl⟩
    rw [← hW2]
    have hs2 : ScanAt W2 b s i d := by rw [hW2]; exact hsW.drewN _
    have HK2 := Lib.hid (show Keeps (fun _ => False) w W2 by rw [hW2]; exact HKW.out.drewN _)
    clear hW2 c0 c1 c2 f1 f2
    go_wp2_with fail
    go_loopw [4] (fun n' wr => n' = .int .i64 R ∧ wr = W2) (fun _ _ => 0)
    case atStart => exact ⟨rfl, rfl⟩
    case round =>
      obtain ⟨rfl, rfl⟩ := hrel
      have hsr := hs2
      have HKR := HK2
      obtain ⟨c0, c1, c2, f1, f2⟩ := hsr.cells
      go_wp2_with fail
      go_quiet (fail)
      go_wp2_with fail
      go_ret
      exact rname_close HKR.out hsr HKK.out (by omega)
  have hR0 : R = 0 := by omega
  have HR0 := Lib.hid hR0
  subst hR0
  have hrest : k = match rest s i with | [] => 0 | c :: t => (if digitB c then digRun t + 1 else if specialB c then 1 else 0) := by
    rw [← hk]; unfold nameF
    rw [← hR, if_neg (by omega)]
    cases rest s i <;> rfl
  cases hsp : specialB c with
  | true =>
    have hlt : i < s.size := by
      rcases Nat.lt_or_ge i s.size with h | h
      · exact h
      · have : c = 0 := by
          rw [hc]; unfold byteAt
          rw [List.getD_eq_getElem?_getD, List.getElem?_eq_none (by rw [← Lib.size_eq]; omega)]; rfl
        rw [this] at hsp; exact absurd hsp (by decide)
    have hdg : digitB c = false := by
      have := all_u8 (P := fun c => !specialB c || !digitB c) (by decide +kernel) c
      rw [hsp] at this
      simpa using this
    have hkk : 1 = k := by
      rw [hrest, rest_cons hlt, ← hc]
      dsimp only
      rw [hdg, hsp]; rfl
    have p2 : (i : Int) + 1 ≤ (s.size : Int) := by omega
    have p4 : ((i : Int) + 1).toNat = i + 1 := by omega
    have HKK := Lib.hid hkk
    have hcs : ((c.toNat : Int) == 63) = true ∨ (((c.toNat : Int) == 63) = false ∧ ((c.toNat : Int) == 35) = true) ∨ (((c.toNat : Int) == 63) = false ∧ ((c.toNat : Int) == 35) = false ∧ ((c.toNat : Int) == 64) = true) ∨ (((c.toNat : Int) == 63) = false ∧ ((c.toNat : Int) == 35) = false ∧ ((c.toNat : Int) == 64) = false ∧ ((c.toNat : Int) == 42) = true) := by
      simp only [specialB, Bool.or_eq_true, beq_iff_eq] at hsp
      rcases hsp with ((rfl | rfl) | rfl) | rfl
      · exact .inl rfl
      · exact .inr (.inl ⟨rfl, rfl⟩)
      · exact .inr (.inr (.inl ⟨rfl, rfl, rfl⟩))
      · exact .inr (.inr (.inr ⟨rfl, rfl, rfl, rfl⟩))
    clear hk hkk hR hc hrest hsp hdg hrun
    rcases hcs with x1 | ⟨x1, x2⟩ | ⟨x1, x2, x3⟩ | ⟨x1, x2, x3, x4⟩
    all_goals
      go_enter Try.func73, Try.ntmps73
      go_wp2_with fail
      refine (see0_any b s i d _ h hs (by omega)).mono ?_
      rintro e w1 ⟨rfl, q1, rfl⟩
      rw [HC.out]
      obtain ⟨W, hW⟩ : ∃ W, W = w.drewN q1 := ⟨_, rfl⟩
      rw [← hW]
      have hsW : ScanAt W b s i d := by rw [hW]; exact h.drewN _
      have HKW := Lib.hid (show Keeps (fun _ => False) w W by rw [hW]; exact (Keeps.refl _ _).drewN _)
      obtain ⟨c0, c1, c2, f1, f2⟩ := hsW.cells
      clear hW
      go_wp2_with fail
      go_quiet ((go_at_call 59; exact Calls.quiet_of_same ((nameLen_any s i _ hs hi).mono (fun e w' hh => ⟨by rw [hh.1, HRUN.out], hh.2.symm⟩))))
      obtain ⟨W2, hW2⟩ : ∃ W2, W2 = W.drewN nq := ⟨_, rfl⟩
      rw [← hW2]
      have hs2 : ScanAt W2 b s i d := by rw [hW2]; exact hsW.drewN _
      have HK2 := Lib.hid (show Keeps (fun _ => False) w W2 by rw [hW2]; exact HKW.out.drewN _)
      clear hW2 c0 c1 c2 f1 f2
      go_wp2_with fail
      go_loopw [4] (fun n' wr => n' = .int .i64 1 ∧ wr = W2) (fun _ _ => 0)
      case atStart => exact ⟨rfl, rfl⟩
      case round =>
        obtain ⟨rfl, rfl⟩ := hrel
        have hsr := hs2
        have HKR := HK2
        obtain ⟨c0, c1, c2, f1, f2⟩ := hsr.cells
        go_wp2_with fail
        go_quiet (fail)
        go_wp2_with fail
        go_ret
        exact rname_close (m := 1) HKR.out hsr HKK.out (by omega)
  | false =>
    obtain ⟨x1, x2, x3, x4⟩ := special_no hsp
    cases hdg : digitB c with
    | false =>
      have hkk : 0 = k := by
        rw [hrest]
        rcases Nat.lt_or_ge i s.size with h | h
        · rw [rest_cons h, ← hc]
          dsimp only
          rw [hdg, hsp]; rfl
        · rw [rest_nil h]
      have p2 : (i : Int) ≤ (s.size : Int) := by omega
      have HKK := Lib.hid hkk
      have HD := Lib.hid hdg
      clear hk hkk hR hc hrest hsp hdg hrun
      go_enter Try.func73, Try.ntmps73
      go_wp2_with fail
      refine (see0_any b s i d _ h hs (by omega)).mono ?_
      rintro e w1 ⟨rfl, q1, rfl⟩
      rw [HC.out]
      obtain ⟨W, hW⟩ : ∃ W, W = w.drewN q1 := ⟨_, rfl⟩
      rw [← hW]
      have hsW : ScanAt W b s i d := by rw [hW]; exact h.drewN _
      have HKW := Lib.hid (show Keeps (fun _ => False) w W by rw [hW]; exact (Keeps.refl _ _).drewN _)
      obtain ⟨c0, c1, c2, f1, f2⟩ := hsW.cells
      clear hW
      go_wp2_with fail
      go_quiet ((go_at_call 59; exact Calls.quiet_of_same ((nameLen_any s i _ hs hi).mono (fun e w' hh => ⟨by rw [hh.1, HRUN.out], hh.2.symm⟩))))
      obtain ⟨W2, hW2⟩ : ∃ W2, W2 = W.drewN nq := ⟨_, rfl⟩
      rw [← hW2]
      have hs2 : ScanAt W2 b s i d := by rw [hW2]; exact hsW.drewN _
      have HK2 := Lib.hid (show Keeps (fun _ => False) w W2 by rw [hW2]; exact HKW.out.drewN _)
      clear hW2 c0 c1 c2 f1 f2
      go_wp2_with fail
      go_loopw [4] (fun n' wr => n' = .int .i64 ((0 : Nat) : Int) ∧ wr = W2) (fun _ _ => 0)
      case atStart => exact ⟨rfl, rfl⟩
      case round =>
        obtain ⟨rfl, rfl⟩ := hrel
        go_wp2_with fail
        refine (see0_any b s i d _ hs2 hs (by omega)).mono ?_
        rintro e w3 ⟨rfl, q3, rfl⟩
        rw [HC.out]
        go_wp2_with fail
        refine (rdigit_any' c _).mono ?_
        rintro e w4 ⟨rfl, hw4⟩
        rw [HD.out]
        subst hw4
        obtain ⟨wr, hwr⟩ : ∃ wx, wx = wr.drewN q3 := ⟨_, rfl⟩
        rw [← hwr]
        have hsr : ScanAt wr b s i d := by rw [hwr]; exact hs2.drewN _
        have HKR := Lib.hid (show Keeps (fun _ => False) w wr by rw [hwr]; exact HK2.out.drewN q3)
        clear hwr
        obtain ⟨c0, c1, c2, f1, f2⟩ := hsr.cells
        go_wp2_with fail
        go_quiet (fail)
        go_wp2_with fail
        go_ret
        exact rname_close0 HKR.out hsr HKK.out.symm
    | true =>
      have hlt : i < s.size := by
        rcases Nat.lt_or_ge i s.size with h | h
        · exact h
        · have : c = 0 := by
            rw [hc]; unfold byteAt
            rw [List.getD_eq_getElem?_getD, List.getElem?_eq_none (by rw [← Lib.size_eq]; omega)]; rfl
          rw [this] at hdg; exact absurd hdg (by decide)
      have hkk : digRun (rest s (i + 1)) + 1 = k := by
        rw [hrest, rest_cons hlt, ← hc]
        dsimp only
        rw [hdg]; rfl
      have HKK := Lib.hid hkk
      have HD := Lib.hid hdg
      have hkp : 0 < k := by omega
      clear hk hkk hR hrest hsp hdg hrun hc
      go_enter Try.func73, Try.ntmps73
      go_wp2_with fail
      refine (see0_any b s i d _ h hs (by omega)).mono ?_
      rintro e w1 ⟨rfl, q1, rfl⟩
      rw [HC.out]
      obtain ⟨W, hW⟩ : ∃ W, W = w.drewN q1 := ⟨_, rfl⟩
      rw [← hW]
      have hsW : ScanAt W b s i d := by rw [hW]; exact h.drewN _
      have HKW := Lib.hid (show Keeps (fun _ => False) w W by rw [hW]; exact (Keeps.refl _ _).drewN _)
      obtain ⟨c0, c1, c2, f1, f2⟩ := hsW.cells
      clear hW
      go_wp2_with fail
      go_quiet ((go_at_call 59; exact Calls.quiet_of_same ((nameLen_any s i _ hs hi).mono (fun e w' hh => ⟨by rw [hh.1, HRUN.out], hh.2.symm⟩))))
      obtain ⟨W2, hW2⟩ : ∃ W2, W2 = W.drewN nq := ⟨_, rfl⟩
      rw [← hW2]
      have hs2 : ScanAt W2 b s i d := by rw [hW2]; exact hsW.drewN _
      have HK2 := Lib.hid (show Keeps (fun _ => False) w W2 by rw [hW2]; exact HKW.out.drewN _)
      clear hW2 c0 c1 c2 f1 f2
      go_wp2_with fail
      go_loopg [4] 1 (fun g n' wr => ∃ n : Nat, n' = .int .i64 n ∧ Hid (ScanAt wr b s i d ∧ Keeps (fun _ => False) w wr) ∧ ((g = 1 ∧ n = 0) ∨ (g = 0 ∧ n = k)))
      case atStart => exact ⟨0, rfl, Lib.hid ⟨hs2, HK2.out⟩, .inl ⟨rfl, rfl⟩⟩
      case round =>
        obtain ⟨n, rfl, HR, hn⟩ := hrel
        rcases hn with ⟨hg, rfl⟩ | ⟨hg, rfl⟩
        · go_wp2_with fail
          refine (see0_any b s i d _ HR.out.1 hs (by omega)).mono ?_
          rintro e w3 ⟨rfl, q3, rfl⟩
          rw [HC.out]
          go_wp2_with fail
          refine (rdigit_any' c _).mono ?_
          rintro e w4 ⟨rfl, hw4⟩
          rw [HD.out]
          subst hw4
          go_wp2_with fail
          go_loopw [4] (fun n' wx => ∃ n : Nat, n' = .int .i64 n ∧ n ≤ s.size - i ∧ Hid (ScanAt wx b s i d ∧ Keeps (fun _ => False) w wx) ∧ Hid (n = 0 ∨ DigAt (rest s i) n)) (fun n' _ => s.size + 1 - (intOf n').toNat)
          case atStart => exact ⟨0, rfl, Nat.zero_le _, Lib.hid ⟨HR.out.1.drewN _, HR.out.2.drewN _⟩, Lib.hid (.inl rfl)⟩
          case round =>
            obtain ⟨n, rfl, hns, HX, HN⟩ := hrel
            obtain ⟨x, hx⟩ : ∃ x, x = byteAt s (i + n) := ⟨_, rfl⟩
            have HXX := Lib.hid hx.symm
            clear hx
            cases hdx : digitB x with
            | true =>
              have HDX := Lib.hid hdx
              have hnl : i + n < s.size := by
                rcases Nat.lt_or_ge (i + n) s.size with h | h
                · exact h
                · have h0 : x = 0 := by
                    rw [← HXX.out]; unfold byteAt
                    rw [List.getD_eq_getElem?_getD, List.getElem?_eq_none (by rw [← Lib.size_eq]; omega)]; rfl
                  rw [h0] at hdx; exact absurd hdx (by decide)
              have hnx : DigAt (rest s i) (n + 1) := by
                rcases HN.out with h0 | h0
                · subst h0
                  refine ⟨Nat.le_refl _, by rw [rest_len]; omega, ?_⟩
                  show digRun ((rest s i).drop 1) + 1 = 1 + digRun ((rest s i).drop 1)
                  omega
                · refine h0.next (c := x) ?_ hdx
                  rw [rest_get hnl, byteAt_in hnl, HXX.out]
              have HNX := Lib.hid hnx
              clear hdx hnx
              go_wp2_with fail
              refine (see_any b s i n d _ HX.out.1 hs (by omega) (by omega)).mono ?_
              rintro e w5 ⟨rfl, q5, rfl⟩
              rw [HXX.out]
              go_wp2_with fail
              refine (rdigit_any' x _).mono ?_
              rintro e w6 ⟨rfl, hw6⟩
              rw [HDX.out]
              subst hw6
              go_wp2_with fail
              go_roundw
              case rel => exact ⟨n + 1, by go_num, by omega, Lib.hid ⟨HX.out.1.drewN _, HX.out.2.drewN _⟩, Lib.hid (.inr HNX.out)⟩
              case measure => simp [intOf]; omega
            | false =>
              have HDX := Lib.hid hdx
              have hnk : n = k := by
                rcases HN.out with h0 | h0
                · subst h0
                  exfalso
                  have : x = c := by rw [← HXX.out, ← HC.out]; rfl
                  rw [this, HD.out] at hdx
                  cases hdx
                · have hdr : (rest s i).drop 1 = rest s (i + 1) := by rw [rest_cons hlt]; rfl
                  rw [← HKK.out, ← hdr]
                  rcases Nat.lt_or_ge (i + n) s.size with hnl | hnl
                  · exact (h0.stop (c := x) (by rw [rest_get hnl, byteAt_in hnl, HXX.out]) hdx).symm
                  · exact (h0.over (by rw [rest_len]; omega)).symm
              subst hnk
              clear hdx
              go_wp2_with fail
              refine (see_any b s i n d _ HX.out.1 hs (by omega) (by omega)).mono ?_
              rintro e w5 ⟨rfl, q5, rfl⟩
              rw [HXX.out]
              go_wp2_with fail
              refine (rdigit_any' x _).mono ?_
              rintro e w6 ⟨rfl, hw6⟩
              rw [HDX.out]
              subst hw6
              go_wp2_with fail
              go_roundg 0
              case measure => omega
              case rel => exact ⟨n, rfl, Lib.hid ⟨HX.out.1.drewN _, HX.out.2.drewN _⟩, .inr ⟨rfl, rfl⟩⟩
        · have p1 : ((n : Int) == 0) = false := by rw [beq_eq_false_iff_ne]; omega
          have p2 : (i : Int) + (n : Int) ≤ (s.size : Int) := by omega
          have p3 : (i : Int) ≤ (i : Int) + (n : Int) := by omega
          have p4 : ((i : Int) + (n : Int)).toNat = i + n := by omega
          have hsr := HR.out.1
          obtain ⟨c0, c1, c2, f1, f2⟩ := hsr.cells
          go_wp2_with fail
          go_quiet (fail)
          go_wp2_with fail
          go_ret
          exact rname_close HR.out.2 hsr rfl (by omega)
end Go.Proofs.Ytnndnldpbdhkgaa
namespace Go.Proofs.Ytnndnldpbdhkgaa
open Go.RowKit
set_option linter.unusedVariables false

/-- What a reader's function that takes parts leaves: more parts, or an error. -/
def RPost (w : World) (B cs : Nat) (s : ByteArray) (bd : Nat) (raw : List Pt) (res : Res) (e : Ending) (w' : World) : Prop :=
  match res with
  | .ok (l, r) => ∃ (v : Value) (i : Nat), e = .returned v ∧ i ≤ s.size ∧ rest s i = r ∧ ScanAt w' cs s i ((0 : Nat) : Int) ∧ Row w' B v (raw ++ l) ∧ wtF (raw ++ l) ≤ 2 * i ∧ Keeps (fun b => b = cs ∨ B ≤ b) w w'
  | .error x => x ≠ 0 ∧ ∃ (v : Value) (i : Nat) (raw' : List Pt), e = .returned v ∧ i ≤ s.size + bd ∧ ScanAt w' cs s i (x : Int) ∧ Row w' B v raw' ∧ wtF raw' ≤ 1000000 ∧ Keeps (fun b => b = cs ∨ B ≤ b) w w'
def calcRes (q : Bool) (r : List UInt8) : Res := match calcF 0 r with
  | none => .error 2
  | some k => .ok ([.mk 4 (r.take k) [] [] [] q], r.drop (k + 2))
/-- How far the expression has come. -/
def RCalcAt (s : ByteArray) (i o I : Nat) : Prop := i ≤ I ∧ calcF 0 (rest s i) = (calcF o (rest s I)).map (· + (I - i))
theorem RCalcAt.start (s : ByteArray) (i : Nat) : RCalcAt s i 0 i := ⟨Nat.le_refl _, by rw [Nat.sub_self]; cases calcF 0 (rest s i) <;> rfl⟩
theorem RCalcAt.on {s : ByteArray} {i o o' I : Nat} (h : RCalcAt s i o I) (hs : calcF o (rest s I) = (calcF o' (rest s (I + 1))).map (· + 1)) : RCalcAt s i o' (I + 1) := by
  refine ⟨by have := h.1; omega, ?_⟩
  rw [h.2, hs]
  have := h.1
  cases calcF o' (rest s (I + 1)) with
  | none => rfl
  | some m => simp; omega
theorem RCalcAt.over {s : ByteArray} {i o I : Nat} (h : RCalcAt s i o I) (hI : s.size ≤ I) : calcF 0 (rest s i) = none := by
  rw [h.2, rest_nil hI]; rfl

theorem grown_undrew {w w' : World} {row : Option Nat} (h : w.drew.grownBy w' row) : w.grownBy w' row := ⟨h.os, h.tape, h.output, h.size, h.block⟩

set_option maxRecDepth 100000 in
set_option maxHeartbeats 4000000 in
theorem rcalc_any (B cs : Nat) (s : ByteArray) (i : Nat) (q : Bool) (v : Value) (raw : List Pt) (w : World) (h : ScanAt w cs s i ((0 : Nat) : Int)) (hs : s.size ≤ 20000) (hi : i ≤ s.size) (hr : Row w B v raw) (hcB : cs < B) (hB : B ≤ w.heap.size) (hl : wtF raw + 1 ≤ 2 * i) (bd : Nat) :
    Calls Try.prog 62 #[.pointer (some ⟨cs, 0, none⟩), v, .bool q] w (RPost w B cs s bd raw (calcRes q (rest s i))) := by
  obtain ⟨res, hres⟩ : ∃ res, res = calcRes q (rest s i) := ⟨_, rfl⟩
  rw [← hres]
  have HRES := Lib.hid hres
  obtain ⟨va, vc, rfl, _, _⟩ := hr.shape
  obtain ⟨i0, hi0, hz0, hz1, hz2⟩ := info_parts info_part
  have hc6 := cells_part
  obtain ⟨c0, c1, c2, f1, f2⟩ := h.cells
  have HR := Lib.hid hr
  have HSC := Lib.hid h
  obtain ⟨L, hL⟩ : ∃ L, L = raw.length := ⟨_, rfl⟩
  rw [← hL]
  have hlw := wtF_len raw
  rw [← hL] at HR hlw
  have HL := Lib.hid hL
  clear hres hr hL h
  go_enter Try.func62, Try.ntmps62
  go_wp2_with fail
  go_loopg [8] (s.size + 2 - i) (fun g o' wr => ∃ n I : Nat, o' = .int .i64 n ∧ g = s.size + 2 - I ∧ I ≤ s.size ∧ n ≤ I ∧ ScanAt wr cs s I ((0 : Nat) : Int) ∧ Hid (Keeps (fun b => b = cs) w wr) ∧ Hid (RCalcAt s i n I))
  case atStart => exact ⟨0, i, rfl, rfl, hi, Nat.zero_le _, HSC.out, Lib.hid (Keeps.refl _ _), Lib.hid (RCalcAt.start s i)⟩
  case round =>
    obtain ⟨n, I, rfl, hgk, hI, hnI, hsc, HK, HC⟩ := hrel
    have HGK := Lib.hid hgk
    have HSI := Lib.hid hsc
    clear hgk hsc
    rcases Nat.lt_or_ge I s.size with hlt | hge
    · have he : decide (s.size ≤ I) = false := decide_eq_false (by omega)
      have HE := Lib.hid he
      obtain ⟨c, hc⟩ : ∃ c, c = byteAt s I := ⟨_, rfl⟩
      have HCC := Lib.hid hc.symm
      have hrc := rest_cons hlt
      rw [← hc] at hrc
      have HRC := Lib.hid hrc
      clear he hc hrc
      by_cases t40 : c = 40
      · have f40 : ((c.toNat : Int) == 40) = true := test_yes (c := c) (k := 40) t40
        have hn := HC.out.on (o' := n + 1) (by rw [HRC.out, t40]; exact calcF_open _ _)
        have HN := Lib.hid hn
        clear t40 hn
        go_wp2_with fail
        refine (over_any cs s I _ _ HSI.out).mono ?_
        rintro e w1 ⟨rfl, q1, rfl⟩
        rw [HE.out]
        go_wp2_with fail
        refine (see0_any cs s I _ _ (HSI.out.drewN _) (by omega) (by omega)).mono ?_
        rintro e w2 ⟨rfl, q2, rfl⟩
        rw [HCC.out]
        obtain ⟨w2, hw2, hs2, hk2⟩ := scan_moved (n := q1 + q2) HSI.out ((I : Int) + 1)
        obtain ⟨d0, d1, d2, g1, g2⟩ := HSI.out.cells
        go_wp2_with fail
        rw [← hw2]
        go_roundg (s.size + 2 - (I + 1))
        case measure => have := HGK.out; omega
        case rel => exact ⟨n + 1, I + 1, by go_num, rfl, by omega, by omega, hs2, Lib.hid (HK.out.trans hk2 (fun _ _ e => e)), HN⟩
      have f40 : ((c.toNat : Int) == 40) = false := test_no (c := c) (k := 40) t40
      have g40 : (c == 40) = false := beq_eq_false_iff_ne.2 t40
      have G40 := Lib.hid g40
      clear t40 g40
      by_cases t41 : c = 41
      · have f41 : ((c.toNat : Int) == 41) = true := test_yes (c := c) (k := 41) t41
        rcases Nat.eq_zero_or_pos n with hn0 | hn0
        · subst hn0
          obtain ⟨x, hx⟩ : ∃ x, x = byteAt s (I + 1) := ⟨_, rfl⟩
          have HX := Lib.hid hx.symm
          have hcx : calcF 0 (rest s i) = (if headIs 41 (rest s (I + 1)) then some 0 else none).map (· + (I - i)) := by
            rw [HC.out.2, HRC.out, t41, calcF_end]
          have hhx : headIs 41 (rest s (I + 1)) = (x == 41) := by
            rw [hx]
            rcases Nat.lt_or_ge (I + 1) s.size with h | h
            · rw [rest_cons h]; rfl
            · rw [rest_nil h]
              unfold byteAt
              rw [List.getD_eq_getElem?_getD, List.getElem?_eq_none (by rw [← Lib.size_eq]; omega)]; rfl
          by_cases tx : x = 41
          · have fx : ((x.toNat : Int) != 41) = false := by rw [bne, show ((x.toNat : Int) == 41) = true from test_yes (c := x) (k := 41) tx]; rfl
            have hok : res = .ok ([.mk 4 ((rest s i).take (I - i)) [] [] [] q], rest s (I + 2)) := by
              rw [HRES.out]
              unfold calcRes
              rw [hcx, hhx, tx]
              show Except.ok ([Pt.mk 4 ((rest s i).take (0 + (I - i))) [] [] [] q], (rest s i).drop (0 + (I - i) + 2)) = _
              have := HC.out.1
              rw [rest_drop, show i + (0 + (I - i) + 2) = I + 2 by omega, Nat.zero_add]
            have hI2 : I + 2 ≤ s.size := by
              rcases Nat.lt_or_ge (I + 1) s.size with h | h
              · omega
              · exfalso
                rw [rest_nil h] at hhx
                rw [tx] at hhx
                cases hhx
            have HOK := Lib.hid hok
            have hiI := HC.out.1
            obtain ⟨T, hT⟩ : ∃ T, T = s.extract i I := ⟨_, rfl⟩
            have HTL := Lib.hid (show T.data.toList = (rest s i).take (I - i) by rw [hT, Lib.extract_data]; rfl)
            have HTT := Lib.hid hT
            have p1 : (i : Int) ≤ (I : Int) := by omega
            have p2 : (I : Int) ≤ (s.size : Int) := by omega
            clear t41 hcx hhx tx hx hok hT
            go_wp2_with fail
            refine (over_any cs s I _ _ HSI.out).mono ?_
            rintro e w1 ⟨rfl, q1, rfl⟩
            rw [HE.out]
            go_wp2_with fail
            refine (see0_any cs s I _ _ (HSI.out.drewN _) (by omega) (by omega)).mono ?_
            rintro e w2 ⟨rfl, q2, rfl⟩
            rw [HCC.out]
            obtain ⟨W, hW⟩ : ∃ W, W = (wr.drewN q1).drewN q2 := ⟨_, rfl⟩
            rw [← hW]
            have hsW : ScanAt W cs s I ((0 : Nat) : Int) := by rw [hW]; exact (HSI.out.drewN _).drewN _
            have HKW := Lib.hid (show Keeps (fun b => b = cs) w W by rw [hW]; exact (HK.out.drewN _).drewN _)
            clear hW
            go_wp2_with fail
            refine (see1_any cs s I _ _ hsW (by omega) (by omega)).mono ?_
            rintro e w3 ⟨rfl, q3, rfl⟩
            rw [HX.out]
            obtain ⟨W3, hW3⟩ : ∃ W3, W3 = W.drewN q3 := ⟨_, rfl⟩
            rw [← hW3]
            have hs3 : ScanAt W3 cs s I ((0 : Nat) : Int) := by rw [hW3]; exact hsW.drewN _
            have HK3 := Lib.hid (show Keeps (fun b => b = cs) w W3 by rw [hW3]; exact HKW.out.drewN _)
            obtain ⟨d0, d1, d2, g1, g2⟩ := hs3.cells
            have lt3 := hs3.lt
            clear hW3
            go_wp2_with fail
            go_region
            obtain ⟨w4, hw4, hs4, hk4⟩ := scan_moved0 hs3 ((I : Int) + 2)
            have HK4 := Lib.hid (HK3.out.trans hk4 (fun _ _ e => e))
            have hB4 : B ≤ w4.heap.size := Nat.le_trans hB HK4.out.size
            have hR4 := HR.out.keep HK4.out (fun _ _ e => by omega)
            have hF := hR4.more0 hB4 (w1 := w4.alloc (.cells #[.int .i64 4, .string T, .string ⟨#[]⟩, .string ⟨#[]⟩, .slice none 0 0, .bool q] 39)) ((Keeps.refl _ _).alloc _) (x := .mk 4 T.data.toList [] [] [] q) rfl
            obtain ⟨xs, hown, hF⟩ := hF
            have e : strV T.data.toList = .string T := strV_of rfl
            simp only [cellsP, Pt.kind, Pt.text, Pt.name, Pt.op, Pt.quoted, e] at hF
            have HF := Lib.hid hF
            have HS4 := Lib.hid hs4
            have hz4 : w4.heap.size = W3.heap.size := by rw [hw4]; simp [World.setCell]
            rw [← HL.out] at hown HF
            rw [HTT.out] at HF
            have HW4 := Lib.hid hw4
            rw [HTT.out, hw4] at hown
            have hb2 := heap_alloc_new ((W3.setCell ⟨cs, 1, none⟩ (.int .i64 ((I : Int) + 2))).alloc (.cells #[.int .i64 4, .string (s.extract i I), .string ⟨#[]⟩, .string ⟨#[]⟩, .slice none 0 0, .bool q] 39)) (.cells #[.int .i64 4, .string (s.extract i I), .string ⟨#[]⟩, .string ⟨#[]⟩, .slice none 0 0, .bool q] 39)
            have hz5 : ((W3.setCell ⟨cs, 1, none⟩ (.int .i64 ((I : Int) + 2))).alloc (.cells #[.int .i64 4, .string (s.extract i I), .string ⟨#[]⟩, .string ⟨#[]⟩, .slice none 0 0, .bool q] 39)).heap.size = W3.heap.size + 1 := by simp [World.setCell]
            rw [hz5] at hb2
            have HB2 := Lib.hid hb2
            clear hF hs4 hk4 hw4 hR4 e hb2 hz5
            go_wp2_with (at_builtin; refine wpList_append_lies _ rfl (.tmp 53) (.tmp 55) _ rfl 0 39 i0 _ 6 88 Try.underlying32 hi0 hz0 hz1 hz2 rfl (by omega) (.slice va L vc) L xs rfl ((hown.alloc _).drew) ⟨W3.heap.size + 1, 0, none⟩ 1 1 [.int .i64 4, .string (s.extract i I), .string ⟨#[]⟩, .string ⟨#[]⟩, .slice none 0 0, .bool q] rfl rfl (World.news_of_block (cs := #[.int .i64 4, .string (s.extract i I), .string ⟨#[]⟩, .string ⟨#[]⟩, .slice none 0 0, .bool q]) (t := 39) (fr := (0, 0)) HB2.out) (by simp [Value.oneCell']) (by omega) (by unfold maxLen; omega) (by omega) (by simp) (W3.heap.size + 1 + 1) (by simp [World.setCell]) ?_; intro gg cap w5 hown2 hgrow hat hlt2)
            go_ret
            obtain rfl := HW4.out
            obtain ⟨hrow, hkeep⟩ := HF.out gg cap w5 _ hown2 (grown_undrew hgrow) (by simpa [World.setCell] using hat)
            have htl := HTL.out
            rw [HTT.out] at htl
            rw [htl] at hrow
            rw [HOK.out]
            exact ⟨_, I + 2, rfl, hI2, rfl, HS4.out.keep hkeep (fun e => by omega), hrow, by rw [wtF_append]; simp only [wtF, Pt.text]; rw [List.length_take, rest_len]; omega, (HK4.out.mono fun _ _ e => .inl e).trans hkeep (fun _ _ e => .inr e)⟩
          · have fx : ((x.toNat : Int) != 41) = true := by rw [bne, show ((x.toNat : Int) == 41) = false from test_no (c := x) (k := 41) tx]; rfl
            have hx2 : res = .error 2 := by
              rw [HRES.out]
              unfold calcRes
              rw [hcx, hhx, beq_eq_false_iff_ne.2 tx]
              rfl
            have HX2 := Lib.hid hx2
            clear t41 hcx hhx tx hx hx2
            go_wp2_with fail
            refine (over_any cs s I _ _ HSI.out).mono ?_
            rintro e w1 ⟨rfl, q1, rfl⟩
            rw [HE.out]
            go_wp2_with fail
            refine (see0_any cs s I _ _ (HSI.out.drewN _) (by omega) (by omega)).mono ?_
            rintro e w2 ⟨rfl, q2, rfl⟩
            rw [HCC.out]
            obtain ⟨W, hW⟩ : ∃ W, W = (wr.drewN q1).drewN q2 := ⟨_, rfl⟩
            rw [← hW]
            have hsW : ScanAt W cs s I ((0 : Nat) : Int) := by rw [hW]; exact (HSI.out.drewN _).drewN _
            have HKW := Lib.hid (show Keeps (fun b => b = cs) w W by rw [hW]; exact (HK.out.drewN _).drewN _)
            clear hW
            go_wp2_with fail
            refine (see1_any cs s I _ _ hsW (by omega) (by omega)).mono ?_
            rintro e w3 ⟨rfl, q3, rfl⟩
            rw [HX.out]
            go_wp2_with fail
            refine (rfail_any cs s I 0 2 _ (hsW.drewN _)).mono ?_
            rintro e w4 ⟨rfl, hs4, hk4⟩
            have HS4 := Lib.hid hs4
            have HK4 := Lib.hid ((HKW.out.drewN q3).trans hk4 (fun _ _ e => e))
            clear hs4 hk4
            go_wp2_with fail
            go_ret
            rw [HX2.out]
            exact ⟨by decide, _, I, raw, rfl, by omega, HS4.out, by rw [HL.out]; rw [HL.out] at HR; exact HR.out.keep HK4.out (fun _ _ e => by omega), by omega, HK4.out.mono fun _ _ e => .inl e⟩
        · obtain ⟨n, rfl⟩ : ∃ m, n = m + 1 := ⟨n - 1, by omega⟩
          have hn := HC.out.on (o' := n) (by rw [HRC.out, t41]; exact calcF_shut _ _ (by omega))
          have HN := Lib.hid hn
          have p3 : (((n + 1 : Nat) : Int) == 0) = false := by rw [beq_eq_false_iff_ne]; omega
          clear t41 hn
          go_wp2_with fail
          refine (over_any cs s I _ _ HSI.out).mono ?_
          rintro e w1 ⟨rfl, q1, rfl⟩
          rw [HE.out]
          go_wp2_with fail
          refine (see0_any cs s I _ _ (HSI.out.drewN _) (by omega) (by omega)).mono ?_
          rintro e w2 ⟨rfl, q2, rfl⟩
          rw [HCC.out]
          obtain ⟨w2, hw2, hs2, hk2⟩ := scan_moved (n := q1 + q2) HSI.out ((I : Int) + 1)
          obtain ⟨d0, d1, d2, g1, g2⟩ := HSI.out.cells
          go_wp2_with fail
          rw [← hw2]
          go_roundg (s.size + 2 - (I + 1))
          case measure => have := HGK.out; omega
          case rel => exact ⟨n, I + 1, by go_num, rfl, by omega, by omega, hs2, Lib.hid (HK.out.trans hk2 (fun _ _ e => e)), HN⟩
      have f41 : ((c.toNat : Int) == 41) = false := test_no (c := c) (k := 41) t41
      have hn := HC.out.on (o' := n) (by rw [HRC.out]; exact calcF_else _ _ _ G40.out (beq_eq_false_iff_ne.2 t41))
      have HN := Lib.hid hn
      clear t41 hn
      go_wp2_with fail
      refine (over_any cs s I _ _ HSI.out).mono ?_
      rintro e w1 ⟨rfl, q1, rfl⟩
      rw [HE.out]
      go_wp2_with fail
      refine (see0_any cs s I _ _ (HSI.out.drewN _) (by omega) (by omega)).mono ?_
      rintro e w2 ⟨rfl, q2, rfl⟩
      rw [HCC.out]
      obtain ⟨w2, hw2, hs2, hk2⟩ := scan_moved (n := q1 + q2) HSI.out ((I : Int) + 1)
      obtain ⟨d0, d1, d2, g1, g2⟩ := HSI.out.cells
      go_wp2_with fail
      rw [← hw2]
      go_roundg (s.size + 2 - (I + 1))
      case measure => have := HGK.out; omega
      case rel => exact ⟨n, I + 1, by go_num, rfl, by omega, by omega, hs2, Lib.hid (HK.out.trans hk2 (fun _ _ e => e)), HN⟩
    · have he : decide (s.size ≤ I) = true := decide_eq_true hge
      have HE := Lib.hid he
      have hx : res = .error 2 := by
        rw [HRES.out]
        unfold calcRes
        rw [HC.out.over hge]
      have HX := Lib.hid hx
      clear he hx
      go_wp2_with fail
      refine (over_any cs s I _ _ HSI.out).mono ?_
      rintro e w1 ⟨rfl, q1, rfl⟩
      rw [HE.out]
      go_wp2_with fail
      refine (rfail_any cs s I 0 2 _ (HSI.out.drewN _)).mono ?_
      rintro e w2 ⟨rfl, hs2, hk2⟩
      have HS2 := Lib.hid hs2
      have HK2 := Lib.hid ((HK.out.drewN q1).trans hk2 (fun _ _ e => e))
      clear hs2 hk2
      go_wp2_with fail
      go_ret
      rw [HX.out]
      exact ⟨by decide, _, I, raw, rfl, by omega, HS2.out, by rw [HL.out]; rw [HL.out] at HR; exact HR.out.keep HK2.out (fun _ _ e => by omega), by omega, HK2.out.mono fun _ _ e => .inl e⟩
end Go.Proofs.Ytnndnldpbdhkgaa
