/-
  The document's own reader: over what stands in quotes, or behind a backslash.
  The document's own reader: a script.
-/
import Derived.Test.YtnndnldpbdhkgaaLexR2
import Derived.Test.YtnndnldpbdhkgaaLexY
namespace Go.Proofs.Ytnndnldpbdhkgaa
open Go.RowKit
set_option linter.unusedVariables false

/-- Where one comes by passing over one thing in a script. -/
def PassTo (s : ByteArray) (I J : Nat) : Prop := I < J ∧ J ≤ s.size + 2 ∧ ((byteAt s I == 40) = false → (byteAt s I == 41) = false → ∀ o, subF .n o (rest s I) = (subF .n o (rest s J)).map (· + (J - I))) ∧ (byteAt s I = 40 ∨ byteAt s I = 41 → J = I + 1)
def RPassPost (w : World) (cs : Nat) (s : ByteArray) (I : Nat) (e : Ending) (w' : World) : Prop :=
  e = .returned (.tuple #[]) ∧ ∃ J : Nat, PassTo s I J ∧ ScanAt w' cs s J ((0 : Nat) : Int) ∧ Keeps (fun b => b = cs) w w'
theorem pass_to_some {s : ByteArray} {I k : Nat} {q : UInt8} (hI : I < s.size) (hc : byteAt s I = q) (hq : q = 39 ∨ q = 34) (h : passQ q false (rest s (I + 1)) = some k) : PassTo s I (I + (k + 1)) := by
  have hk := passQ_le h
  rw [rest_len] at hk
  refine ⟨by omega, by omega, fun _ _ o => ?_, fun h2 => ?_⟩
  · rcases hq with rfl | rfl
    · rw [sub_quote1 hI hc, h]
      simp only [Option.bind_some]
      rw [show I + (k + 1) - I = k + 1 by omega]
    · rw [sub_quote2 hI hc, h]
      simp only [Option.bind_some]
      rw [show I + (k + 1) - I = k + 1 by omega]
  · rw [hc] at h2
    rcases hq with rfl | rfl <;> exact absurd h2 (by decide)
theorem pass_to_none {s : ByteArray} {I J : Nat} {q : UInt8} (hI : I < s.size) (hc : byteAt s I = q) (hq : q = 39 ∨ q = 34) (h : passQ q false (rest s (I + 1)) = none) (h1 : s.size < J) (h2 : J ≤ s.size + 2) : PassTo s I J := by
  refine ⟨by omega, h2, fun _ _ o => ?_, fun h2 => ?_⟩
  · rw [rest_nil (show s.size ≤ J by omega)]
    rcases hq with rfl | rfl
    · rw [sub_quote1 hI hc, h]; rfl
    · rw [sub_quote2 hI hc, h]; rfl
  · rw [hc] at h2
    rcases hq with rfl | rfl <;> exact absurd h2 (by decide)
theorem pass_to_back {s : ByteArray} {I : Nat} (hI : I < s.size) (hc : byteAt s I = 92) : PassTo s I (I + 2) := by
  refine ⟨by omega, by omega, fun _ _ o => ?_, fun h2 => ?_⟩
  · rw [sub_back hI hc, show I + 2 - I = 2 by omega]
  · rw [hc] at h2; exact absurd h2 (by decide)
theorem pass_to_else {s : ByteArray} {I : Nat} (hI : I < s.size) (h1 : (byteAt s I == 39) = false) (h2 : (byteAt s I == 34) = false) (h3 : (byteAt s I == 92) = false) : PassTo s I (I + 1) := by
  refine ⟨by omega, by omega, fun h4 h5 o => ?_, fun _ => rfl⟩
  rw [rest_cons hI, sub_else h1 h2 h3 h4 h5, show I + 1 - I = 1 by omega]
theorem rmoved {w : World} {cs : Nat} {s : ByteArray} {i j d : Int} {J : Nat} (h : ScanAt w cs s i d) (hj : j = (J : Int)) : ScanAt (w.setCell ⟨cs, 1, none⟩ (.int .i64 j)) cs s J d ∧ Keeps (fun b => b = cs) w (w.setCell ⟨cs, 1, none⟩ (.int .i64 j)) :=
  ⟨by rw [hj]; exact h.set1 _, (Keeps.refl _ _).setCell _ _ fun _ => rfl⟩
theorem RPassPost.mk' {w w' : World} {cs : Nat} {s : ByteArray} {I J : Nat} (h : PassTo s I J) (hs : ScanAt w' cs s J ((0 : Nat) : Int)) (hk : Keeps (fun b => b = cs) w w') : RPassPost w cs s I (.returned (.tuple #[])) w' := ⟨rfl, J, h, hs, hk⟩

set_option maxHeartbeats 4000000 in
theorem rpass_any (cs : Nat) (s : ByteArray) (I : Nat) (w : World) (h : ScanAt w cs s I ((0 : Nat) : Int)) (hs : s.size ≤ 20000) (hI : I < s.size) :
    Calls Try.prog 74 #[.pointer (some ⟨cs, 0, none⟩)] w (RPassPost w cs s I) := by
  obtain ⟨c, hc⟩ : ∃ c, c = byteAt s I := ⟨_, rfl⟩
  have HC := Lib.hid hc.symm
  clear hc
  by_cases t92 : c = 92
  · have f92 : ((c.toNat : Int) == 92) = true := test_yes (c := c) (k := 92) t92
    have HP := Lib.hid (pass_to_back hI (HC.out.trans t92))
    clear t92
    go_enter Try.func74, Try.ntmps74
    go_wp2_with fail
    refine (see0_any cs s I _ _ h (by omega) (by omega)).mono ?_
    rintro e w1 ⟨rfl, q1, rfl⟩
    rw [HC.out]
    obtain ⟨w2, hw2, hs2, hk2⟩ := scan_moved (n := q1) h ((I : Int) + 1)
    obtain ⟨d0, d1, d2, g1, g2⟩ := h.cells
    go_wp2_with fail
    try rw [← hw2]
    go_end0
    obtain ⟨hs3, hk3⟩ := rmoved hs2 (j := (I : Int) + 1 + 1) (J := I + 2) (by omega)
    exact RPassPost.mk' HP.out hs3 (hk2.trans hk3 (fun _ _ e => e))
  have f92 : ((c.toNat : Int) == 92) = false := test_no (c := c) (k := 92) t92
  have G92 := Lib.hid (show (c == 92) = false from beq_eq_false_iff_ne.2 t92)
  clear t92
  by_cases t39 : c = 39
  · have f39 : ((c.toNat : Int) == 39) = true := test_yes (c := c) (k := 39) t39
    have HQ := Lib.hid (HC.out.trans t39)
    clear t39
    go_enter Try.func74, Try.ntmps74
    go_wp2_with fail
    refine (see0_any cs s I _ _ h (by omega) (by omega)).mono ?_
    rintro e w1 ⟨rfl, q1, rfl⟩
    rw [HC.out]
    obtain ⟨w2, hw2, hs2, hk2⟩ := scan_moved (n := q1) h ((I : Int) + 1)
    obtain ⟨d0, d1, d2, g1, g2⟩ := h.cells
    go_wp2_with fail
    try rw [← hw2]
    go_loopg [] (s.size + 3 - (I + 1)) (fun g wr => ∃ K : Nat, g = s.size + 3 - K ∧ I < K ∧ K ≤ s.size + 0 ∧ Hid (ScanAt wr cs s K ((0 : Nat) : Int)) ∧ Hid (Keeps (fun b => b = cs) w wr) ∧ Hid (PassAt 39 s (I + 1) K))
    case atStart => exact ⟨I + 1, by omega, by omega, by omega, Lib.hid hs2, Lib.hid hk2, Lib.hid (PassAt.start _ _ _)⟩
    case round =>
      obtain ⟨K, hg, hIK, hKs, HS, HK, HA⟩ := hrel
      have HG := Lib.hid hg
      clear hg
      rcases Nat.lt_or_ge K s.size with hlt | hge
      · have HE := Lib.hid (show decide (s.size ≤ K) = false from decide_eq_false (by omega))
        obtain ⟨x, hx⟩ : ∃ x, x = byteAt s K := ⟨_, rfl⟩
        have HX := Lib.hid hx.symm
        clear hx
        by_cases tx : x = 39
        · have fx : ((x.toNat : Int) != 39) = false := by rw [bne, show ((x.toNat : Int) == 39) = true from test_yes (c := x) (k := 39) tx]; rfl
          have hp := HA.out.stop hlt (by rw [HX.out, tx]; rfl)
          have HP := Lib.hid (show PassTo s I (K + 1) by have h := pass_to_some hI HQ.out (by decide) hp; rwa [show I + (K + 1 - (I + 1) + 1) = K + 1 by omega] at h)
          clear tx hp
          go_wp2_with fail
          refine (over_any cs s K _ _ HS.out).mono ?_
          rintro e w3 ⟨rfl, q3, rfl⟩
          rw [HE.out]
          go_wp2_with fail
          refine (see0_any cs s K _ _ (HS.out.drewN _) (by omega) (by omega)).mono ?_
          rintro e w4 ⟨rfl, q4, rfl⟩
          rw [HX.out]
          obtain ⟨w5, hw5⟩ : ∃ w5, w5 = (wr.drewN q3).drewN q4 := ⟨_, rfl⟩
          rw [← hw5]
          have hs5 : ScanAt w5 cs s K ((0 : Nat) : Int) := by rw [hw5]; exact (HS.out.drewN _).drewN _
          have HK5 := Lib.hid (show Keeps (fun b => b = cs) w w5 by rw [hw5]; exact (HK.out.drewN _).drewN _)
          obtain ⟨d0, d1, d2, g1, g2⟩ := hs5.cells
          clear hw5
          go_wp2_with fail
          go_end0
          obtain ⟨hs6, hk6⟩ := rmoved hs5 (j := (K : Int) + 1) (J := K + 1) (by omega)
          exact RPassPost.mk' HP.out hs6 (HK5.out.trans hk6 (fun _ _ e => e))
        · have fx : ((x.toNat : Int) != 39) = true := by rw [bne, show ((x.toNat : Int) == 39) = false from test_no (c := x) (k := 39) tx]; rfl
          have hxq : (byteAt s K == 39) = false := by rw [HX.out]; exact beq_eq_false_iff_ne.2 tx
          have HN := Lib.hid (HA.out.one hlt hxq (by rw [show ((39 : UInt8) == 34) = false from rfl, Bool.and_false]))
          clear tx hxq
          go_wp2_with fail
          refine (over_any cs s K _ _ HS.out).mono ?_
          rintro e w3 ⟨rfl, q3, rfl⟩
          rw [HE.out]
          go_wp2_with fail
          refine (see0_any cs s K _ _ (HS.out.drewN _) (by omega) (by omega)).mono ?_
          rintro e w4 ⟨rfl, q4, rfl⟩
          rw [HX.out]
          obtain ⟨w5, hw5⟩ : ∃ w5, w5 = (wr.drewN q3).drewN q4 := ⟨_, rfl⟩
          rw [← hw5]
          have hs5 : ScanAt w5 cs s K ((0 : Nat) : Int) := by rw [hw5]; exact (HS.out.drewN _).drewN _
          have HK5 := Lib.hid (show Keeps (fun b => b = cs) w w5 by rw [hw5]; exact (HK.out.drewN _).drewN _)
          obtain ⟨d0, d1, d2, g1, g2⟩ := hs5.cells
          clear hw5
          go_wp2_with fail
          obtain ⟨hs6, hk6⟩ := rmoved hs5 (j := (K : Int) + 1) (J := K + 1) (by omega)
          go_roundg (s.size + 3 - (K + 1))
          case measure => have := HG.out; omega
          case rel => exact ⟨K + 1, rfl, by omega, by omega, Lib.hid hs6, Lib.hid (HK5.out.trans hk6 (fun _ _ e => e)), HN⟩
      · have HE := Lib.hid (show decide (s.size ≤ K) = true from decide_eq_true hge)
        have HP := Lib.hid (pass_to_none (J := K + 1) hI HQ.out (by decide) (HA.out.over hge) (by omega) (by omega))
        go_wp2_with fail
        refine (over_any cs s K _ _ HS.out).mono ?_
        rintro e w3 ⟨rfl, q3, rfl⟩
        rw [HE.out]
        obtain ⟨w5, hw5⟩ : ∃ w5, w5 = wr.drewN q3 := ⟨_, rfl⟩
        rw [← hw5]
        have hs5 : ScanAt w5 cs s K ((0 : Nat) : Int) := by rw [hw5]; exact HS.out.drewN _
        have HK5 := Lib.hid (show Keeps (fun b => b = cs) w w5 by rw [hw5]; exact HK.out.drewN _)
        obtain ⟨d0, d1, d2, g1, g2⟩ := hs5.cells
        clear hw5
        go_wp2_with fail
        go_end0
        obtain ⟨hs6, hk6⟩ := rmoved hs5 (j := (K : Int) + 1) (J := K + 1) (by omega)
        exact RPassPost.mk' HP.out hs6 (HK5.out.trans hk6 (fun _ _ e => e))
  have f39 : ((c.toNat : Int) == 39) = false := test_no (c := c) (k := 39) t39
  have G39 := Lib.hid (show (c == 39) = false from beq_eq_false_iff_ne.2 t39)
  clear t39
  by_cases t34 : c = 34
  · have f34 : ((c.toNat : Int) == 34) = true := test_yes (c := c) (k := 34) t34
    have HQ := Lib.hid (HC.out.trans t34)
    clear t34
    go_enter Try.func74, Try.ntmps74
    go_wp2_with fail
    refine (see0_any cs s I _ _ h (by omega) (by omega)).mono ?_
    rintro e w1 ⟨rfl, q1, rfl⟩
    rw [HC.out]
    obtain ⟨w2, hw2, hs2, hk2⟩ := scan_moved (n := q1) h ((I : Int) + 1)
    obtain ⟨d0, d1, d2, g1, g2⟩ := h.cells
    go_wp2_with fail
    try rw [← hw2]
    go_loopg [] (s.size + 3 - (I + 1)) (fun g wr => ∃ K : Nat, g = s.size + 3 - K ∧ I < K ∧ K ≤ s.size + 1 ∧ Hid (ScanAt wr cs s K ((0 : Nat) : Int)) ∧ Hid (Keeps (fun b => b = cs) w wr) ∧ Hid (PassAt 34 s (I + 1) K))
    case atStart => exact ⟨I + 1, by omega, by omega, by omega, Lib.hid hs2, Lib.hid hk2, Lib.hid (PassAt.start _ _ _)⟩
    case round =>
      obtain ⟨K, hg, hIK, hKs, HS, HK, HA⟩ := hrel
      have HG := Lib.hid hg
      clear hg
      rcases Nat.lt_or_ge K s.size with hlt | hge
      · have HE := Lib.hid (show decide (s.size ≤ K) = false from decide_eq_false (by omega))
        obtain ⟨x, hx⟩ : ∃ x, x = byteAt s K := ⟨_, rfl⟩
        have HX := Lib.hid hx.symm
        clear hx
        by_cases tx : x = 34
        · have fx : ((x.toNat : Int) != 34) = false := by rw [bne, show ((x.toNat : Int) == 34) = true from test_yes (c := x) (k := 34) tx]; rfl
          have hp := HA.out.stop hlt (by rw [HX.out, tx]; rfl)
          have HP := Lib.hid (show PassTo s I (K + 1) by have h := pass_to_some hI HQ.out (by decide) hp; rwa [show I + (K + 1 - (I + 1) + 1) = K + 1 by omega] at h)
          clear tx hp
          go_wp2_with fail
          refine (over_any cs s K _ _ HS.out).mono ?_
          rintro e w3 ⟨rfl, q3, rfl⟩
          rw [HE.out]
          go_wp2_with fail
          refine (see0_any cs s K _ _ (HS.out.drewN _) (by omega) (by omega)).mono ?_
          rintro e w4 ⟨rfl, q4, rfl⟩
          rw [HX.out]
          obtain ⟨w5, hw5⟩ : ∃ w5, w5 = (wr.drewN q3).drewN q4 := ⟨_, rfl⟩
          rw [← hw5]
          have hs5 : ScanAt w5 cs s K ((0 : Nat) : Int) := by rw [hw5]; exact (HS.out.drewN _).drewN _
          have HK5 := Lib.hid (show Keeps (fun b => b = cs) w w5 by rw [hw5]; exact (HK.out.drewN _).drewN _)
          obtain ⟨d0, d1, d2, g1, g2⟩ := hs5.cells
          clear hw5
          go_wp2_with fail
          go_end0
          obtain ⟨hs6, hk6⟩ := rmoved hs5 (j := (K : Int) + 1) (J := K + 1) (by omega)
          exact RPassPost.mk' HP.out hs6 (HK5.out.trans hk6 (fun _ _ e => e))
        · have fx : ((x.toNat : Int) != 34) = true := by rw [bne, show ((x.toNat : Int) == 34) = false from test_no (c := x) (k := 34) tx]; rfl
          have hxq : (byteAt s K == 34) = false := by rw [HX.out]; exact beq_eq_false_iff_ne.2 tx
          by_cases t92 : x = 92
          · have fy : ((x.toNat : Int) == 92) = true := test_yes (c := x) (k := 92) t92
            have HN := Lib.hid (HA.out.two hlt hxq (by rw [HX.out, t92]; rfl))
            clear tx t92 hxq
            go_wp2_with fail
            refine (over_any cs s K _ _ HS.out).mono ?_
            rintro e w3 ⟨rfl, q3, rfl⟩
            rw [HE.out]
            go_wp2_with fail
            refine (see0_any cs s K _ _ (HS.out.drewN _) (by omega) (by omega)).mono ?_
            rintro e w4 ⟨rfl, q4, rfl⟩
            rw [HX.out]
            go_wp2_with fail
            refine (see0_any cs s K _ _ (HS.out.drewN (q3 + q4)) (by omega) (by omega)).mono ?_
            rintro e w4 ⟨rfl, q5, rfl⟩
            rw [HX.out]
            obtain ⟨w5, hw5⟩ : ∃ w5, w5 = (wr.drewN (q3 + q4)).drewN q5 := ⟨_, rfl⟩
            rw [← hw5]
            have hs5 : ScanAt w5 cs s K ((0 : Nat) : Int) := by rw [hw5]; exact (HS.out.drewN _).drewN _
            have HK5 := Lib.hid (show Keeps (fun b => b = cs) w w5 by rw [hw5]; exact (HK.out.drewN _).drewN _)
            obtain ⟨d0, d1, d2, g1, g2⟩ := hs5.cells
            clear hw5
            go_wp2_with fail
            obtain ⟨hs6a, hk6a⟩ := rmoved hs5 (j := (K : Int) + 1) (J := K + 1) (by omega)
            obtain ⟨hs6, hk6b⟩ := rmoved hs6a (j := (K : Int) + 1 + 1) (J := K + 2) (by omega)
            have hk6 := hk6a.trans hk6b (fun _ _ e => e)
            go_roundg (s.size + 3 - (K + 2))
            case measure => have := HG.out; omega
            case rel => exact ⟨K + 2, rfl, by omega, by omega, Lib.hid hs6, Lib.hid (HK5.out.trans hk6 (fun _ _ e => e)), HN⟩
          · have fy : ((x.toNat : Int) == 92) = false := test_no (c := x) (k := 92) t92
            have HN := Lib.hid (HA.out.one hlt hxq (by rw [HX.out, beq_eq_false_iff_ne.2 t92]; rfl))
            clear tx t92 hxq
            go_wp2_with fail
            refine (over_any cs s K _ _ HS.out).mono ?_
            rintro e w3 ⟨rfl, q3, rfl⟩
            rw [HE.out]
            go_wp2_with fail
            refine (see0_any cs s K _ _ (HS.out.drewN _) (by omega) (by omega)).mono ?_
            rintro e w4 ⟨rfl, q4, rfl⟩
            rw [HX.out]
            go_wp2_with fail
            refine (see0_any cs s K _ _ (HS.out.drewN (q3 + q4)) (by omega) (by omega)).mono ?_
            rintro e w4 ⟨rfl, q5, rfl⟩
            rw [HX.out]
            obtain ⟨w5, hw5⟩ : ∃ w5, w5 = (wr.drewN (q3 + q4)).drewN q5 := ⟨_, rfl⟩
            rw [← hw5]
            have hs5 : ScanAt w5 cs s K ((0 : Nat) : Int) := by rw [hw5]; exact (HS.out.drewN _).drewN _
            have HK5 := Lib.hid (show Keeps (fun b => b = cs) w w5 by rw [hw5]; exact (HK.out.drewN _).drewN _)
            obtain ⟨d0, d1, d2, g1, g2⟩ := hs5.cells
            clear hw5
            go_wp2_with fail
            obtain ⟨hs6, hk6⟩ := rmoved hs5 (j := (K : Int) + 1) (J := K + 1) (by omega)
            go_roundg (s.size + 3 - (K + 1))
            case measure => have := HG.out; omega
            case rel => exact ⟨K + 1, rfl, by omega, by omega, Lib.hid hs6, Lib.hid (HK5.out.trans hk6 (fun _ _ e => e)), HN⟩
      · have HE := Lib.hid (show decide (s.size ≤ K) = true from decide_eq_true hge)
        have HP := Lib.hid (pass_to_none (J := K + 1) hI HQ.out (by decide) (HA.out.over hge) (by omega) (by omega))
        go_wp2_with fail
        refine (over_any cs s K _ _ HS.out).mono ?_
        rintro e w3 ⟨rfl, q3, rfl⟩
        rw [HE.out]
        obtain ⟨w5, hw5⟩ : ∃ w5, w5 = wr.drewN q3 := ⟨_, rfl⟩
        rw [← hw5]
        have hs5 : ScanAt w5 cs s K ((0 : Nat) : Int) := by rw [hw5]; exact HS.out.drewN _
        have HK5 := Lib.hid (show Keeps (fun b => b = cs) w w5 by rw [hw5]; exact HK.out.drewN _)
        obtain ⟨d0, d1, d2, g1, g2⟩ := hs5.cells
        clear hw5
        go_wp2_with fail
        go_end0
        obtain ⟨hs6, hk6⟩ := rmoved hs5 (j := (K : Int) + 1) (J := K + 1) (by omega)
        exact RPassPost.mk' HP.out hs6 (HK5.out.trans hk6 (fun _ _ e => e))
  have f34 : ((c.toNat : Int) == 34) = false := test_no (c := c) (k := 34) t34
  have G34 := Lib.hid (show (c == 34) = false from beq_eq_false_iff_ne.2 t34)
  clear t34
  have HP := Lib.hid (pass_to_else hI (by rw [HC.out]; exact G39.out) (by rw [HC.out]; exact G34.out) (by rw [HC.out]; exact G92.out))
  go_enter Try.func74, Try.ntmps74
  go_wp2_with fail
  refine (see0_any cs s I _ _ h (by omega) (by omega)).mono ?_
  rintro e w1 ⟨rfl, q1, rfl⟩
  rw [HC.out]
  obtain ⟨w2, hw2, hs2, hk2⟩ := scan_moved (n := q1) h ((I : Int) + 1)
  obtain ⟨d0, d1, d2, g1, g2⟩ := h.cells
  go_wp2_with fail
  try rw [← hw2]
  go_end0
  exact RPassPost.mk' HP.out hs2 hk2
end Go.Proofs.Ytnndnldpbdhkgaa
namespace Go.Proofs.Ytnndnldpbdhkgaa
open Go.RowKit
set_option linter.unusedVariables false

def subRes (q : Bool) (r : List UInt8) : Res := match subF .n 0 r with
  | none => .error 2
  | some k => .ok ([.mk 5 (r.take k) [] [] [] q], r.drop (k + 1))
theorem SubAt.to {s : ByteArray} {i o o' I J : Nat} (h : SubAt s i o I) (hJ : I < J) (hs : subF .n o (rest s I) = (subF .n o' (rest s J)).map (· + (J - I))) : SubAt s i o' J := by
  have := h.on (o' := o') (k := J - I) (by rw [show I + (J - I) = J by omega]; exact hs)
  rwa [show I + (J - I) = J by omega] at this
set_option maxRecDepth 100000 in
set_option maxHeartbeats 4000000 in
theorem rsub_any (B cs : Nat) (s : ByteArray) (i : Nat) (q : Bool) (v : Value) (raw : List Pt) (w : World) (h : ScanAt w cs s i ((0 : Nat) : Int)) (hs : s.size ≤ 20000) (hi : i ≤ s.size) (hr : Row w B v raw) (hcB : cs < B) (hB : B ≤ w.heap.size) (hl : wtF raw + 1 ≤ 2 * i) (bd : Nat) (hbd : 2 ≤ bd) :
    Calls Try.prog 63 #[.pointer (some ⟨cs, 0, none⟩), v, .bool q] w (RPost w B cs s bd raw (subRes q (rest s i))) := by
  obtain ⟨res, hres⟩ : ∃ res, res = subRes q (rest s i) := ⟨_, rfl⟩
  rw [← hres]
  have HRES := Lib.hid hres
  obtain ⟨va, vc, rfl, _, _⟩ := hr.shape
  obtain ⟨i0, hi0, hz0, hz1, hz2⟩ := info_parts info_part
  have hc6 := cells_part
  obtain ⟨c0, c1, c2, f1, f2⟩ := h.cells
  have HR := Lib.hid hr
  have HSC := Lib.hid h
  obtain ⟨L, hL⟩ : ∃ L, L = raw.length := ⟨_, rfl⟩
  rw [← hL]
  have hlw := wtF_len raw
  rw [← hL] at HR hlw
  have HL := Lib.hid hL
  clear hres hr hL h
  go_enter Try.func63, Try.ntmps63
  go_wp2_with fail
  go_loopg [8] (s.size + 3 - i) (fun g o' wr => ∃ n I : Nat, o' = .int .i64 n ∧ g = s.size + 3 - I ∧ i ≤ I ∧ I ≤ s.size + 2 ∧ n ≤ I ∧ ScanAt wr cs s I ((0 : Nat) : Int) ∧ Hid (Keeps (fun b => b = cs) w wr) ∧ Hid (SubAt s i n I))
  case atStart => exact ⟨0, i, rfl, rfl, Nat.le_refl _, by omega, Nat.zero_le _, HSC.out, Lib.hid (Keeps.refl _ _), Lib.hid (SubAt.start s i)⟩
  case round =>
    obtain ⟨n, I, rfl, hgk, hiI, hI, hnI, hsc, HK, HC⟩ := hrel
    have HGK := Lib.hid hgk
    have HSI := Lib.hid hsc
    clear hgk hsc
    rcases Nat.lt_or_ge I s.size with hlt | hge
    · have HE := Lib.hid (show decide (s.size ≤ I) = false from decide_eq_false (by omega))
      obtain ⟨c, hc⟩ : ∃ c, c = byteAt s I := ⟨_, rfl⟩
      have HCC := Lib.hid hc.symm
      have hrc := rest_cons hlt
      rw [← hc] at hrc
      have HRC := Lib.hid hrc
      clear hc hrc
      by_cases t40 : c = 40
      · have f40 : ((c.toNat : Int) == 40) = true := test_yes (c := c) (k := 40) t40
        have f41 : ((c.toNat : Int) == 41) = false := test_no (c := c) (k := 41) (by rw [t40]; decide)
        have HN := Lib.hid (show ∀ J, PassTo s I J → SubAt s i (n + 1) J from fun J hto => by
          have e := hto.2.2.2 (.inl (by rw [HCC.out, t40]))
          subst e
          refine HC.out.to (by omega) ?_
          rw [HRC.out, t40, show I + 1 - I = 1 by omega]; rfl)
        clear t40
        go_wp2_with fail
        refine (over_any cs s I _ _ HSI.out).mono ?_
        rintro e w1 ⟨rfl, q1, rfl⟩
        rw [HE.out]
        go_wp2_with fail
        refine (see0_any cs s I _ _ (HSI.out.drewN _) (by omega) (by omega)).mono ?_
        rintro e w2 ⟨rfl, q2, rfl⟩
        rw [HCC.out]
        obtain ⟨W3, hW3⟩ : ∃ W3, W3 = (wr.drewN q1).drewN q2 := ⟨_, rfl⟩
        rw [← hW3]
        have hs3 : ScanAt W3 cs s I ((0 : Nat) : Int) := by rw [hW3]; exact (HSI.out.drewN _).drewN _
        have HK3 := Lib.hid (show Keeps (fun b => b = cs) w W3 by rw [hW3]; exact (HK.out.drewN _).drewN _)
        clear hW3
        go_wp2_with fail
        refine (rpass_any cs s I _ hs3 hs hlt).mono ?_
        rintro e w4 ⟨rfl, J, hto, hs4, hk4⟩
        have HTO := Lib.hid hto
        have hJ1 := hto.1
        have hJ2 := hto.2.1
        have HS4 := Lib.hid hs4
        have HK4 := Lib.hid (HK3.out.trans hk4 (fun _ _ e => e))
        clear hto hs4 hk4
        go_wp2_with fail
        go_roundg (s.size + 3 - J)
        case measure => have := HGK.out; omega
        case rel => exact ⟨n + 1, J, by go_num, rfl, by omega, hJ2, by omega, HS4.out, HK4, Lib.hid (HN.out J HTO.out)⟩
      have f40 : ((c.toNat : Int) == 40) = false := test_no (c := c) (k := 40) t40
      have G40 := Lib.hid (show (c == 40) = false from beq_eq_false_iff_ne.2 t40)
      clear t40
      by_cases t41 : c = 41
      · have f41 : ((c.toNat : Int) == 41) = true := test_yes (c := c) (k := 41) t41
        rcases Nat.eq_zero_or_pos n with hn0 | hn0
        · subst hn0
          have hok : res = .ok ([.mk 5 ((rest s i).take (I - i)) [] [] [] q], rest s (I + 1)) := by
            rw [HRES.out]
            unfold subRes
            rw [HC.out.stop hlt (HCC.out.trans t41)]
            show Except.ok ([Pt.mk 5 ((rest s i).take (I - i)) [] [] [] q], (rest s i).drop (I - i + 1)) = _
            rw [rest_drop, show i + (I - i + 1) = I + 1 by omega]
          have HOK := Lib.hid hok
          obtain ⟨T, hT⟩ : ∃ T, T = s.extract i I := ⟨_, rfl⟩
          have HTL := Lib.hid (show T.data.toList = (rest s i).take (I - i) by rw [hT, Lib.extract_data]; rfl)
          have HTT := Lib.hid hT
          have p1 : (i : Int) ≤ (I : Int) := by omega
          have p2 : (I : Int) ≤ (s.size : Int) := by omega
          clear t41 hok hT
          go_wp2_with fail
          refine (over_any cs s I _ _ HSI.out).mono ?_
          rintro e w1 ⟨rfl, q1, rfl⟩
          rw [HE.out]
          go_wp2_with fail
          refine (see0_any cs s I _ _ (HSI.out.drewN _) (by omega) (by omega)).mono ?_
          rintro e w2 ⟨rfl, q2, rfl⟩
          rw [HCC.out]
          obtain ⟨W3, hW3⟩ : ∃ W3, W3 = (wr.drewN q1).drewN q2 := ⟨_, rfl⟩
          rw [← hW3]
          have hs3 : ScanAt W3 cs s I ((0 : Nat) : Int) := by rw [hW3]; exact (HSI.out.drewN _).drewN _
          have HK3 := Lib.hid (show Keeps (fun b => b = cs) w W3 by rw [hW3]; exact (HK.out.drewN _).drewN _)
          clear hW3
          obtain ⟨d0, d1, d2, g1, g2⟩ := hs3.cells
          have lt3 := hs3.lt
          go_wp2_with fail
          go_region
          obtain ⟨w4, hw4, hs4, hk4⟩ := scan_moved0 hs3 ((I : Int) + 1)
          have HK4 := Lib.hid (HK3.out.trans hk4 (fun _ _ e => e))
          have hB4 : B ≤ w4.heap.size := Nat.le_trans hB HK4.out.size
          have hR4 := HR.out.keep HK4.out (fun _ _ e => by omega)
          have hF := hR4.more0 hB4 (w1 := w4.alloc (.cells #[.int .i64 5, .string T, .string ⟨#[]⟩, .string ⟨#[]⟩, .slice none 0 0, .bool q] 39)) ((Keeps.refl _ _).alloc _) (x := .mk 5 T.data.toList [] [] [] q) rfl
          obtain ⟨xs, hown, hF⟩ := hF
          have e : strV T.data.toList = .string T := strV_of rfl
          simp only [cellsP, Pt.kind, Pt.text, Pt.name, Pt.op, Pt.quoted, e] at hF
          have HF := Lib.hid hF
          have HS4 := Lib.hid hs4
          rw [← HL.out] at hown HF
          rw [HTT.out] at HF
          have HW4 := Lib.hid hw4
          rw [HTT.out, hw4] at hown
          have hb2 := heap_alloc_new ((W3.setCell ⟨cs, 1, none⟩ (.int .i64 ((I : Int) + 1))).alloc (.cells #[.int .i64 5, .string (s.extract i I), .string ⟨#[]⟩, .string ⟨#[]⟩, .slice none 0 0, .bool q] 39)) (.cells #[.int .i64 5, .string (s.extract i I), .string ⟨#[]⟩, .string ⟨#[]⟩, .slice none 0 0, .bool q] 39)
          have hz5 : ((W3.setCell ⟨cs, 1, none⟩ (.int .i64 ((I : Int) + 1))).alloc (.cells #[.int .i64 5, .string (s.extract i I), .string ⟨#[]⟩, .string ⟨#[]⟩, .slice none 0 0, .bool q] 39)).heap.size = W3.heap.size + 1 := by simp [World.setCell]
          rw [hz5] at hb2
          have HB2 := Lib.hid hb2
          clear hF hs4 hk4 hw4 hR4 e hb2 hz5
          go_wp2_with (at_builtin; refine wpList_append_lies _ rfl (.tmp 45) (.tmp 47) _ rfl 0 39 i0 _ 6 88 Try.underlying32 hi0 hz0 hz1 hz2 rfl (by omega) (.slice va L vc) L xs rfl ((hown.alloc _).drew) ⟨W3.heap.size + 1, 0, none⟩ 1 1 [.int .i64 5, .string (s.extract i I), .string ⟨#[]⟩, .string ⟨#[]⟩, .slice none 0 0, .bool q] rfl rfl (World.news_of_block (cs := #[.int .i64 5, .string (s.extract i I), .string ⟨#[]⟩, .string ⟨#[]⟩, .slice none 0 0, .bool q]) (t := 39) (fr := (0, 0)) HB2.out) (by simp [Value.oneCell']) (by omega) (by unfold maxLen; omega) (by omega) (by simp) (W3.heap.size + 1 + 1) (by simp [World.setCell]) ?_; intro gg cap w5 hown2 hgrow hat hlt2)
          go_ret
          obtain rfl := HW4.out
          obtain ⟨hrow, hkeep⟩ := HF.out gg cap w5 _ hown2 (grown_undrew hgrow) (by simpa [World.setCell] using hat)
          have htl := HTL.out
          rw [HTT.out] at htl
          rw [htl] at hrow
          rw [HOK.out]
          exact ⟨_, I + 1, rfl, by omega, rfl, HS4.out.keep hkeep (fun e => by omega), hrow, by rw [wtF_append]; simp only [wtF, Pt.text]; rw [List.length_take, rest_len]; omega, (HK4.out.mono fun _ _ e => .inl e).trans hkeep (fun _ _ e => .inr e)⟩
        · obtain ⟨n, rfl⟩ : ∃ m, n = m + 1 := ⟨n - 1, by omega⟩
          have HN := Lib.hid (show ∀ J, PassTo s I J → SubAt s i n J from fun J hto => by
            have e := hto.2.2.2 (.inr (by rw [HCC.out, t41]))
            subst e
            refine HC.out.to (by omega) ?_
            rw [HRC.out, t41, show I + 1 - I = 1 by omega]; rfl)
          have p3 : (((n + 1 : Nat) : Int) == 0) = false := by rw [beq_eq_false_iff_ne]; omega
          clear t41
          go_wp2_with fail
          refine (over_any cs s I _ _ HSI.out).mono ?_
          rintro e w1 ⟨rfl, q1, rfl⟩
          rw [HE.out]
          go_wp2_with fail
          refine (see0_any cs s I _ _ (HSI.out.drewN _) (by omega) (by omega)).mono ?_
          rintro e w2 ⟨rfl, q2, rfl⟩
          rw [HCC.out]
          obtain ⟨W3, hW3⟩ : ∃ W3, W3 = (wr.drewN q1).drewN q2 := ⟨_, rfl⟩
          rw [← hW3]
          have hs3 : ScanAt W3 cs s I ((0 : Nat) : Int) := by rw [hW3]; exact (HSI.out.drewN _).drewN _
          have HK3 := Lib.hid (show Keeps (fun b => b = cs) w W3 by rw [hW3]; exact (HK.out.drewN _).drewN _)
          clear hW3
          go_wp2_with fail
          refine (rpass_any cs s I _ hs3 hs hlt).mono ?_
          rintro e w4 ⟨rfl, J, hto, hs4, hk4⟩
          have HTO := Lib.hid hto
          have hJ1 := hto.1
          have hJ2 := hto.2.1
          have HS4 := Lib.hid hs4
          have HK4 := Lib.hid (HK3.out.trans hk4 (fun _ _ e => e))
          clear hto hs4 hk4
          go_wp2_with fail
          go_roundg (s.size + 3 - J)
          case measure => have := HGK.out; omega
          case rel => exact ⟨n, J, by go_num, rfl, by omega, hJ2, by omega, HS4.out, HK4, Lib.hid (HN.out J HTO.out)⟩
      have f41 : ((c.toNat : Int) == 41) = false := test_no (c := c) (k := 41) t41
      have HN := Lib.hid (show ∀ J, PassTo s I J → SubAt s i n J from fun J hto => HC.out.to hto.1 (hto.2.2.1 (by rw [HCC.out]; exact G40.out) (by rw [HCC.out]; exact beq_eq_false_iff_ne.2 t41) n))
      clear t41
      go_wp2_with fail
      refine (over_any cs s I _ _ HSI.out).mono ?_
      rintro e w1 ⟨rfl, q1, rfl⟩
      rw [HE.out]
      go_wp2_with fail
      refine (see0_any cs s I _ _ (HSI.out.drewN _) (by omega) (by omega)).mono ?_
      rintro e w2 ⟨rfl, q2, rfl⟩
      rw [HCC.out]
      obtain ⟨W3, hW3⟩ : ∃ W3, W3 = (wr.drewN q1).drewN q2 := ⟨_, rfl⟩
      rw [← hW3]
      have hs3 : ScanAt W3 cs s I ((0 : Nat) : Int) := by rw [hW3]; exact (HSI.out.drewN _).drewN _
      have HK3 := Lib.hid (show Keeps (fun b => b = cs) w W3 by rw [hW3]; exact (HK.out.drewN _).drewN _)
      clear hW3
      go_wp2_with fail
      refine (rpass_any cs s I _ hs3 hs hlt).mono ?_
      rintro e w4 ⟨rfl, J, hto, hs4, hk4⟩
      have HTO := Lib.hid hto
      have hJ1 := hto.1
      have hJ2 := hto.2.1
      have HS4 := Lib.hid hs4
      have HK4 := Lib.hid (HK3.out.trans hk4 (fun _ _ e => e))
      clear hto hs4 hk4
      go_wp2_with fail
      go_roundg (s.size + 3 - J)
      case measure => have := HGK.out; omega
      case rel => exact ⟨n, J, by go_num, rfl, by omega, hJ2, by omega, HS4.out, HK4, Lib.hid (HN.out J HTO.out)⟩
    · have HE := Lib.hid (show decide (s.size ≤ I) = true from decide_eq_true hge)
      have hx : res = .error 2 := by
        rw [HRES.out]
        unfold subRes
        rw [HC.out.over hge]
      have HX := Lib.hid hx
      clear hx
      go_wp2_with fail
      refine (over_any cs s I _ _ HSI.out).mono ?_
      rintro e w1 ⟨rfl, q1, rfl⟩
      rw [HE.out]
      go_wp2_with fail
      refine (rfail_any cs s I 0 2 _ (HSI.out.drewN _)).mono ?_
      rintro e w2 ⟨rfl, hs2, hk2⟩
      have HS2 := Lib.hid hs2
      have HK2 := Lib.hid ((HK.out.drewN q1).trans hk2 (fun _ _ e => e))
      clear hs2 hk2
      go_wp2_with fail
      go_ret
      rw [HX.out]
      exact ⟨by decide, _, I, raw, rfl, by omega, HS2.out, by rw [HL.out]; rw [HL.out] at HR; exact HR.out.keep HK2.out (fun _ _ e => by omega), by omega, HK2.out.mono fun _ _ e => .inl e⟩
end Go.Proofs.Ytnndnldpbdhkgaa
