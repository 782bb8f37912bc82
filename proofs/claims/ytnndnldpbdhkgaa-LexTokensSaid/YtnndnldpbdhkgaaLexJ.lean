/-
  A word in braces.
-/
import Derived.Test.YtnndnldpbdhkgaaLexI
namespace Go.Proofs.Ytnndnldpbdhkgaa
open Go.RowKit
set_option linter.unusedVariables false

/-- A word that is new. -/
theorem Bag.new {w : World} {cs : Nat} (T : TypeId) (hcs : cs < w.heap.size) : Bag (w.alloc (.cells #[.slice none 0 0] T)) w.heap.size cs w.heap.size none ([], false) 0 :=
  ⟨.slice none 0 0, [], ⟨T, heap_alloc_new w _⟩, OwnPts.nil _ _, rfl, by simp, by simp, ⟨hcs, Nat.le_refl _⟩, rfl, (fun p hp => by cases hp), Nat.le_refl _⟩
theorem fp_new {w w1 : World} {cs : Nat} {o : Obj} (hk : Keeps (Fp cs w.heap.size none) (w.alloc o) w1) : Keeps (fun b => b = cs) w w1 :=
  (((Keeps.refl _ _).alloc o : Keeps (fun b => b = cs) w (w.alloc o))).trans hk fun x hx h => by
    rcases h with h | h | h
    · exact h
    · omega
    · cases h
def BrAt (n d : Nat) (q : Bool) (r0 : List UInt8) (m : Nat) (l : List Pt) (r : List UInt8) : Prop := lexD n (.br q) d r0 = (lexD m (.br q) d r).ahead l
/-- .. and its parts are told. -/
theorem inner_end {w w1 w2 w3 : World} {cs I n : Nat} {s : ByteArray} {d : Nat} {l : List Pt} {v : Value} {W : Nat → Prop} (hk : Keeps (fun b => b = cs) w w1) (hk2 : Keeps (fun b => b = cs) w1 w2) (hs : ScanAt w2 cs s I d) (hI : I ≤ s.size)
    (hp : PtsAt w3 W n (tidyOf (l.foldl stepN ([], false))) v) (hW : ∀ b, W b → w.heap.size ≤ b) (hk3 : Keeps (fun _ => False) w2 w3) : InnerPost w cs s d (.ok (l, rest s I)) (.returned v) w3 :=
  ⟨I, n, v, rfl, hI, rfl, hs.keep hk3 (fun h => h), hp.mono (fun b _ h => hW b h), (hk.trans hk2 fun _ _ h => h).trans hk3 fun _ _ h => h.elim⟩

set_option maxRecDepth 100000 in
set_option maxHeartbeats 4000000 in
theorem br_step (n : Nat) (IH : ∀ m, m < n → Does m) (q : Bool) (cs : Nat) (s : ByteArray) (i d : Nat) (w : World) (hsc : ScanAt w cs s i d) (hi : i ≤ s.size) (hd : d ≤ 40) (hs : s.size ≤ 20000) (hn : 2 * (s.size - i) + 1 ≤ n) :
    Calls Try.prog 77 #[.pointer (some ⟨cs, 0, none⟩), .bool q] w (InnerPost w cs s d (lexD n (.br q) d (rest s i))) := by
  have HD := Lib.hid IH
  have HSC := Lib.hid hsc
  have hlt0 := hsc.lt
  obtain ⟨res, hres⟩ : ∃ res, res = lexD n (.br q) d (rest s i) := ⟨_, rfl⟩
  rw [← hres]
  have HRES := Lib.hid hres
  clear hsc IH hres
  go_enter Try.func77, Try.ntmps77
  go_wp2_with fail
  obtain ⟨H, hH⟩ : ∃ H, H = w.heap.size := ⟨_, rfl⟩
  have HH0 := Lib.hid hH
  go_loopg [] (s.size + 2 - i) (fun k wr => ∃ (I M : Nat) (l : List Pt) (g' : Option Nat), k = s.size + 2 - I ∧ I ≤ s.size ∧ ScanAt wr cs s I d ∧ Bag wr w.heap.size cs w.heap.size g' (l.foldl stepN ([], false)) (2 * I) ∧ Newer (w.alloc (.cells #[.slice none 0 0] 68)) none g' ∧ Keeps (Fp cs w.heap.size none) (w.alloc (.cells #[.slice none 0 0] 68)) wr ∧ M ≤ n ∧ 2 * (s.size - I) + 1 ≤ M ∧ BrAt n d q (rest s i) M l (rest s I))
  case atStart => exact ⟨i, n, [], none, rfl, hi, HSC.out.alloc _, (Bag.new _ hlt0).mono (Nat.zero_le _), Newer.refl _ _, Keeps.refl _ _, Nat.le_refl _, hn, (ahead_nil _).symm⟩
  case round =>
    obtain ⟨I, M, l, g', hgk, hI, hsc, hbg, hnw, hkp, hM, hMn, hat⟩ := hrel
    have HGK := Lib.hid hgk
    have HSI := Lib.hid hsc
    have HBI := Lib.hid hbg
    have HNI := Lib.hid hnw
    have HKI := Lib.hid hkp
    obtain ⟨M, rfl⟩ : ∃ M', M = M' + 1 := ⟨M - 1, by omega⟩
    have hat' : lexD n (.br q) d (rest s i) = (lexD (M + 1) (.br q) d (rest s I)).ahead l := hat
    have hr : res = (lexD (M + 1) (.br q) d (rest s I)).ahead l := by rw [HRES.out, hat']
    have HAT := Lib.hid hat'
    clear hgk hsc hbg hnw hkp hat hat'
    rcases Nat.lt_or_ge I s.size with hlt | hge
    · obtain ⟨c, hc⟩ : ∃ c, c = byteAt s I := ⟨_, rfl⟩
      rw [lexD_br, rest_cons hlt, ← hc] at hr
      dsimp only at hr
      by_cases t : c = 125
      · rw [if_pos (beq_iff_eq.2 t)] at hr
        have hh : headIs 125 (rest s I) = true := by rw [rest_cons hlt, ← hc, t]; rfl
        have HH := Lib.hid hh
        have HR := Lib.hid hr
        clear hr hh t hc
        go_wp2_with fail
        refine (is_yes cs s ⟨#[125]⟩ I d _ HSI.out (by omega) hI (by decide) (by rw [hasPrefix_starts, starts_one]; exact HH.out)).mono ?_
        rintro e w2 ⟨rfl, hs2, hk2⟩
        have HS2 := Lib.hid hs2
        have HB2 := Lib.hid (HBI.out.keep hk2 (fun _ _ e => e))
        have HK2 := Lib.hid hk2
        clear hs2 hk2
        go_wp2_with fail
        refine (parts_any w.heap.size cs w.heap.size g' _ _ _ HB2.out (by omega) HS2.out.lt).mono ?_
        rintro e w3 ⟨v, k, rfl, hp, hk3⟩
        have HP := Lib.hid hp
        have HK3 := Lib.hid hk3
        clear hp hk3
        go_wp2_with fail
        go_ret
        show InnerPost w cs s d res _ _
        rw [HR.out]
        show InnerPost w cs s d (.ok (l ++ [], rest s (I + 1))) _ _
        rw [List.append_nil]
        exact inner_end (fp_new HKI.out) HK2.out HS2.out (by omega) HP.out (fun b h => h.1) HK3.out
      · rw [if_neg (fun h => t (beq_iff_eq.1 h)), hc, ← rest_cons hlt] at hr
        have hh : headIs 125 (rest s I) = false := by
          rw [rest_cons hlt, ← hc]
          exact beq_eq_false_iff_ne.2 t
        have h125 : byteAt s I ≠ 125 := by rw [← hc]; exact t
        have he : decide (s.size ≤ I) = false := decide_eq_false (by omega)
        have HE := Lib.hid he
        have HH := Lib.hid hh
        have HR := Lib.hid hr
        have H125 := Lib.hid h125
        have HC := Lib.hid hc
        clear hr hh t he h125 hc
        go_wp2_with fail
        refine (is_no cs s ⟨#[125]⟩ I d _ HSI.out hI (by rw [hasPrefix_starts, starts_one]; exact HH.out)).mono ?_
        rintro e w2 ⟨rfl, q2, rfl⟩
        go_wp2_with fail
        refine (end_any cs s I d _ (HSI.out.drewN _)).mono ?_
        rintro e w2 ⟨rfl, q3, rfl⟩
        rw [HE.out]
        cases q with
        | false =>
          go_wp2_with fail
          have hkk : Keeps (fun b => b = cs) wr (wr.drewN (q2 + q3)) := (Keeps.refl _ _).drewN _
          refine ((HD.out M (by omega)).out w.heap.size cs w.heap.size s I d g' _ _ (HSI.out.drewN (q2 + q3)) hlt hd hs (HBI.out.keep hkk (fun _ _ e => e)) (by omega)).mono ?_
          intro e w3 hp
          have hfin := thing_from hp hkk
          clear hkk hp
          cases hres2 : lexD M (.one false) d (rest s I) with
          | error x =>
            rw [hres2] at hfin
            have hr2 := HR.out
            rw [hres2] at hr2
            have HR2 := Lib.hid hr2
            obtain ⟨he, hk5⟩ := hfin
            subst he
            have HK5 := Lib.hid (HKI.out.next HNI.out hk5)
            clear hres2 hr2 hk5
            go_wp2_with fail
            refine ⟨rfl, ?_⟩
            rw [HR2.out]
            exact ⟨rfl, fp_new HK5.out⟩
          | ok lr =>
            obtain ⟨l2, r2⟩ := lr
            rw [hres2] at hfin
            have hlen := lexD_len _ _ _ _ _ _ hres2
            have hat2 := HAT.out
            rw [lexD_br, rest_cons hlt] at hat2
            dsimp only at hat2
            rw [if_neg (fun h => H125.out (beq_iff_eq.1 h)), ← rest_cons hlt, hres2] at hat2
            dsimp only at hat2
            rw [ahead_ahead] at hat2
            obtain ⟨he, I2, g2, a1, a2, a3, a4, a5, a6⟩ := hfin
            subst he
            rw [← a2, rest_len, rest_len] at hlen
            rw [← a2] at hat2
            have HAT2 := Lib.hid hat2
            have HS3 := Lib.hid a3
            have HB3 := Lib.hid a4
            have HN3 := Lib.hid a5
            have HK3 := Lib.hid a6
            have hlen2 : I + 1 ≤ I2 := by simp only [Md.least] at hlen; omega
            clear hres2 hat2 a2 a3 a4 a5 a6 hlen
            go_wp2_with fail
            go_roundg (s.size + 2 - I2)
            case measure => have := HGK.out; omega
            case rel => exact ⟨I2, M, l ++ l2, g2, rfl, a1, HS3.out, by rw [List.foldl_append]; exact HB3.out, HNI.out.trans HKI.out.size HN3.out, HKI.out.next HNI.out HK3.out, by omega, by omega, HAT2.out⟩
        | true =>
          by_cases t : c = 34
          · have e1 : ((c.toNat : Int) == 34) = true := test_yes (c := c) (k := 34) t
            have hr2 := HR.out
            have h1 : lexD M (.one true) d (rest s I) = .error 2 := by
              obtain ⟨M, rfl⟩ : ∃ M', M = M' + 1 := ⟨M - 1, by omega⟩
              rw [rest_cons hlt, ← HC.out, lexD_inn, t]; rfl
            rw [h1] at hr2
            have HR2 := Lib.hid hr2
            clear t h1 hr2
            go_wp2_with fail
            refine (at0_any cs s I d _ (HSI.out.drewN _) (by omega) (by omega)).mono ?_
            rintro e w1 ⟨rfl, q4, rfl⟩
            rw [← HC.out]
            go_wp2_with fail
            refine (fail_any 2 _).mono ?_
            rintro e w2 ⟨rfl, rfl⟩
            go_wp2_with fail
            refine ⟨rfl, ?_⟩
            rw [HR2.out]
            exact ⟨rfl, fp_new (HKI.out.drewN _)⟩
          · have e1 : ((c.toNat : Int) == 34) = false := test_no (c := c) (k := 34) t
            have h34 : byteAt s I ≠ 34 := by rw [← HC.out]; exact t
            have H34 := Lib.hid h34
            clear t h34
            go_wp2_with fail
            refine (at0_any cs s I d _ (HSI.out.drewN _) (by omega) (by omega)).mono ?_
            rintro e w1 ⟨rfl, q4, rfl⟩
            rw [← HC.out]
            go_wp2_with fail
            have hkk : Keeps (fun b => b = cs) wr (wr.drewN (q2 + q3 + q4)) := (Keeps.refl _ _).drewN _
            refine ((HD.out M (by omega)).inn w.heap.size cs w.heap.size s I d g' _ _ (HSI.out.drewN (q2 + q3 + q4)) hlt H34.out hd hs (HBI.out.keep hkk (fun _ _ e => e)) (by omega)).mono ?_
            intro e w3 hp
            have hfin := thing_from hp hkk
            clear hkk hp
            cases hres2 : lexD M (.one true) d (rest s I) with
            | error x =>
              rw [hres2] at hfin
              have hr2 := HR.out
              rw [hres2] at hr2
              have HR2 := Lib.hid hr2
              obtain ⟨he, hk5⟩ := hfin
              subst he
              have HK5 := Lib.hid (HKI.out.next HNI.out hk5)
              clear hres2 hr2 hk5
              go_wp2_with fail
              refine ⟨rfl, ?_⟩
              rw [HR2.out]
              exact ⟨rfl, fp_new HK5.out⟩
            | ok lr =>
              obtain ⟨l2, r2⟩ := lr
              rw [hres2] at hfin
              have hlen := lexD_len _ _ _ _ _ _ hres2
              have hat2 := HAT.out
              rw [lexD_br, rest_cons hlt] at hat2
              dsimp only at hat2
              rw [if_neg (fun h => H125.out (beq_iff_eq.1 h)), ← rest_cons hlt, hres2] at hat2
              dsimp only at hat2
              rw [ahead_ahead] at hat2
              obtain ⟨he, I2, g2, a1, a2, a3, a4, a5, a6⟩ := hfin
              subst he
              rw [← a2, rest_len, rest_len] at hlen
              rw [← a2] at hat2
              have HAT2 := Lib.hid hat2
              have HS3 := Lib.hid a3
              have HB3 := Lib.hid a4
              have HN3 := Lib.hid a5
              have HK3 := Lib.hid a6
              have hlen2 : I + 1 ≤ I2 := by simp only [Md.least] at hlen; omega
              clear hres2 hat2 a2 a3 a4 a5 a6 hlen
              go_wp2_with fail
              go_roundg (s.size + 2 - I2)
              case measure => have := HGK.out; omega
              case rel => exact ⟨I2, M, l ++ l2, g2, rfl, a1, HS3.out, by rw [List.foldl_append]; exact HB3.out, HNI.out.trans HKI.out.size HN3.out, HKI.out.next HNI.out HK3.out, by omega, by omega, HAT2.out⟩
    · rw [lexD_br, rest_nil hge] at hr
      dsimp only at hr
      have hh : headIs 125 (rest s I) = false := by rw [rest_nil hge]; rfl
      have he : decide (s.size ≤ I) = true := decide_eq_true hge
      have HE := Lib.hid he
      have HH := Lib.hid hh
      have HR := Lib.hid hr
      clear hh he hr
      go_wp2_with fail
      refine (is_no cs s ⟨#[125]⟩ I d _ HSI.out hI (by rw [hasPrefix_starts, starts_one]; exact HH.out)).mono ?_
      rintro e w2 ⟨rfl, q2, rfl⟩
      go_wp2_with fail
      refine (end_any cs s I d _ (HSI.out.drewN _)).mono ?_
      rintro e w2 ⟨rfl, q3, rfl⟩
      rw [HE.out]
      go_wp2_with fail
      refine (fail_any 2 _).mono ?_
      rintro e w2 ⟨rfl, rfl⟩
      go_wp2_with fail
      refine ⟨rfl, ?_⟩
      rw [HR.out]
      exact ⟨rfl, fp_new (HKI.out.drewN _)⟩
end Go.Proofs.Ytnndnldpbdhkgaa
