/-
  One token.
-/
import Derived.Test.YtnndnldpbdhkgaaLexAB
namespace Go.Proofs.Ytnndnldpbdhkgaa
open Go.RowKit
set_option linter.unusedVariables false

def tokOne (r : List UInt8) : Except Nat (Tk × List UInt8) :=
  if (operF r).isEmpty then
    if headIs 38 r then .error 2 else match wordD false (r.length + 1) r with
    | .error e => .error e
    | .ok (l, r1) => .ok (⟨1, [], tidyF l⟩, r1)
  else .ok (⟨2, operF r, []⟩, r.drop (operF r).length)
theorem tokD_eq (n : Nat) (r : List UInt8) : tokD (n + 1) r = match skipF false r with
    | [] => .ok []
    | c :: t =>
      if (operF (c :: t)).isEmpty then
        if c == 38 then .error 2 else match wordD false ((c :: t).length + 1) (c :: t) with
        | .error e => .error e
        | .ok (l, r1) => consT ⟨1, [], tidyF l⟩ (tokD n r1)
      else consT ⟨2, operF (c :: t), []⟩ (tokD n ((c :: t).drop (operF (c :: t)).length)) := rfl
theorem tokD_succ (n : Nat) (r : List UInt8) : tokD (n + 1) r = match skipF false r with
    | [] => .ok []
    | c :: t => match tokOne (c :: t) with
      | .error e => .error e
      | .ok (x, r1) => consT x (tokD n r1) := by
  rw [tokD_eq]
  cases skipF false r with
  | nil => rfl
  | cons c t =>
    dsimp only
    unfold tokOne
    by_cases h : (operF (c :: t)).isEmpty = true
    · rw [if_pos h, if_pos h]
      by_cases h2 : (c == 38) = true
      · rw [if_pos h2, if_pos (show headIs 38 (c :: t) = true from h2)]
      · rw [if_neg h2, if_neg (show ¬ headIs 38 (c :: t) = true from h2)]
        cases wordD false ((c :: t).length + 1) (c :: t) with
        | error e => rfl
        | ok lr => obtain ⟨l, r1⟩ := lr; rfl
    · rw [if_neg h, if_neg h]
theorem breaks_amid (c : UInt8) : amid ⟨#[32, 9, 10, 59, 38, 124, 40, 41, 60, 62]⟩ c = breaksB c := by
  have h : ∀ n : Fin 256, amid ⟨#[32, 9, 10, 59, 38, 124, 40, 41, 60, 62]⟩ (UInt8.ofNat n.val) = breaksB (UInt8.ofNat n.val) := by decide +kernel
  have := h ⟨c.toNat, c.toNat_lt⟩
  simpa using this
theorem operF_le (l : List UInt8) : (operF l).length ≤ l.length := findF_le _ l

theorem RecAt.three {w : World} {b : Nat} {a0 a1 a2 : Value} (h : RecAt w b [a0, a1, a2]) :
    (w.cell? ⟨b, 0, none⟩ = some a0 ∧ w.cell? ⟨b, 1, none⟩ = some a1 ∧ w.cell? ⟨b, 2, none⟩ = some a2) ∧
    (w.frozen? ⟨b, 0, none⟩ = false ∧ w.frozen? ⟨b, 1, none⟩ = false ∧ w.frozen? ⟨b, 2, none⟩ = false) := by
  obtain ⟨T, h⟩ := h
  refine ⟨⟨?_, ?_, ?_⟩, ?_, ?_, ?_⟩ <;> simp [World.cell?, World.frozen?, h]
theorem set3_keeps (w : World) (b : Nat) (u0 u1 u2 : Value) : Keeps (fun x => x = b) w (((w.setCell ⟨b, 0, none⟩ u0).setCell ⟨b, 1, none⟩ u1).setCell ⟨b, 2, none⟩ u2) := by
  have h0 := (Keeps.refl (fun x => x = b) w).set1 0 u0 rfl
  have h1 := h0.set1 1 u1 rfl
  exact h1.set1 2 u2 rfl
/-- What token leaves. -/
def TokPost (w : World) (cs : Nat) (s : ByteArray) (res : Except Nat (Tk × List UInt8)) (e : Ending) (w' : World) : Prop :=
  match res with
  | .ok (tk, r) => ∃ (i' n : Nat) (T : ByteArray) (v : Value), e = .returned (.agg #[.int .i64 (tk.kind : Nat), .string T, v]) ∧ T.data.toList = tk.text ∧ i' ≤ s.size ∧ rest s i' = r ∧ ScanAt w' cs s i' ((0 : Nat) : Int) ∧ PtsAt w' (fun b => w.heap.size ≤ b) n tk.word v ∧ Keeps (fun b => b = cs) w w'
  | .error x => e = failed x ∧ Keeps (fun b => b = cs) w w'

theorem wordD_succ (wh : Bool) (n : Nat) (r : List UInt8) : wordD wh (n + 1) r = match r with
    | [] => .ok ([], [])
    | c :: _ => if !wh && breaksB c then .ok ([], r) else match lexD (2 * r.length + 2) (.one false) 0 r with
      | .error e => .error e
      | .ok (l, r1) => (wordD wh n r1).ahead l := by cases r <;> rfl
def WdAt (wh : Bool) (n : Nat) (r0 : List UInt8) (m : Nat) (l : List Pt) (r : List UInt8) : Prop := wordD wh n r0 = (wordD wh m r).ahead l

set_option maxRecDepth 100000 in
set_option maxHeartbeats 4000000 in
theorem token_any (cs : Nat) (s : ByteArray) (i : Nat) (w : World) (hsc : ScanAt w cs s i ((0 : Nat) : Int)) (hi : i < s.size) (hs : s.size ≤ 20000) :
    Calls Try.prog 28 #[.pointer (some ⟨cs, 0, none⟩)] w (TokPost w cs s (tokOne (rest s i))) := by
  obtain ⟨res, hres⟩ : ∃ res, res = tokOne (rest s i) := ⟨_, rfl⟩
  rw [← hres]
  unfold tokOne at hres
  have HSC := Lib.hid hsc
  have hlt0 := hsc.lt
  have HRES := Lib.hid hres
  clear hsc hres
  go_enter Try.func28, Try.ntmps28
  go_wp2_with fail
  obtain ⟨w0, hw0⟩ : ∃ w0, w0 = w.alloc (.cells #[.int .i64 0, .string ⟨#[]⟩, .slice none 0 0] 34) := ⟨_, rfl⟩
  rw [← hw0]
  have hk0 : Keeps (fun b => b = cs) w w0 := by rw [hw0]; exact (Keeps.refl _ _).alloc _
  have hs0 : ScanAt w0 cs s i ((0 : Nat) : Int) := by rw [hw0]; exact HSC.out.alloc _
  have ht0 : RecAt w0 w.heap.size [.int .i64 0, .string ⟨#[]⟩, .slice none 0 0] := by rw [hw0]; exact ⟨_, heap_alloc_new w _⟩
  refine (operator_any cs s i ((0 : Nat) : Int) _ hs0 (by omega) (by omega)).mono ?_
  rintro e w1 ⟨O, rfl, hO, hs1, hk1⟩
  have HT1 := Lib.hid (ht0.keep hk1 (fun h => by omega))
  have HK1 := Lib.hid (hk0.trans hk1 (fun _ _ e => e))
  have HS1 := Lib.hid hs1
  have HO := Lib.hid hO
  clear hw0 hk0 hs0 ht0 hO hs1 hk1
  by_cases ho : operF (rest s i) = []
--W--
  · obtain ⟨t1, t2⟩ := ba_empty (s := O) (HO.out.trans ho)
    have hr := HRES.out
    rw [ho, if_pos (by rfl)] at hr
    have hs1 := HS1.out
    rw [ho] at hs1
    have HSA := Lib.hid (show ScanAt w1 cs s i ((0 : Nat) : Int) from hs1)
    have HHL0 := Lib.hid HT1.out.lt
    clear ho hs1
    rw [rest_cons hi] at hr
    obtain ⟨c, hc⟩ : ∃ c, c = byteAt s i := ⟨_, rfl⟩
    rw [← hc] at hr
    by_cases t : c = 38
    · rw [if_pos (show headIs 38 (c :: rest s (i + 1)) = true by rw [t]; rfl)] at hr
      have e1 : ((c.toNat : Int) == 38) = true := test_yes (c := c) (k := 38) t
      have HR := Lib.hid hr
      have HC := Lib.hid hc
      clear hr hc t
      go_wp2_with fail
      refine (at0_any cs s i _ _ HSA.out (by omega) (by omega)).mono ?_
      rintro e w2 ⟨rfl, q1, rfl⟩
      rw [← HC.out]
      go_wp2_with fail
      refine (fail_any 2 _).mono ?_
      rintro e w2 ⟨rfl, rfl⟩
      go_wp2_with fail
      refine ⟨rfl, ?_⟩
      rw [HR.out]
      exact ⟨rfl, HK1.out.drewN _⟩
    · rw [if_neg (show ¬ headIs 38 (c :: rest s (i + 1)) = true from fun h => t (beq_iff_eq.1 h)), hc, ← rest_cons hi, rest_len] at hr
      have e1 : ((c.toNat : Int) == 38) = false := test_no (c := c) (k := 38) t
      have HR := Lib.hid hr
      have HC := Lib.hid hc
      clear hr hc t
      go_wp2_with fail
      refine (at0_any cs s i _ _ HSA.out (by omega) (by omega)).mono ?_
      rintro e w2 ⟨rfl, q1, rfl⟩
      rw [← HC.out]
      obtain ⟨W, hW⟩ : ∃ W, W = w1.drewN q1 := ⟨_, rfl⟩
      rw [← hW]
      have hkW : Keeps (fun _ => False) w1 W := by rw [hW]; exact (Keeps.refl _ _).drewN _
      have HSW := Lib.hid (HSA.out.keep hkW (fun h => h))
      have HTW := Lib.hid (HT1.out.keep hkW (fun h => h))
      have HKW := Lib.hid (HK1.out.trans hkW (fun _ _ h => h.elim))
      clear hW hkW HT1 HK1 HSA HS1 HHL0
      go_wp2_with fail
      have hltW := HSW.out.lt
      go_loopg [] (s.size + 2 - i) (fun k wr => ∃ (I M : Nat) (l : List Pt) (g' : Option Nat), k = s.size + 2 - I ∧ I ≤ s.size ∧ ScanAt wr cs s I ((0 : Nat) : Int) ∧ Bag wr W.heap.size cs W.heap.size g' (l.foldl stepN ([], false)) (2 * I) ∧ Newer (W.alloc (.cells #[.slice none 0 0] 68)) none g' ∧ Keeps (Fp cs W.heap.size none) (W.alloc (.cells #[.slice none 0 0] 68)) wr ∧ s.size - I + 1 ≤ M ∧ WdAt false (s.size - i + 1) (rest s i) M l (rest s I))
      case atStart => exact ⟨i, s.size - i + 1, [], none, rfl, by omega, HSW.out.alloc _, (Bag.new _ hltW).mono (Nat.zero_le _), Newer.refl _ _, Keeps.refl _ _, Nat.le_refl _, (ahead_nil _).symm⟩
      case round =>
        obtain ⟨I, M, l, g', hgk, hI, hsc, hbg, hnw, hkp, hMn, hat⟩ := hrel
        have HGK := Lib.hid hgk
        have HSI := Lib.hid hsc
        have HBI := Lib.hid hbg
        have HNI := Lib.hid hnw
        have HKI := Lib.hid hkp
        obtain ⟨M, rfl⟩ : ∃ M', M = M' + 1 := ⟨M - 1, by omega⟩
        have hat' : wordD false (s.size - i + 1) (rest s i) = (wordD false (M + 1) (rest s I)).ahead l := hat
        have hr : res = match (wordD false (M + 1) (rest s I)).ahead l with
            | .error e => .error e
            | .ok (l, r1) => .ok (⟨1, [], tidyF l⟩, r1) := by rw [HR.out, hat']
        have HAT := Lib.hid hat'
        clear hgk hsc hbg hnw hkp hat hat'
        rcases Nat.lt_or_ge I s.size with hlt | hge
        · obtain ⟨c2, hc2⟩ : ∃ c, c = byteAt s I := ⟨_, rfl⟩
          have he : decide (s.size ≤ I) = false := decide_eq_false (by omega)
          have HE := Lib.hid he
          rw [wordD_succ, rest_cons hlt, ← hc2] at hr
          dsimp only at hr
          have HC2 := Lib.hid hc2
          clear he
          cases hb : breaksB c2 with
          | true =>
            rw [hb, if_pos (by rfl), hc2, ← rest_cons hlt] at hr
            have HBR := Lib.hid hb
            have HRX := Lib.hid (show res = .ok (⟨1, [], tidyOf (l.foldl stepN ([], false))⟩, rest s I) by rw [hr]; show (Except.ok ((⟨1, [], tidyF (l ++ [])⟩ : Tk), _) : Except Nat (Tk × List UInt8)) = _; rw [List.append_nil]; rfl)
            clear hr hb hc2
            go_wp2_with fail
            refine (end_any cs s I _ _ HSI.out).mono ?_
            rintro e w2 ⟨rfl, q2, rfl⟩
            rw [HE.out]
            go_wp2_with fail
            refine (among_in cs s _ I _ _ (HSI.out.drewN _) (by omega) hlt true (by rw [breaks_amid, ← HC2.out]; exact HBR.out)).mono ?_
            rintro e w2 ⟨rfl, q3, rfl⟩
            go_wp2_with fail
            have hkd : Keeps (fun b => b = cs) wr (wr.drewN (q2 + q3)) := (Keeps.refl _ _).drewN _
            have HB2 := Lib.hid (HBI.out.keep hkd (fun _ _ e => e))
            have HS2 := Lib.hid (HSI.out.drewN (q2 + q3))
            have HK2 := Lib.hid ((fp_new HKI.out).trans hkd (fun _ _ e => e))
            clear hkd
            refine (parts_any W.heap.size cs W.heap.size g' _ _ _ HB2.out (by omega) HS2.out.lt).mono ?_
            rintro e w3 ⟨v, k, rfl, hp, hk3⟩
            obtain ⟨ax, cx, rfl, _, _⟩ := hp.shape
            obtain ⟨tl, htl⟩ : ∃ tl, tl = (tidyOf (l.foldl stepN ([], false))).length := ⟨_, rfl⟩
            rw [← htl] at hp
            rw [← htl]
            have ht3 := ((HTW.out.keep HK2.out (fun h => by omega))).keep hk3 (fun h => h)
            obtain ⟨⟨c0, c1, c2⟩, f0, f1, f2⟩ := ht3.three
            have HP := Lib.hid hp
            have HK3 := Lib.hid hk3
            have HHL := Lib.hid (show w.heap.size < W.heap.size from HTW.out.lt)
            clear hp hk3 ht3 htl
            go_wp2_with fail
            refine bodyPost_ret (v := .agg #[.int .i64 1, .string ⟨#[]⟩, .slice ax tl cx]) (by simp [results, Try.results28, go_sem, c0, c1, c2]) rfl ?_
            show TokPost w cs s res _ _
            rw [HRX.out]
            have hk4 := set3_keeps w3 w.heap.size (.int .i64 1) (.string ⟨#[]⟩) (.slice ax tl cx)
            have hkk : Keeps (fun b => b = cs) w w3 := (HKW.out.trans HK2.out (fun _ _ e => e)).trans HK3.out (fun _ _ h => h.elim)
            exact ⟨I, k, ⟨#[]⟩, _, rfl, rfl, hI, rfl, (HS2.out.keep HK3.out (fun h => h)).keep hk4 (fun h => by omega), (HP.out.keep hk4 (fun b hb hx e => by have := hx.1; have := HHL.out; omega)).mono (fun b _ h => by have := h.1; have := HHL.out; omega), one_new hkk rfl hk4⟩
          | false =>
            rw [hb, if_neg (by simp), hc2, ← rest_cons hlt, rest_len] at hr
            have HBR := Lib.hid hb
            have HR1 := Lib.hid hr
            clear hr hb hc2
            go_wp2_with fail
            refine (end_any cs s I _ _ HSI.out).mono ?_
            rintro e w2 ⟨rfl, q2, rfl⟩
            rw [HE.out]
            go_wp2_with fail
            refine (among_in cs s _ I _ _ (HSI.out.drewN _) (by omega) hlt false (by rw [breaks_amid, ← HC2.out]; exact HBR.out)).mono ?_
            rintro e w2 ⟨rfl, q3, rfl⟩
            go_wp2_with fail
            have hkd : Keeps (fun b => b = cs) wr (wr.drewN (q2 + q3)) := (Keeps.refl _ _).drewN _
            refine ((does (2 * (s.size - I) + 2)).out W.heap.size cs W.heap.size s I 0 g' _ _ (HSI.out.drewN (q2 + q3)) hlt (by omega) hs (HBI.out.keep hkd (fun _ _ e => e)) (by omega)).mono ?_
            intro e w3 hp
            have hfin := thing_from hp hkd
            clear hkd hp
            cases hres2 : lexD (2 * (s.size - I) + 2) (.one false) 0 (rest s I) with
            | error x =>
              rw [hres2] at hfin
              have hr2 := HR1.out
              rw [hres2] at hr2
              have HRX := Lib.hid (show res = .error x from hr2)
              obtain ⟨he, hk5⟩ := hfin
              subst he
              have HK5 := Lib.hid (HKW.out.trans (fp_new (HKI.out.next HNI.out hk5)) (fun _ _ e => e))
              clear hres2 hr2 hk5
              go_wp2_with fail
              refine ⟨rfl, ?_⟩
              rw [HRX.out]
              exact ⟨rfl, HK5.out⟩
            | ok lr =>
              obtain ⟨l2, r2⟩ := lr
              rw [hres2] at hfin
              have hlen := lexD_len _ _ _ _ _ _ hres2
              have hat2 := HAT.out
              rw [wordD_succ false M, rest_cons hlt, ← HC2.out] at hat2
              try dsimp only at hat2
              rw [HBR.out, if_neg (by simp), HC2.out, ← rest_cons hlt, rest_len, hres2] at hat2
              try dsimp only at hat2
              rw [ahead_ahead] at hat2
              obtain ⟨he, I2, g2, a1, a2, a3, a4, a5, a6⟩ := hfin
              subst he
              rw [← a2, rest_len, rest_len] at hlen
              rw [← a2] at hat2
              have HAT2 := Lib.hid hat2
              have HS3 := Lib.hid a3
              have HB3 := Lib.hid a4
              have HN3 := Lib.hid a5
              have HK3 := Lib.hid a6
              have hlen2 : I + 1 ≤ I2 := by simp only [Md.least] at hlen; omega
              clear hres2 hat2 a2 a3 a4 a5 a6 hlen
              go_wp2_with fail
              go_roundg (s.size + 2 - I2)
              case measure => have := HGK.out; omega
              case rel => exact ⟨I2, M, l ++ l2, g2, rfl, a1, HS3.out, by rw [List.foldl_append]; exact HB3.out, HNI.out.trans HKI.out.size HN3.out, HKI.out.next HNI.out HK3.out, by omega, HAT2.out⟩
        · have he : decide (s.size ≤ I) = true := decide_eq_true hge
          have HE := Lib.hid he
          rw [wordD_succ, rest_nil hge] at hr
          have HRX := Lib.hid (show res = .ok (⟨1, [], tidyOf (l.foldl stepN ([], false))⟩, rest s I) by rw [hr, rest_nil hge]; show (Except.ok ((⟨1, [], tidyF (l ++ [])⟩ : Tk), _) : Except Nat (Tk × List UInt8)) = _; rw [List.append_nil]; rfl)
          clear hr he
          go_wp2_with fail
          refine (end_any cs s I _ _ HSI.out).mono ?_
          rintro e w2 ⟨rfl, q2, rfl⟩
          rw [HE.out]
          go_wp2_with fail
          have hkd : Keeps (fun b => b = cs) wr (wr.drewN q2) := (Keeps.refl _ _).drewN _
          have HB2 := Lib.hid (HBI.out.keep hkd (fun _ _ e => e))
          have HS2 := Lib.hid (HSI.out.drewN q2)
          have HK2 := Lib.hid ((fp_new HKI.out).trans hkd (fun _ _ e => e))
          clear hkd
          refine (parts_any W.heap.size cs W.heap.size g' _ _ _ HB2.out (by omega) HS2.out.lt).mono ?_
          rintro e w3 ⟨v, k, rfl, hp, hk3⟩
          obtain ⟨ax, cx, rfl, _, _⟩ := hp.shape
          obtain ⟨tl, htl⟩ : ∃ tl, tl = (tidyOf (l.foldl stepN ([], false))).length := ⟨_, rfl⟩
          rw [← htl] at hp
          rw [← htl]
          have ht3 := ((HTW.out.keep HK2.out (fun h => by omega))).keep hk3 (fun h => h)
          obtain ⟨⟨c0, c1, c2⟩, f0, f1, f2⟩ := ht3.three
          have HP := Lib.hid hp
          have HK3 := Lib.hid hk3
          have HHL := Lib.hid (show w.heap.size < W.heap.size from HTW.out.lt)
          clear hp hk3 ht3 htl
          go_wp2_with fail
          refine bodyPost_ret (v := .agg #[.int .i64 1, .string ⟨#[]⟩, .slice ax tl cx]) (by simp [results, Try.results28, go_sem, c0, c1, c2]) rfl ?_
          show TokPost w cs s res _ _
          rw [HRX.out]
          have hk4 := set3_keeps w3 w.heap.size (.int .i64 1) (.string ⟨#[]⟩) (.slice ax tl cx)
          have hkk : Keeps (fun b => b = cs) w w3 := (HKW.out.trans HK2.out (fun _ _ e => e)).trans HK3.out (fun _ _ h => h.elim)
          exact ⟨I, k, ⟨#[]⟩, _, rfl, rfl, hI, rfl, (HS2.out.keep HK3.out (fun h => h)).keep hk4 (fun h => by omega), (HP.out.keep hk4 (fun b hb hx e => by have := hx.1; have := HHL.out; omega)).mono (fun b _ h => by have := h.1; have := HHL.out; omega), one_new hkk rfl hk4⟩
--X--
  · obtain ⟨t1, t2⟩ := ba_full (s := O) (by rw [HO.out]; exact ho)
    obtain ⟨⟨c0, c1, c2⟩, f0, f1, f2⟩ := HT1.out.three
    have ho2 : (operF (rest s i)).isEmpty = false := by cases hx : operF (rest s i) with | nil => exact absurd hx ho | cons a b => rfl
    have hr := HRES.out
    rw [ho2, if_neg (by simp), rest_drop] at hr
    have HR := Lib.hid hr
    have hol := operF_le (rest s i)
    rw [rest_len] at hol
    have hle : i + (operF (rest s i)).length ≤ s.size := by omega
    clear ho ho2 hr hol
    go_wp2_with fail
    refine bodyPost_ret (v := .agg #[.int .i64 2, .string O, .slice none 0 0]) (by simp [results, Try.results28, go_sem, c0, c1, c2]) rfl ?_
    show TokPost w cs s res _ _
    rw [HR.out]
    have hk3 := set3_keeps w1 w.heap.size (.int .i64 2) (.string O) (.slice none 0 0)
    exact ⟨i + (operF (rest s i)).length, 0, O, .slice none 0 0, rfl, HO.out, hle, rfl, HS1.out.keep hk3 (fun h => by omega), PtsAt.nil _ _ 0, one_new HK1.out rfl hk3⟩
end Go.Proofs.Ytnndnldpbdhkgaa
