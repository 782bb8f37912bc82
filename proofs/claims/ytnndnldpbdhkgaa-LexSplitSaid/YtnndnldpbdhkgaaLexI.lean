/-
  What is left is shorter; double quotes.
-/
import Derived.Test.YtnndnldpbdhkgaaLexH
namespace Go.Proofs.Ytnndnldpbdhkgaa
open Go.RowKit
set_option linter.unusedVariables false

/-- How many bytes one thing takes at least. -/
def Md.least : Md → Nat | .one _ => 1 | _ => 0
theorem lexD_dq (n d : Nat) (r : List UInt8) : lexD (n + 1) .dq d r = match r with
    | [] => .error 2
    | c :: t => if c == 34 then .ok ([], t) else match lexD n (.one true) d r with
      | .error e => .error e
      | .ok (l, r1) => (lexD n .dq d r1).ahead l := by cases r <;> rfl
theorem lexD_br (n d : Nat) (q : Bool) (r : List UInt8) : lexD (n + 1) (.br q) d r = match r with
    | [] => .error 2
    | c :: t => if c == 125 then .ok ([], t) else match lexD n (.one q) d r with
      | .error e => .error e
      | .ok (l, r1) => (lexD n (.br q) d r1).ahead l := by cases r <;> rfl
theorem lexD_dol (n d : Nat) (q : Bool) (r : List UInt8) : lexD (n + 1) (.dol q) d r =
    if headIs 123 r then lexD n (.brace q) d r.tail
    else if startsF [40, 40] r then (match calcF 0 (r.drop 2) with
      | none => .error 2
      | some k => .ok ([.mk 4 ((r.drop 2).take k) [] [] [] q], (r.drop 2).drop (k + 2)))
    else if headIs 40 r then (match subF .n 0 r.tail with
      | none => .error 2
      | some k => .ok ([.mk 5 (r.tail.take k) [] [] [] q], r.tail.drop (k + 1)))
    else if nameF false r = 0 then .ok ([if q then quoP [36] else txtP [36]], r)
    else .ok ([.mk 3 [] (r.take (nameF false r)) [] [] q], r.drop (nameF false r)) := rfl
theorem lexD_brace (n d : Nat) (q : Bool) (r : List UInt8) : lexD (n + 1) (.brace q) d r =
    if nameF true (if longB r then r.tail else r) = 0 then .error 2
    else if headIs 125 ((if longB r then r.tail else r).drop (nameF true (if longB r then r.tail else r))) then .ok ([.mk 3 [] ((if longB r then r.tail else r).take (nameF true (if longB r then r.tail else r))) (if longB r then [76] else []) [] q], ((if longB r then r.tail else r).drop (nameF true (if longB r then r.tail else r))).tail)
    else if (opF ((if longB r then r.tail else r).drop (nameF true (if longB r then r.tail else r)))).isEmpty || longB r then .error 2
    else if d = 40 then .error 3
    else match lexD n (.br q) (d + 1) (((if longB r then r.tail else r).drop (nameF true (if longB r then r.tail else r))).drop (opF ((if longB r then r.tail else r).drop (nameF true (if longB r then r.tail else r)))).length) with
      | .error e => .error e
      | .ok (l, r3) => .ok ([.mk 3 [] ((if longB r then r.tail else r).take (nameF true (if longB r then r.tail else r))) (opF ((if longB r then r.tail else r).drop (nameF true (if longB r then r.tail else r)))) (tidyF l) q], r3) := rfl

theorem ahead_ok {l m : List Pt} {r : List UInt8} {R : Res} (h : R.ahead l = .ok (m, r)) : ∃ m', R = .ok (m', r) ∧ m = l ++ m' := by
  cases R with
  | error e => cases h
  | ok x =>
    obtain ⟨a, b⟩ := x
    simp only [Res.ahead, Except.ok.injEq, Prod.mk.injEq] at h
    exact ⟨a, by rw [h.2], h.1.symm⟩

theorem lexD_len : ∀ (n : Nat) (md : Md) (d : Nat) (r : List UInt8) (l : List Pt) (r1 : List UInt8), lexD n md d r = .ok (l, r1) → r1.length ≤ r.length - md.least := by
  intro n
  induction n with
  | zero => intro md d r l r1 h; cases md <;> cases h
  | succ n ih =>
    intro md d r l r1 h
    cases md with
    | one q =>
      cases r with
      | nil => cases q <;> (cases h; exact Nat.zero_le _)
      | cons c t =>
        show r1.length ≤ t.length + 1 - 1
        have htl : t.tail.length ≤ t.length := by rw [List.length_tail]; omega
        cases q with
        | false =>
          rw [lexD_out] at h
          split at h
          · split at h
            · cases h
            · cases h; rw [List.length_drop]; omega
          split at h
          · obtain ⟨m', h', _⟩ := ahead_ok h
            exact ih _ _ _ _ _ h'
          split at h
          · split at h
            · cases h; exact Nat.zero_le _
            · split at h <;> (cases h; simp only [List.length_cons]; omega)
          split at h
          · cases h
          split at h
          · exact ih _ _ _ _ _ h
          · cases h; omega
        | true =>
          rw [lexD_inn] at h
          split at h
          · cases h
          split at h
          · cases h; omega
          split at h
          · cases h; omega
          split at h
          · exact ih _ _ _ _ _ h
          · cases h; omega
    | dq =>
      rw [lexD_dq] at h
      cases r with
      | nil => cases h
      | cons c t =>
        simp only at h
        split at h
        · cases h; exact Nat.le_succ _
        split at h
        · cases h
        · next l' r' h1 =>
          obtain ⟨m', h', _⟩ := ahead_ok h
          have e1 := ih _ _ _ _ _ h1
          have e2 := ih _ _ _ _ _ h'
          simp only [Md.least] at e1 e2 ⊢
          omega
    | br q =>
      rw [lexD_br] at h
      cases r with
      | nil => cases h
      | cons c t =>
        simp only at h
        split at h
        · cases h; exact Nat.le_succ _
        split at h
        · cases h
        · next l' r' h1 =>
          obtain ⟨m', h', _⟩ := ahead_ok h
          have e1 := ih _ _ _ _ _ h1
          have e2 := ih _ _ _ _ _ h'
          simp only [Md.least] at e1 e2 ⊢
          omega
    | dol q =>
      rw [lexD_dol] at h
      show r1.length ≤ r.length
      have htl : r.tail.length ≤ r.length := by rw [List.length_tail]; omega
      split at h
      · have := ih _ _ _ _ _ h
        simp only [Md.least] at this
        omega
      split at h
      · split at h
        · cases h
        · cases h; simp only [List.length_drop]; omega
      split at h
      · split at h
        · cases h
        · cases h; simp only [List.length_drop]; omega
      split at h
      · cases h; omega
      · cases h; simp only [List.length_drop]; omega
    | brace q =>
      rw [lexD_brace] at h
      show r1.length ≤ r.length
      have h0 : (if longB r then r.tail else r).length ≤ r.length := by
        split
        · rw [List.length_tail]; omega
        · exact Nat.le_refl _
      revert h h0
      generalize (if longB r then r.tail else r) = r'
      intro h h0
      split at h
      · cases h
      split at h
      · cases h; simp only [List.length_tail, List.length_drop]; omega
      split at h
      · cases h
      split at h
      · cases h
      split at h
      · cases h
      · next l' r3 h1 =>
        cases h
        have := ih _ _ _ _ _ h1
        simp only [Md.least, List.length_drop] at this
        omega

/-- What the words within double quotes are, as far as they are read. -/
def DqAt (n d : Nat) (r0 : List UInt8) (m : Nat) (l : List Pt) (r : List UInt8) : Prop := lexD n .dq d r0 = (lexD m .dq d r).ahead l
theorem ahead_ahead (a b : List Pt) (R : Res) : (R.ahead b).ahead a = R.ahead (a ++ b) := by
  cases R with
  | error e => rfl
  | ok x => obtain ⟨m, r⟩ := x; show Except.ok _ = Except.ok _; rw [List.append_assoc]
theorem ahead_nil (R : Res) : R.ahead [] = R := by
  cases R with
  | error e => rfl
  | ok x => rfl

/-- Things behind things. -/
theorem thing_more {w w1 w2 : World} {B cs wb : Nat} {s : ByteArray} {d : Nat} {g g1 : Option Nat} {N N1 : List Pt × Bool} {res : Res} {e : Ending} {l : List Pt} (h : ThingPost w1 B cs wb s d g1 N1 res e w2) (hN : l.foldl stepN N = N1) (hn : Newer w g g1) (hk : Keeps (Fp cs wb g) w w1) : ThingPost w B cs wb s d g N (res.ahead l) e w2 := by
  cases res with
  | error x => exact ⟨h.1, hk.next hn h.2⟩
  | ok lr =>
    obtain ⟨m, r⟩ := lr
    obtain ⟨he, i', g', a1, a2, a3, a4, a5, a6⟩ := h
    refine ⟨he, i', g', a1, a2, a3, ?_, hn.trans hk.size a5, hk.next hn a6⟩
    rw [List.foldl_append, hN]
    exact a4

set_option maxRecDepth 100000 in
set_option maxHeartbeats 4000000 in
theorem dq_step (n : Nat) (IH : ∀ m, m < n → Does m) (B cs wb : Nat) (s : ByteArray) (i d m : Nat) (g : Option Nat) (N : List Pt × Bool) (w : World) (hsc : ScanAt w cs s i d) (hi : i ≤ s.size) (hd : d ≤ 40) (hs : s.size ≤ 20000) (hb : Bag w B cs wb g N m) (hm : m + 1 ≤ 2 * i) (hn : 2 * (s.size - i) + 1 ≤ n) :
    Calls Try.prog 54 #[.pointer (some ⟨cs, 0, none⟩), .pointer (some ⟨wb, 0, none⟩)] w (ThingPost w B cs wb s d g N ((lexD n .dq d (rest s i)).ahead [quoP []])) := by
  have HD := Lib.hid IH
  have HB := Lib.hid hb
  have HSC := Lib.hid hsc
  have hle := hb.le
  obtain ⟨res, hres⟩ : ∃ res, res = (lexD n .dq d (rest s i)).ahead [quoP []] := ⟨_, rfl⟩
  rw [← hres]
  have HRES := Lib.hid hres
  clear hsc hb IH hres
  go_enter Try.func54, Try.ntmps54
  go_wp2_with fail
  refine (put2_any B cs wb g N m ⟨#[]⟩ _ HB.out (by omega) (HSC.out.lt)).mono ?_
  intro e w1 hp
  obtain ⟨he, g1, hs1, hb1, hn1, hk1⟩ := put_then (d := d) (i := i) hp HSC.out HB.out (Keeps.refl _ _)
  subst he
  have HS1 := Lib.hid hs1
  have HB1 := Lib.hid hb1
  have HN1 := Lib.hid hn1
  have HK1 := Lib.hid hk1
  clear hs1 hb1 hn1 hk1 hp
  go_wp2_with fail
  go_loopg [] (s.size + 2 - i) (fun k wr => ∃ (I M : Nat) (l : List Pt) (g' : Option Nat), k = s.size + 2 - I ∧ I ≤ s.size ∧ ScanAt wr cs s I d ∧ Bag wr B cs wb g' ((quoP [] :: l).foldl stepN N) (2 * I) ∧ Newer w g g' ∧ Keeps (Fp cs wb g) w wr ∧ M ≤ n ∧ 2 * (s.size - I) + 1 ≤ M ∧ DqAt n d (rest s i) M l (rest s I))
  case atStart => exact ⟨i, n, [], g1, rfl, hi, HS1.out, HB1.out.mono (by show m + 0 + 1 ≤ _; omega), HN1.out, HK1.out, Nat.le_refl _, hn, (ahead_nil _).symm⟩
  case round =>
    obtain ⟨I, M, l, g', hgk, hI, hsc, hbg, hnw, hkp, hM, hMn, hat⟩ := hrel
    have HGK := Lib.hid hgk
    have HSI := Lib.hid hsc
    have HBI := Lib.hid hbg
    have HNI := Lib.hid hnw
    have HKI := Lib.hid hkp
    obtain ⟨M, rfl⟩ : ∃ M', M = M' + 1 := ⟨M - 1, by omega⟩
    have hr : res = (lexD (M + 1) .dq d (rest s I)).ahead (quoP [] :: l) := by
      rw [HRES.out, show lexD n .dq d (rest s i) = _ from hat, ahead_ahead]; rfl
    have HAT := Lib.hid (show lexD n .dq d (rest s i) = _ from hat)
    clear hgk hsc hbg hnw hkp hat HS1 HB1 HN1 HK1
    rcases Nat.lt_or_ge I s.size with hlt | hge
    · obtain ⟨c, hc⟩ : ∃ c, c = byteAt s I := ⟨_, rfl⟩
      rw [lexD_dq, rest_cons hlt, ← hc] at hr
      dsimp only at hr
      by_cases t : c = 34
      · rw [if_pos (beq_iff_eq.2 t)] at hr
        have hh : headIs 34 (rest s I) = true := by rw [rest_cons hlt, ← hc, t]; rfl
        have HH := Lib.hid hh
        have HR := Lib.hid hr
        clear hr hh t hc
        go_wp2_with fail
        refine (is_yes cs s ⟨#[34]⟩ I d _ HSI.out (by omega) hI (by decide) (by rw [hasPrefix_starts, starts_one]; exact HH.out)).mono ?_
        rintro e w2 ⟨rfl, hs2, hk2⟩
        have HS2 := Lib.hid hs2
        have HB2 := Lib.hid (HBI.out.keep hk2 (fun _ _ e => e))
        have HK2 := Lib.hid hk2
        clear hs2 hk2
        go_wp2_with fail
        go_end0
        rw [HR.out]
        exact thing_more (thing_none (i := I + 1) HS2.out HB2.out HK2.out hlt rfl (by omega)) rfl HNI.out HKI.out
      · rw [if_neg (fun h => t (beq_iff_eq.1 h)), hc, ← rest_cons hlt] at hr
        have hh : headIs 34 (rest s I) = false := by
          rw [rest_cons hlt, ← hc]
          exact beq_eq_false_iff_ne.2 t
        have h34 : byteAt s I ≠ 34 := by rw [← hc]; exact t
        have he : decide (s.size ≤ I) = false := decide_eq_false (by omega)
        have HE := Lib.hid he
        have HH := Lib.hid hh
        have HR := Lib.hid hr
        have H34 := Lib.hid h34
        clear hr hh t hc he h34
        go_wp2_with fail
        refine (is_no cs s ⟨#[34]⟩ I d _ HSI.out hI (by rw [hasPrefix_starts, starts_one]; exact HH.out)).mono ?_
        rintro e w2 ⟨rfl, q2, rfl⟩
        go_wp2_with fail
        refine (end_any cs s I d _ (HSI.out.drewN _)).mono ?_
        rintro e w2 ⟨rfl, q3, rfl⟩
        rw [HE.out]
        go_wp2_with fail
        have hkk : Keeps (fun b => b = cs) wr (wr.drewN (q2 + q3)) := (Keeps.refl _ _).drewN _
        refine ((HD.out M (by omega)).inn B cs wb s I d g' _ _ (HSI.out.drewN (q2 + q3)) hlt H34.out hd hs (HBI.out.keep hkk (fun _ _ e => e)) (by omega)).mono ?_
        intro e w3 hp
        have hfin := thing_from hp hkk
        cases hres2 : lexD M (.one true) d (rest s I) with
        | error x =>
          rw [hres2] at hp hfin
          have hr2 := HR.out
          rw [hres2] at hr2
          have HR2 := Lib.hid hr2
          have he := hp.1
          subst he
          have HF := Lib.hid hfin
          clear hp hfin hres2 hr2 hkk
          go_wp2_with fail
          refine ⟨rfl, ?_⟩
          rw [HR2.out]
          exact thing_more HF.out rfl HNI.out HKI.out
        | ok lr =>
          obtain ⟨l2, r2⟩ := lr
          rw [hres2] at hp hfin
          have hr2 := HR.out
          rw [hres2] at hr2
          dsimp only at hr2
          have hlen := lexD_len _ _ _ _ _ _ hres2
          have hat2 := HAT.out
          rw [lexD_dq, rest_cons hlt] at hat2
          dsimp only at hat2
          rw [if_neg (fun h => H34.out (beq_iff_eq.1 h)), ← rest_cons hlt, hres2] at hat2
          dsimp only at hat2
          rw [ahead_ahead] at hat2
          have he := hp.1
          subst he
          obtain ⟨_, I2, g2, a1, a2, a3, a4, a5, a6⟩ := hfin
          rw [← a2, rest_len, rest_len] at hlen
          rw [← a2] at hat2
          have HAT2 := Lib.hid hat2
          rw [ahead_ahead, ← a2] at hr2
          have HS3 := Lib.hid a3
          have HB3 := Lib.hid a4
          have HN3 := Lib.hid a5
          have HK3 := Lib.hid a6
          have HR3 := Lib.hid hr2
          have hlen2 : I + 1 ≤ I2 := by simp only [Md.least] at hlen; omega
          clear hp hres2 hr2 hkk hat2 a2 a3 a4 a5 a6 hlen
          go_wp2_with fail
          go_roundg (s.size + 2 - I2)
          case measure => have := HGK.out; omega
          case rel => exact ⟨I2, M, l ++ l2, g2, rfl, a1, HS3.out, by rw [← List.cons_append, List.foldl_append]; exact HB3.out, HNI.out.trans HKI.out.size HN3.out, HKI.out.next HNI.out HK3.out, by omega, by omega, HAT2.out⟩
    · rw [lexD_dq, rest_nil hge] at hr
      dsimp only at hr
      have hh : headIs 34 (rest s I) = false := by rw [rest_nil hge]; rfl
      have he : decide (s.size ≤ I) = true := decide_eq_true hge
      have HE := Lib.hid he
      have HH := Lib.hid hh
      have HR := Lib.hid hr
      clear hh he hr
      go_wp2_with fail
      refine (is_no cs s ⟨#[34]⟩ I d _ HSI.out hI (by rw [hasPrefix_starts, starts_one]; exact HH.out)).mono ?_
      rintro e w2 ⟨rfl, q2, rfl⟩
      go_wp2_with fail
      refine (end_any cs s I d _ (HSI.out.drewN _)).mono ?_
      rintro e w2 ⟨rfl, q3, rfl⟩
      rw [HE.out]
      go_wp2_with fail
      refine (fail_any 2 _).mono ?_
      rintro e w2 ⟨rfl, rfl⟩
      go_wp2_with fail
      refine ⟨rfl, ?_⟩
      rw [HR.out]
      exact ⟨rfl, HKI.out.drewN _⟩
end Go.Proofs.Ytnndnldpbdhkgaa
