/-
  Which texts are no script; what stands between tokens.
-/
import Derived.Test.YtnndnldpbdhkgaaLexA
namespace Go.Proofs.Ytnndnldpbdhkgaa
open Go.RowKit
set_option linter.unusedVariables false

theorem contains_until (c : UInt8) : ∀ l : List UInt8, l.contains c = (untilF c l).isSome
  | [] => rfl
  | x :: t => by
    show (c == x || t.contains c) = _
    unfold untilF
    rw [contains_until c t]
    by_cases h : x = c
    · rw [if_pos (beq_iff_eq.2 h), h]; simp
    · rw [if_neg (fun e => h (beq_iff_eq.1 e)), show (c == x) = false from beq_eq_false_iff_ne.2 (Ne.symm h), Bool.false_or]
      cases untilF c t <;> rfl

set_option maxHeartbeats 1000000 in
theorem may_any (s : ByteArray) (w : World) (hs : s.size ≤ 140737488351232) :
    Calls Try.prog 23 #[.string s] w fun e w' => e = .returned (.int .i64 (mayF s.data.toList : Nat)) ∧ w' = w := by
  obtain ⟨r, hr⟩ : ∃ r, r = mayF s.data.toList := ⟨_, rfl⟩
  rw [← hr]
  unfold mayF at hr
  rw [← Lib.size_eq, contains_until] at hr
  by_cases h1 : 16384 < s.size
  · rw [if_pos h1] at hr
    have h1' : (16384 : Int) < (s.size : Int) := by omega
    clear h1
    subst hr
    go_enter Try.func23, Try.ntmps23
    go_wp2_with fail
    go_ret
    exact ⟨rfl, rfl⟩
  · rw [if_neg h1] at hr
    have h1' : ¬ (16384 : Int) < (s.size : Int) := by omega
    clear h1
    cases hu : untilF 0 s.data.toList with
    | none =>
      rw [hu] at hr
      have hn := untilF_none hu
      clear hu
      have hr2 : r = 0 := hr
      clear hr
      subst hr2
      go_enter Try.func23, Try.ntmps23
      go_wp2_with (go_at_call 39; refine (Try.strings_IndexByte _ _ _).mono ?_; rintro e w1 ⟨rfl, hw1⟩; subst hw1)
      go_ret
      exact ⟨rfl, rfl⟩
    | some k =>
      rw [hu] at hr
      have hn := (untilF_some hu).1
      clear hu
      have hr2 : r = 2 := hr
      clear hr
      subst hr2
      go_enter Try.func23, Try.ntmps23
      go_wp2_with (go_at_call 39; refine (Try.strings_IndexByte _ _ _).mono ?_; rintro e w1 ⟨rfl, hw1⟩; subst hw1)
      go_ret
      exact ⟨rfl, rfl⟩

theorem blanks_amid (c : UInt8) : amid ⟨#[32, 9]⟩ c = (c == 32 || c == 9) := by
  have h : ∀ n : Fin 256, amid ⟨#[32, 9]⟩ (UInt8.ofNat n.val) = (UInt8.ofNat n.val == 32 || UInt8.ofNat n.val == 9) := by decide +kernel
  have := h ⟨c.toNat, c.toNat_lt⟩
  simpa using this
theorem skipF_true : ∀ l : List UInt8, skipF true l = match untilF 10 l with | none => [] | some k => l.drop k
  | [] => rfl
  | c :: t => by
    unfold skipF untilF
    by_cases h : c = 10
    · rw [if_pos (beq_iff_eq.2 h), if_pos (beq_iff_eq.2 h)]; rfl
    · rw [if_neg (fun e => h (beq_iff_eq.1 e)), if_neg (fun e => h (beq_iff_eq.1 e)), skipF_true t]
      cases untilF 10 t <;> rfl
theorem skipF_cons (c : UInt8) (t : List UInt8) : skipF false (c :: t) = if c == 32 || c == 9 then skipF false t
    else if c == 35 then skipF true t
    else if c == 92 then (match t with
      | [] => c :: t
      | x :: t' => if x == 10 then skipF false t' else c :: t)
    else c :: t := by rw [skipF.eq_def]; rfl
theorem untilF_head {c : UInt8} : ∀ {l : List UInt8} {k : Nat}, untilF c l = some k → l[k]? = some c
  | [], k, h => by cases h
  | x :: t, k, h => by
    unfold untilF at h
    by_cases e : x = c
    · rw [if_pos (beq_iff_eq.2 e)] at h
      obtain rfl : 0 = k := Option.some.inj h
      rw [e]; rfl
    · rw [if_neg (fun h => e (beq_iff_eq.1 h))] at h
      cases h2 : untilF c t with
      | none => rw [h2] at h; cases h
      | some j =>
        rw [h2] at h
        obtain rfl : j + 1 = k := Option.some.inj h
        have := untilF_head h2
        simpa using this
theorem rest_get2 (s : ByteArray) (i k : Nat) : (rest s i)[k]? = s.data.toList[i + k]? := by
  unfold rest; rw [List.getElem?_drop]
theorem skip_line {s : ByteArray} {j : Nat} (h : s.data.toList[j]? = some 10) : rest s j = skipF false (rest s j) := by
  have hj : j < s.size := by rw [Lib.size_eq]; exact (List.getElem?_eq_some_iff.1 h).1
  have hb : byteAt s j = 10 := by unfold byteAt; rw [List.getD_eq_getElem?_getD, h]; rfl
  rw [rest_cons hj, hb, skipF_cons, if_neg (by decide), if_neg (by decide), if_neg (by decide)]
def SkipPost (w : World) (b : Nat) (s : ByteArray) (i : Nat) (d : Int) (e : Ending) (w' : World) : Prop :=
  e = .returned (.tuple #[]) ∧ ∃ j : Nat, i ≤ j ∧ j ≤ s.size ∧ rest s j = skipF false (rest s i) ∧ ScanAt w' b s j d ∧ Keeps (fun k => k = b) w w'

set_option maxRecDepth 100000 in
set_option maxHeartbeats 4000000 in
theorem skip_any (b : Nat) (s : ByteArray) (i : Nat) (d : Int) (w : World) (h : ScanAt w b s i d) (hs : s.size ≤ 140737488351000) (hi : i ≤ s.size) :
    Calls Try.prog 26 #[.pointer (some ⟨b, 0, none⟩)] w (SkipPost w b s i d) := by
  go_enter Try.func26, Try.ntmps26
  go_wp2_with fail
  go_loopg [] (s.size + 2 - i) (fun k wr => ∃ I : Nat, k = s.size + 2 - I ∧ i ≤ I ∧ I ≤ s.size ∧ ScanAt wr b s I d ∧ Keeps (fun k => k = b) w wr ∧ skipF false (rest s I) = skipF false (rest s i))
  case atStart => exact ⟨i, rfl, Nat.le_refl _, hi, h, Keeps.refl _ _, rfl⟩
  case round =>
    obtain ⟨I, hgk, hiI, hI, hsc, hkp, hsk⟩ := hrel
    have HGK := Lib.hid hgk
    have HSC := Lib.hid hsc
    have HKP := Lib.hid hkp
    have HSK := Lib.hid hsk
    clear hgk hsc hkp hsk h
    rcases Nat.lt_or_ge I s.size with hlt | hge
    · obtain ⟨c, hc⟩ : ∃ c, c = byteAt s I := ⟨_, rfl⟩
      have hcons := skipF_cons c (rest s (I + 1))
      rw [hc, ← rest_cons hlt, ← hc] at hcons
      have HC := Lib.hid hc
      clear hc
      cases t1 : (c == 32 || c == 9) with
      | true =>
        rw [t1, if_pos rfl] at hcons
        have HN := Lib.hid (hcons.symm.trans HSK.out)
        have HT := Lib.hid t1
        obtain ⟨c0, c1, c2, f1, f2⟩ := HSC.out.cells
        have w1e : IntKind.i64.wrap ((I : Int) + 1) = (I : Int) + 1 := IntWalk.i64_in _ (by omega)
        clear hcons t1
        go_wp2_with fail
        refine (among_in b s _ I d _ HSC.out (by omega) hlt true (by rw [blanks_amid, ← HC.out]; exact HT.out)).mono ?_
        rintro e w1 ⟨rfl, q1, rfl⟩
        go_wp2_with fail
        obtain ⟨w2, hw2, hs2, hk2⟩ := scan_moved (n := q1) HSC.out ((I : Int) + 1)
        rw [← hw2]
        go_roundg (s.size + 2 - (I + 1))
        case measure => have := HGK.out; omega
        case rel => exact ⟨I + 1, rfl, by omega, by omega, hs2, HKP.out.trans hk2 (fun x _ hx => hx), HN.out⟩
      | false =>
        rw [t1, if_neg (by simp)] at hcons
        have HT := Lib.hid t1
        clear t1
        cases t2 : startsF [92, 10] (rest s I) with
        | true =>
          have hl2 := startsF_le t2
          rw [rest_len] at hl2
          have hl3 : I + 2 ≤ s.size := by simp only [List.length_cons, List.length_nil] at hl2; omega
          have hn : skipF false (rest s (I + 2)) = skipF false (rest s I) := by
            rw [hcons]
            rw [rest_cons hlt, ← HC.out, rest_cons (show I + 1 < s.size by omega)] at t2
            have t3 : (92 == c && (10 == byteAt s (I + 1) && true)) = true := t2
            simp only [Bool.and_eq_true, beq_iff_eq, Bool.and_true] at t3
            obtain ⟨rfl, h10⟩ := t3
            rw [if_neg (by decide), if_pos (by decide), rest_cons (show I + 1 < s.size by omega), ← h10]
            rfl
          have HN := Lib.hid (hn.trans HSK.out)
          have H2 := Lib.hid t2
          clear hcons t2 hn hl2
          go_wp2_with fail
          refine (among_in b s _ I d _ HSC.out (by omega) hlt false (by rw [blanks_amid, ← HC.out]; exact HT.out)).mono ?_
          rintro e w1 ⟨rfl, q1, rfl⟩
          go_wp2_with fail
          refine (is_yes b s ⟨#[92, 10]⟩ I d _ (HSC.out.drewN q1) (by omega) hI (by decide) (by rw [hasPrefix_starts]; exact H2.out)).mono ?_
          rintro e w1 ⟨rfl, hs1, hk1⟩
          have hkd := (HKP.out.drewN q1).trans hk1 (fun x _ hx => hx)
          go_wp2_with fail
          go_roundg (s.size + 2 - (I + 2))
          case measure => have := HGK.out; omega
          case rel => exact ⟨I + 2, rfl, by omega, hl3, hs1, hkd, HN.out⟩
        | false =>
          have H2 := Lib.hid t2
          by_cases t3 : c = 35
          · rw [if_pos (beq_iff_eq.2 t3)] at hcons
            rw [skipF_true] at hcons
            have e3 : ((c.toNat : Int) == 35) = true := test_yes (c := c) (k := 35) t3
            have hu : untilF 10 (rest s I) = (untilF 10 (rest s (I + 1))).map (· + 1) := by
              rw [rest_cons hlt, ← HC.out, t3]; rfl
            clear t2
            cases h10 : untilF 10 (rest s (I + 1)) with
            | none =>
              rw [h10] at hu hcons
              have hn2 := untilF_none hu
              rw [← rest_take] at hn2
              have HN := Lib.hid (show skipF false (rest s s.size) = skipF false (rest s i) by rw [rest_nil (Nat.le_refl _), ← HSK.out, hcons]; rfl)
              have w1e : IntKind.i64.wrap ((s.size : Int) - (I : Int)) = (s.size : Int) - (I : Int) := IntWalk.i64_in _ (by omega)
              have a1 : (I : Int) + ((s.size : Int) - (I : Int)) = (s.size : Int) := by omega
              have w3e : IntKind.i64.wrap (s.size : Int) = (s.size : Int) := IntWalk.i64_in _ (by omega)
              clear hu hcons h10 t3
              go_wp2_with fail
              refine (among_in b s _ I d _ HSC.out (by omega) hlt false (by rw [blanks_amid, ← HC.out]; exact HT.out)).mono ?_
              rintro e w1 ⟨rfl, q1, rfl⟩
              go_wp2_with fail
              refine (is_no b s ⟨#[92, 10]⟩ I d _ (HSC.out.drewN q1) hI (by rw [hasPrefix_starts]; exact H2.out)).mono ?_
              rintro e w1 ⟨rfl, q2, rfl⟩
              go_wp2_with fail
              refine (at0_any b s I d _ (HSC.out.drewN _) (by omega) (by omega)).mono ?_
              rintro e w1 ⟨rfl, q3, rfl⟩
              rw [← HC.out]
              go_wp2_with fail
              obtain ⟨W, hW⟩ : ∃ W, W = wr.drewN (q1 + q2 + q3) := ⟨_, rfl⟩
              rw [← hW]
              have hsW : ScanAt W b s I d := by rw [hW]; exact HSC.out.drewN _
              have HKW := Lib.hid (show Keeps (fun k => k = b) w W by rw [hW]; exact HKP.out.drewN _)
              have HSW := Lib.hid hsW
              obtain ⟨c0, c1, c2, f1, f2⟩ := hsW.cells
              clear hW hsW
              go_quiet ((go_at_call 39; exact Calls.quiet_of_same (Try.strings_IndexByte _ _ _)))
              go_wp2_with fail
              go_quiet (fail)
              go_wp2_with fail
              go_roundg (s.size + 2 - s.size)
              case measure => have := HGK.out; omega
              case rel => exact ⟨s.size, rfl, hi, Nat.le_refl _, scan_end HSW.out _ rfl, HKW.out.trans (keep_end _ _ _ _ _) (fun x _ hx => hx), HN.out⟩
            | some k =>
              rw [h10] at hu hcons
              obtain ⟨hn2, hk⟩ := untilF_some hu
              rw [rest_len] at hk
              have hk' : k + 1 < s.size - I := hk
              clear hk
              have hk := hk'
              rw [← rest_take] at hn2
              have HN := Lib.hid (show skipF false (rest s (I + (k + 1))) = skipF false (rest s i) by
                rw [← HSK.out, hcons]
                dsimp only
                rw [rest_drop, show I + 1 + k = I + (k + 1) by omega]
                have h2 := untilF_head h10
                rw [rest_get2, show I + 1 + k = I + (k + 1) by omega] at h2
                exact (skip_line h2).symm)
              have w1e : IntKind.i64.wrap ((I : Int) + ((k : Int) + 1)) = (I : Int) + ((k : Int) + 1) := IntWalk.i64_in _ (by omega)
              clear hu hcons h10 t3
              go_wp2_with fail
              refine (among_in b s _ I d _ HSC.out (by omega) hlt false (by rw [blanks_amid, ← HC.out]; exact HT.out)).mono ?_
              rintro e w1 ⟨rfl, q1, rfl⟩
              go_wp2_with fail
              refine (is_no b s ⟨#[92, 10]⟩ I d _ (HSC.out.drewN q1) hI (by rw [hasPrefix_starts]; exact H2.out)).mono ?_
              rintro e w1 ⟨rfl, q2, rfl⟩
              go_wp2_with fail
              refine (at0_any b s I d _ (HSC.out.drewN _) (by omega) (by omega)).mono ?_
              rintro e w1 ⟨rfl, q3, rfl⟩
              rw [← HC.out]
              go_wp2_with fail
              obtain ⟨W, hW⟩ : ∃ W, W = wr.drewN (q1 + q2 + q3) := ⟨_, rfl⟩
              rw [← hW]
              have hsW : ScanAt W b s I d := by rw [hW]; exact HSC.out.drewN _
              have HKW := Lib.hid (show Keeps (fun k => k = b) w W by rw [hW]; exact HKP.out.drewN _)
              have HSW := Lib.hid hsW
              obtain ⟨c0, c1, c2, f1, f2⟩ := hsW.cells
              clear hW hsW
              go_quiet ((go_at_call 39; exact Calls.quiet_of_same (Try.strings_IndexByte _ _ _)))
              go_wp2_with fail
              go_roundg (s.size + 2 - (I + (k + 1)))
              case measure => have := HGK.out; omega
              case rel => exact ⟨I + (k + 1), rfl, by omega, by omega, scan_end HSW.out _ (by omega), HKW.out.trans (keep_end _ _ _ _ _) (fun x _ hx => hx), HN.out⟩
          · rw [if_neg (fun h => t3 (beq_iff_eq.1 h))] at hcons
            have e3 : ((c.toNat : Int) == 35) = false := test_no (c := c) (k := 35) t3
            have hfin : rest s I = skipF false (rest s i) := by
              rw [← HSK.out, hcons, rest_cons hlt, ← HC.out]
              rw [rest_cons hlt, ← HC.out] at t2
              split
              · next h92 =>
                have h92' := beq_iff_eq.1 h92
                subst h92'
                cases hr : rest s (I + 1) with
                | nil => rfl
                | cons x t' =>
                  rw [hr] at t2
                  have t4 : (92 == (92 : UInt8) && (10 == x && true)) = false := t2
                  simp only [beq_self_eq_true, Bool.true_and, Bool.and_true] at t4
                  dsimp only
                  rw [if_neg (by rw [beq_iff_eq]; rw [beq_eq_false_iff_ne] at t4; exact fun h => t4 h.symm)]
              · rfl
            have HF := Lib.hid hfin
            clear t2 t3 hcons hfin
            go_wp2_with fail
            refine (among_in b s _ I d _ HSC.out (by omega) hlt false (by rw [blanks_amid, ← HC.out]; exact HT.out)).mono ?_
            rintro e w1 ⟨rfl, q1, rfl⟩
            go_wp2_with fail
            refine (is_no b s ⟨#[92, 10]⟩ I d _ (HSC.out.drewN q1) hI (by rw [hasPrefix_starts]; exact H2.out)).mono ?_
            rintro e w1 ⟨rfl, q2, rfl⟩
            go_wp2_with fail
            refine (at0_any b s I d _ (HSC.out.drewN _) (by omega) (by omega)).mono ?_
            rintro e w1 ⟨rfl, q3, rfl⟩
            rw [← HC.out]
            go_wp2_with fail
            go_end0
            exact ⟨rfl, I, hiI, hI, HF.out, HSC.out.drewN _, HKP.out.drewN _⟩
    · have hfin : rest s I = skipF false (rest s i) := by rw [← HSK.out, rest_nil hge]; rfl
      have HF := Lib.hid hfin
      have hpre : startsF [92, 10] (rest s I) = false := by rw [rest_nil hge]; rfl
      have H2 := Lib.hid hpre
      have hz : byteAt s I = 0 := by rw [byteAt_rest, rest_nil hge]; rfl
      have HZ := Lib.hid hz
      clear hfin hpre hz
      go_wp2_with fail
      refine (among_end b s _ I d _ HSC.out hge).mono ?_
      rintro e w1 ⟨rfl, q1, rfl⟩
      go_wp2_with fail
      refine (is_no b s ⟨#[92, 10]⟩ I d _ (HSC.out.drewN q1) hI (by rw [hasPrefix_starts]; exact H2.out)).mono ?_
      rintro e w1 ⟨rfl, q2, rfl⟩
      go_wp2_with fail
      refine (at0_any b s I d _ (HSC.out.drewN _) (by omega) (by omega)).mono ?_
      rintro e w1 ⟨rfl, q3, rfl⟩
      rw [HZ.out]
      go_wp2_with fail
      go_end0
      exact ⟨rfl, I, hiI, hI, HF.out, HSC.out.drewN _, HKP.out.drewN _⟩
end Go.Proofs.Ytnndnldpbdhkgaa
