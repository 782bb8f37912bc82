/-
  One thing within double quotes.
-/
import Derived.Test.YtnndnldpbdhkgaaLexG
namespace Go.Proofs.Ytnndnldpbdhkgaa
open Go.RowKit
set_option linter.unusedVariables false

theorem esc_amid (c : UInt8) : amid ⟨#[36, 34, 92, 96]⟩ c = escB c := by
  have h : ∀ n : Fin 256, amid ⟨#[36, 34, 92, 96]⟩ (UInt8.ofNat n.val) = escB (UInt8.ofNat n.val) := by decide +kernel
  have := h ⟨c.toNat, c.toNat_lt⟩
  simpa using this
theorem rest_drop1 (s : ByteArray) (i : Nat) : (rest s i).tail = rest s (i + 1) := by rw [← rest_drop, List.drop_one]

set_option maxRecDepth 100000 in
set_option maxHeartbeats 4000000 in
theorem inn_step (n : Nat) (IH : ∀ m, m < n → Does m) (B cs wb : Nat) (s : ByteArray) (i d : Nat) (g : Option Nat) (N : List Pt × Bool) (w : World) (hsc : ScanAt w cs s i d) (hi : i < s.size) (h34 : byteAt s i ≠ 34) (hd : d ≤ 40) (hs : s.size ≤ 20000) (hb : Bag w B cs wb g N (2 * i)) (hn : 2 * (s.size - i) ≤ n) :
    Calls Try.prog 64 #[.pointer (some ⟨cs, 0, none⟩), .pointer (some ⟨wb, 0, none⟩)] w (ThingPost w B cs wb s d g N (lexD n (.one true) d (rest s i))) := by
  obtain ⟨m, rfl⟩ : ∃ m, n = m + 1 := ⟨n - 1, by omega⟩
  have hD := IH m (by omega)
  clear IH
  rw [rest_cons hi]
  obtain ⟨c, hc⟩ : ∃ c, c = byteAt s i := ⟨_, rfl⟩
  rw [← hc]
  obtain ⟨res, hres⟩ : ∃ res, res = lexD (m + 1) (.one true) d (c :: rest s (i + 1)) := ⟨_, rfl⟩
  rw [← hres]
  rw [lexD_inn] at hres
  have HC := Lib.hid hc
  have HD := Lib.hid hD
  have HB := Lib.hid hb
  obtain ⟨c0, c1, c2, f1, f2⟩ := hsc.cells
  have HSC := Lib.hid hsc
  clear hc hD hb hsc
  have hi1 : i + 1 ≤ s.size := hi
  have h34' : (c == 34) = false := beq_eq_false_iff_ne.2 (by rw [HC.out]; exact h34)
  rw [h34', Bool.false_or] at hres
  clear h34' h34
  by_cases t : c = 92
  · have e3 : ((c.toNat : Int) == 92) = true := test_yes (c := c) (k := 92) t
    have t96 : (c == 96) = false := by rw [t]; decide
    have t92 : (c == 92) = true := beq_iff_eq.2 t
    have e4 : ((c.toNat : Int) == 96) = false := test_no (c := c) (k := 96) (by rw [t]; decide)
    have e5 : ((c.toNat : Int) == 36) = false := test_no (c := c) (k := 36) (by rw [t]; decide)
    have t36 : (c == 36) = false := by rw [t]; decide
    rw [t96, t92, t36, if_neg (by simp)] at hres
    clear t96 t92 t36
    clear t
    rw [Bool.true_and, Bool.true_and] at hres
    cases hh : headIs 10 (rest s (i + 1))
    · rw [hh, if_neg (by simp)] at hres
      cases he : escB ((rest s (i + 1)).headD 0)
      · rw [he, if_neg (by simp), if_neg (by simp)] at hres
        rcases Nat.lt_or_ge (i + 1) s.size with hlt | hge
        · obtain ⟨x, hx⟩ : ∃ x, x = byteAt s (i + 1) := ⟨_, rfl⟩
          have hhd : (rest s (i + 1)).headD 0 = x := by rw [rest_cons hlt, hx]; rfl
          rw [hhd] at he
          have HH := Lib.hid hh
          have HX := Lib.hid hx
          have HEE := Lib.hid he
          clear hh hx hhd he
          have HRES := Lib.hid hres; clear hres
          have kb := conv_one
          go_enter Try.func64, Try.ntmps64
          go_wp2_with fail
          refine (at0_any cs s i d _ HSC.out (by omega) (by omega)).mono ?_
          rintro e w1 ⟨rfl, q, rfl⟩
          rw [← HC.out]
          go_wp2_with fail
          obtain ⟨w1, hw1, hs1, hb1, hk1⟩ := step_one (n := q) HSC.out HB.out ((i : Int) + 1)
          rw [← hw1]
          have HK1 := Lib.hid hk1
          have HB1 := Lib.hid hb1
          have HS1 := Lib.hid hs1
          clear hk1 hw1 hb1 hs1
          refine (is_no cs s ⟨#[10]⟩ (i + 1) d _ HS1.out hi1 (by rw [hasPrefix_starts, starts_one]; exact HH.out)).mono ?_
          rintro e w2 ⟨rfl, q2, rfl⟩
          go_wp2_with fail
          refine (among_in cs s _ (i + 1) d _ (HS1.out.drewN _) (by omega) hlt false (by rw [esc_amid, ← HX.out]; exact HEE.out)).mono ?_
          rintro e w2 ⟨rfl, q3, rfl⟩
          clear kb
          have kb := conv_one (w1.drewN (q2 + q3)) w1.heap.size c rfl
          go_wp2_with fail
          clear kb
          have HS2 := Lib.hid ((HS1.out.drewN (q2 + q3)).alloc (.cells #[.int .u8 (c.toNat : Nat)] 5))
          have hkk : Keeps (fun b => b = cs) w1 ((w1.drewN (q2 + q3)).alloc (.cells #[.int .u8 (c.toNat : Nat)] 5)) := ((Keeps.refl _ _).drewN _).alloc _
          have HB2 := Lib.hid (HB1.out.keep hkk (fun _ _ e => e))
          have HK2 := Lib.hid (HK1.out.trans hkk (fun _ _ h => h))
          clear hkk
          refine (put2_any B cs wb g N (2 * i) ⟨#[c]⟩ _ HB2.out (by omega) (HS2.out.lt)).mono ?_
          intro e w3 hp
          have hfin := thing_put (d := d) (i := i + 1) (r := rest s (i + 1)) (l := [quoP [c]]) hp HS2.out HB2.out HK2.out hi1 rfl rfl (by show 2 * i + 1 + 1 ≤ _; omega)
          have he := hp.1
          subst he
          have HF := Lib.hid hfin
          clear hp hfin
          go_wp2_with fail
          go_end0
          rw [HRES.out]
          exact HF.out
        · have HH := Lib.hid hh
          clear hh he
          have HRES := Lib.hid hres; clear hres
          have kb := conv_one
          go_enter Try.func64, Try.ntmps64
          go_wp2_with fail
          refine (at0_any cs s i d _ HSC.out (by omega) (by omega)).mono ?_
          rintro e w1 ⟨rfl, q, rfl⟩
          rw [← HC.out]
          go_wp2_with fail
          obtain ⟨w1, hw1, hs1, hb1, hk1⟩ := step_one (n := q) HSC.out HB.out ((i : Int) + 1)
          rw [← hw1]
          have HK1 := Lib.hid hk1
          have HB1 := Lib.hid hb1
          have HS1 := Lib.hid hs1
          clear hk1 hw1 hb1 hs1
          refine (is_no cs s ⟨#[10]⟩ (i + 1) d _ HS1.out hi1 (by rw [hasPrefix_starts, starts_one]; exact HH.out)).mono ?_
          rintro e w2 ⟨rfl, q2, rfl⟩
          go_wp2_with fail
          refine (among_end cs s _ (i + 1) d _ (HS1.out.drewN _) hge).mono ?_
          rintro e w2 ⟨rfl, q3, rfl⟩
          clear kb
          have kb := conv_one (w1.drewN (q2 + q3)) w1.heap.size c rfl
          go_wp2_with fail
          clear kb
          have HS2 := Lib.hid ((HS1.out.drewN (q2 + q3)).alloc (.cells #[.int .u8 (c.toNat : Nat)] 5))
          have hkk : Keeps (fun b => b = cs) w1 ((w1.drewN (q2 + q3)).alloc (.cells #[.int .u8 (c.toNat : Nat)] 5)) := ((Keeps.refl _ _).drewN _).alloc _
          have HB2 := Lib.hid (HB1.out.keep hkk (fun _ _ e => e))
          have HK2 := Lib.hid (HK1.out.trans hkk (fun _ _ h => h))
          clear hkk
          refine (put2_any B cs wb g N (2 * i) ⟨#[c]⟩ _ HB2.out (by omega) (HS2.out.lt)).mono ?_
          intro e w3 hp
          have hfin := thing_put (d := d) (i := i + 1) (r := rest s (i + 1)) (l := [quoP [c]]) hp HS2.out HB2.out HK2.out hi1 rfl rfl (by show 2 * i + 1 + 1 ≤ _; omega)
          have he := hp.1
          subst he
          have HF := Lib.hid hfin
          clear hp hfin
          go_wp2_with fail
          go_end0
          rw [HRES.out]
          exact HF.out
      · rw [he, if_pos rfl] at hres
        have hlt : i + 1 < s.size := by
          rcases Nat.lt_or_ge (i + 1) s.size with x | x
          · exact x
          · rw [rest_nil x] at he; cases he
        obtain ⟨x, hx⟩ : ∃ x, x = byteAt s (i + 1) := ⟨_, rfl⟩
        have hhd : (rest s (i + 1)).headD 0 = x := by rw [rest_cons hlt, hx]; rfl
        rw [rest_drop1, hhd] at hres
        rw [hhd] at he
        have HRES := Lib.hid hres; clear hres
        have HH := Lib.hid hh
        have HX := Lib.hid hx
        have HEE := Lib.hid he
        clear hh hx hhd he
        go_enter Try.func64, Try.ntmps64
        go_wp2_with fail
        refine (at0_any cs s i d _ HSC.out (by omega) (by omega)).mono ?_
        rintro e w1 ⟨rfl, q, rfl⟩
        rw [← HC.out]
        go_wp2_with fail
        obtain ⟨w1, hw1, hs1, hb1, hk1⟩ := step_one (n := q) HSC.out HB.out ((i : Int) + 1)
        rw [← hw1]
        have HK1 := Lib.hid hk1
        have HB1 := Lib.hid hb1
        have HS1 := Lib.hid hs1
        clear hk1 hw1 hb1 hs1
        refine (is_no cs s ⟨#[10]⟩ (i + 1) d _ HS1.out hi1 (by rw [hasPrefix_starts, starts_one]; exact HH.out)).mono ?_
        rintro e w2 ⟨rfl, q2, rfl⟩
        go_wp2_with fail
        refine (among_in cs s _ (i + 1) d _ (HS1.out.drewN _) (by omega) hlt true (by rw [esc_amid, ← HX.out]; exact HEE.out)).mono ?_
        rintro e w2 ⟨rfl, q3, rfl⟩
        have w1e : IntKind.i64.wrap ((i : Int) + 1 + 1) = (i : Int) + 1 + 1 := IntWalk.i64_in _ (by omega)
        have p1 : 0 ≤ (i : Int) + 1 := by omega
        have p2 : (i : Int) + 1 ≤ (i : Int) + 1 + 1 := by omega
        have p3 : (i : Int) + 1 + 1 ≤ (s.size : Int) := by omega
        have p4 : ((i : Int) + 1).toNat = i + 1 := by omega
        have p5 : ((i : Int) + 1 + 1).toNat = i + 1 + 1 := by omega
        clear c0 c1 c2 f1 f2
        go_wp2_with fail
        have hs2 : ScanAt (w1.drewN (q2 + q3)) cs s ((i : Int) + 1) d := HS1.out.drewN _
        have hkk : Keeps (fun b => b = cs) w1 (w1.drewN (q2 + q3)) := (Keeps.refl _ _).drewN _
        have hb2 := HB1.out.keep hkk (fun _ _ e => e)
        have hk2 := HK1.out.trans hkk (fun _ _ h => h)
        obtain ⟨W, hW⟩ : ∃ W, W = w1.drewN (q2 + q3) := ⟨_, rfl⟩
        rw [← hW] at hs2 hb2 hk2
        rw [← hW]
        have HB2 := Lib.hid hb2; have HK2 := Lib.hid hk2
        clear hW hkk hb2 hk2
        have HS2 := Lib.hid hs2
        obtain ⟨d0, d1, d2, df1, df2⟩ := hs2.cells
        clear hs2
        refine wp_region_still_tail 15 (by kernel_rfl) (by kernel_rfl) ?_
        simp only [List.take_succ_cons, List.take_zero, List.drop_succ_cons, List.drop_zero]
        change wpStill _ _ W.drew _ _ _
        repeat still_step
        refine wpStill_nil ?_
        change wpList _ _ _ _ _ W.drew
        go_wp2_with fail
        obtain ⟨R, hR⟩ : ∃ R, R = s.extract (i + 1) (i + 1 + 1) := ⟨_, rfl⟩
        rw [← hR]
        have hRd : R.data.toList = [x] := by
          rw [hR, Lib.extract_data, show i + 1 + 1 - (i + 1) = 1 by omega]
          show (rest s (i + 1)).take 1 = _
          rw [rest_cons hlt, ← HX.out]; rfl
        have hRs : R.size = 1 := by rw [Lib.size_eq, hRd]; rfl
        have HR := Lib.hid hRd
        clear hR hRd
        have hb3 := HB2.out.keep ((Keeps.refl (fun b => b = cs) W).drewN 1) (fun _ _ e => e)
        have hs3 := HS2.out.drewN 1
        have hk3 := HK2.out.drewN 1
        refine (put2_any B cs wb g N (2 * i) R _ hb3 (by omega) hs3.lt).mono ?_
        intro e w3 hp
        obtain ⟨he, g', hs4, hb4, hn4, hk4⟩ := put_then (d := d) (i := i + 1) hp hs3 hb3 hk3
        subst he
        have HB4 := Lib.hid hb4; have HN4 := Lib.hid hn4; have HK4 := Lib.hid hk4; have HS4 := Lib.hid hs4
        obtain ⟨c0, c1, c2, f1, f2⟩ := hs4.cells
        have HRS := Lib.hid hRs
        clear hp hb3 hs3 hk3 hb4 hn4 hk4 hs4 hRs
        go_wp2_with fail
        go_end0
        rw [HRES.out]
        refine thing_move (j := i + 1 + 1) HB4.out HN4.out HK4.out (scan_end HS4.out 0 (by omega)) (keep_end0 _ _ _ _) (by omega) rfl (by rw [HR.out]; rfl) (by have := HRS.out; omega)
    · rw [hh, if_pos rfl] at hres
      have hlt : i + 1 < s.size := by
        rcases Nat.lt_or_ge (i + 1) s.size with x | x
        · exact x
        · rw [rest_nil x] at hh; cases hh
      rw [rest_drop1] at hres
      have HRES := Lib.hid hres; clear hres
      have HH := Lib.hid hh
      clear hh
      go_enter Try.func64, Try.ntmps64
      go_wp2_with fail
      refine (at0_any cs s i d _ HSC.out (by omega) (by omega)).mono ?_
      rintro e w1 ⟨rfl, q, rfl⟩
      rw [← HC.out]
      go_wp2_with fail
      obtain ⟨w1, hw1, hs1, hb1, hk1⟩ := step_one (n := q) HSC.out HB.out ((i : Int) + 1)
      rw [← hw1]
      have HK1 := Lib.hid hk1
      have HB1 := Lib.hid hb1
      have HS1 := Lib.hid hs1
      clear hk1 hw1 hb1 hs1
      refine (is_yes cs s ⟨#[10]⟩ (i + 1) d _ HS1.out (by omega) hi1 (by decide) (by rw [hasPrefix_starts, starts_one]; exact HH.out)).mono ?_
      rintro e w2 ⟨rfl, hs2, hk2⟩
      have HS2 := Lib.hid hs2
      have HB2 := Lib.hid (HB1.out.keep hk2 (fun _ _ e => e))
      have HK2 := Lib.hid (HK1.out.trans hk2 (fun _ _ h => h))
      clear hs2 hk2
      go_wp2_with fail
      go_end0
      rw [HRES.out]
      exact thing_none (i := i + 1 + 1) HS2.out HB2.out HK2.out (by omega) rfl (by omega)
  · have e3 : ((c.toNat : Int) == 92) = false := test_no (c := c) (k := 92) t
    have t92 : (c == 92) = false := beq_eq_false_iff_ne.2 t
    rw [t92, Bool.false_and, Bool.false_and] at hres
    clear t t92
    by_cases t : c = 96
    · have e4 : ((c.toNat : Int) == 96) = true := test_yes (c := c) (k := 96) t
      rw [if_pos (beq_iff_eq.2 t)] at hres
      clear t
      have HRES := Lib.hid hres; clear hres
      go_enter Try.func64, Try.ntmps64
      go_wp2_with fail
      refine (at0_any cs s i d _ HSC.out (by omega) (by omega)).mono ?_
      rintro e w1 ⟨rfl, q, rfl⟩
      rw [← HC.out]
      go_wp2_with fail
      obtain ⟨w1, hw1, hs1, hb1, hk1⟩ := step_one (n := q) HSC.out HB.out ((i : Int) + 1)
      rw [← hw1]
      have HK1 := Lib.hid hk1
      have HB1 := Lib.hid hb1
      have HS1 := Lib.hid hs1
      clear hk1 hw1 hb1 hs1
      refine (fail_any 2 _).mono ?_
      rintro e w2 ⟨rfl, rfl⟩
      go_wp2_with fail
      refine ⟨rfl, ?_⟩
      rw [HRES.out]
      exact ⟨rfl, HK1.out.mono fun _ _ h => .inl h⟩
    · have e4 : ((c.toNat : Int) == 96) = false := test_no (c := c) (k := 96) t
      rw [if_neg (fun h => t (beq_iff_eq.1 h)), if_neg (by simp), if_neg (by simp)] at hres
      clear t
      by_cases t : c = 36
      · have e5 : ((c.toNat : Int) == 36) = true := test_yes (c := c) (k := 36) t
        rw [if_pos (beq_iff_eq.2 t)] at hres
        clear t
        have HRES := Lib.hid hres; clear hres
        go_enter Try.func64, Try.ntmps64
        go_wp2_with fail
        refine (at0_any cs s i d _ HSC.out (by omega) (by omega)).mono ?_
        rintro e w1 ⟨rfl, q, rfl⟩
        rw [← HC.out]
        go_wp2_with fail
        obtain ⟨w1, hw1, hs1, hb1, hk1⟩ := step_one (n := q) HSC.out HB.out ((i : Int) + 1)
        rw [← hw1]
        have HK1 := Lib.hid hk1
        have HB1 := Lib.hid hb1
        have HS1 := Lib.hid hs1
        clear hk1 hw1 hb1 hs1
        refine (HD.out.dol true B cs wb s (i + 1) d (2 * i) g N w1 HS1.out hi1 hd hs HB1.out (by omega) (by omega)).mono ?_
        intro e w2 hp
        have hfin := thing_from hp HK1.out
        cases hres2 : lexD m (.dol true) d (rest s (i + 1)) with
        | error x =>
          rw [hres2] at hp hfin
          have hr2 := HRES.out.trans hres2
          have HR2 := Lib.hid hr2
          have he := hp.1
          subst he
          have HF := Lib.hid hfin
          clear hp hfin hres2 hr2
          go_wp2_with fail
          refine ⟨rfl, ?_⟩
          rw [HR2.out]
          exact HF.out
        | ok lr =>
          obtain ⟨l, r⟩ := lr
          rw [hres2] at hp hfin
          have hr2 := HRES.out.trans hres2
          have HR2 := Lib.hid hr2
          have he := hp.1
          subst he
          have HF := Lib.hid hfin
          clear hp hfin hres2 hr2
          go_wp2_with fail
          go_end0
          rw [HR2.out]
          exact HF.out
      · have e5 : ((c.toNat : Int) == 36) = false := test_no (c := c) (k := 36) t
        rw [if_neg (fun h => t (beq_iff_eq.1 h))] at hres
        clear t
        have HRES := Lib.hid hres; clear hres
        have kb := conv_one
        go_enter Try.func64, Try.ntmps64
        go_wp2_with fail
        refine (at0_any cs s i d _ HSC.out (by omega) (by omega)).mono ?_
        rintro e w1 ⟨rfl, q, rfl⟩
        rw [← HC.out]
        go_wp2_with fail
        obtain ⟨w1, hw1, hs1, hb1, hk1⟩ := step_one (n := q) HSC.out HB.out ((i : Int) + 1)
        rw [← hw1]
        have HK1 := Lib.hid hk1
        have HB1 := Lib.hid hb1
        have HS1 := Lib.hid hs1
        clear hk1 hw1 hb1 hs1
        clear kb
        have HS2 := Lib.hid (HS1.out.alloc (.cells #[.int .u8 (c.toNat : Nat)] 5))
        have hkk : Keeps (fun b => b = cs) w1 (w1.alloc (.cells #[.int .u8 (c.toNat : Nat)] 5)) := (Keeps.refl _ _).alloc _
        have HB2 := Lib.hid (HB1.out.keep hkk (fun _ _ e => e))
        have HK2 := Lib.hid (HK1.out.trans hkk (fun _ _ h => h))
        clear hkk
        refine (put2_any B cs wb g N (2 * i) ⟨#[c]⟩ _ HB2.out (by omega) (HS2.out.lt)).mono ?_
        intro e w3 hp
        have hfin := thing_put (d := d) (i := i + 1) (r := rest s (i + 1)) (l := [quoP [c]]) hp HS2.out HB2.out HK2.out hi1 rfl rfl (by show 2 * i + 1 + 1 ≤ _; omega)
        have he := hp.1
        subst he
        have HF := Lib.hid hfin
        clear hp hfin
        go_wp2_with fail
        go_end0
        rw [HRES.out]
        exact HF.out
end Go.Proofs.Ytnndnldpbdhkgaa
