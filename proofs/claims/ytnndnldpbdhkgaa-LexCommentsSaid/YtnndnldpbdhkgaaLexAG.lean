/-
  Word behind the deferred closure.
-/
import Derived.Test.YtnndnldpbdhkgaaLexAF
namespace Go.Proofs.Ytnndnldpbdhkgaa
open Go.RowKit
set_option linter.unusedVariables false

def wordRes (r : Res) : Except Nat (List Pt) := match r with
  | .error e => .error e
  | .ok (l, _) => .ok (tidyF l)
/-- What stands in the world where Word's loop begins. -/
def Cells2 (w wr : World) (R : Nat) : Prop := ∃ T T', wr.heap[R]? = some (.cells #[.slice none 0 0] T (0, 0)) ∧ wr.heap[R + 1]? = some (.cells #[.int .i64 0] T' (0, 0))
theorem Cells2.keep {w wr wr' : World} {R : Nat} {S : Nat → Prop} (h : Cells2 w wr R) (hk : Keeps S wr wr') (h0 : ¬ S R) (h1 : ¬ S (R + 1)) : Cells2 w wr' R := by
  obtain ⟨T, T', a, b⟩ := h
  exact ⟨T, T', (hk.block R (Array.getElem?_eq_some_iff.1 a).1 h0).trans a, (hk.block (R + 1) (Array.getElem?_eq_some_iff.1 b).1 h1).trans b⟩
theorem Cells2.cells {w wr : World} {R : Nat} (h : Cells2 w wr R) : wr.cell? ⟨R, 0, none⟩ = some (.slice none 0 0) ∧ wr.cell? ⟨R + 1, 0, none⟩ = some (.int .i64 0) ∧ wr.frozen? ⟨R, 0, none⟩ = false ∧ wr.frozen? ⟨R + 1, 0, none⟩ = false ∧ R + 1 < wr.heap.size := by
  obtain ⟨T, T', a, b⟩ := h
  refine ⟨?_, ?_, ?_, ?_, (Array.getElem?_eq_some_iff.1 b).1⟩ <;> simp [World.cell?, World.frozen?, a, b]

theorem RecAt.one {w : World} {b : Nat} {a0 : Value} (h : RecAt w b [a0]) : w.cell? ⟨b, 0, none⟩ = some a0 ∧ w.frozen? ⟨b, 0, none⟩ = false := by
  obtain ⟨T, h⟩ := h
  refine ⟨?_, ?_⟩ <;> simp [World.cell?, World.frozen?, h]
theorem caught_cells {w w3 : World} {R x : Nat} {o : Obj} (h : Cells2 w w3 R) : ∃ W4, W4 = ((w3.setCell ⟨R, 0, none⟩ (.slice none 0 0)).setCell ⟨R + 1, 0, none⟩ (.int .i64 x)).alloc o ∧ W4.cell? ⟨R, 0, none⟩ = some (.slice none 0 0) ∧ W4.cell? ⟨R + 1, 0, none⟩ = some (.int .i64 x) ∧ Keeps (fun b => b = R ∨ b = R + 1) w3 W4 := by
  obtain ⟨T, T', a, b⟩ := h
  have hA : RecAt w3 R [.slice none 0 0] := ⟨T, a⟩
  have hB : RecAt w3 (R + 1) [.int .i64 0] := ⟨T', b⟩
  have k1 : Keeps (fun b => b = R) w3 (w3.setCell ⟨R, 0, none⟩ (.slice none 0 0)) := (Keeps.refl _ _).setCell _ _ fun _ => rfl
  have k2 : Keeps (fun b => b = R + 1) (w3.setCell ⟨R, 0, none⟩ (.slice none 0 0)) ((w3.setCell ⟨R, 0, none⟩ (.slice none 0 0)).setCell ⟨R + 1, 0, none⟩ (.int .i64 x)) := (Keeps.refl _ _).setCell _ _ fun _ => rfl
  have k3 : Keeps (fun _ => False) ((w3.setCell ⟨R, 0, none⟩ (.slice none 0 0)).setCell ⟨R + 1, 0, none⟩ (.int .i64 x)) (((w3.setCell ⟨R, 0, none⟩ (.slice none 0 0)).setCell ⟨R + 1, 0, none⟩ (.int .i64 x)).alloc o) := (Keeps.refl _ _).alloc _
  have hA2 := ((hA.set 0 (.slice none 0 0)).keep k2 (by omega)).keep k3 (fun h => h)
  have hB2 := ((hB.keep k1 (by omega)).set 0 (.int .i64 x)).keep k3 (fun h => h)
  exact ⟨_, rfl, hA2.one.1, hB2.one.1, ((k1.mono fun _ _ e => .inl e).trans k2 fun _ _ e => .inr e).trans k3 fun _ _ e => e.elim⟩

theorem done_cells {w w3 : World} {R : Nat} {u : Value} (h : Cells2 w w3 R) : ∃ W4, W4 = (w3.setCell ⟨R, 0, none⟩ u).setCell ⟨R + 1, 0, none⟩ (.int .i64 0) ∧ W4.cell? ⟨R, 0, none⟩ = some u ∧ W4.cell? ⟨R + 1, 0, none⟩ = some (.int .i64 0) ∧ Keeps (fun b => b = R ∨ b = R + 1) w3 W4 := by
  obtain ⟨T, T', a, b⟩ := h
  have hA : RecAt w3 R [.slice none 0 0] := ⟨T, a⟩
  have hB : RecAt w3 (R + 1) [.int .i64 0] := ⟨T', b⟩
  have k1 : Keeps (fun b => b = R) w3 (w3.setCell ⟨R, 0, none⟩ u) := (Keeps.refl _ _).setCell _ _ fun _ => rfl
  have k2 : Keeps (fun b => b = R + 1) (w3.setCell ⟨R, 0, none⟩ u) ((w3.setCell ⟨R, 0, none⟩ u).setCell ⟨R + 1, 0, none⟩ (.int .i64 0)) := (Keeps.refl _ _).setCell _ _ fun _ => rfl
  have hA2 := (hA.set 0 u).keep k2 (by omega)
  have hB2 := (hB.keep k1 (by omega)).set 0 (.int .i64 0)
  exact ⟨_, rfl, hA2.one.1, hB2.one.1, (k1.mono fun _ _ e => .inl e).trans k2 fun _ _ e => .inr e⟩

set_option maxRecDepth 100000 in
set_option maxHeartbeats 4000000 in
theorem word_rest (s : ByteArray) (w : World) (hs : s.size ≤ 20000) (hx : mayF s.data.toList = 0) :
    Calls Try.prog 22 #[.string s] w (WordPost w (wordRes (wordD true (s.size + 1) (rest s 0)))) := by
  have HX := Lib.hid hx
  obtain ⟨res, hres⟩ : ∃ res, res = wordRes (wordD true (s.size + 1) (rest s 0)) := ⟨_, rfl⟩
  rw [← hres]
  have HR := Lib.hid hres
  clear hx hres
  have hmf : ∀ (fn : Fn) (first cap : Array Value) (w : World), (Instr.makeFunc fn first cap).run Try.prog w = .ok (.func fn first cap) w := fun _ _ _ _ => rfl
  go_enter_defers Try.func22, Try.ntmps22
  go_wp2_with fail
  refine (may_any s _ (by omega)).mono ?_
  rintro e w1 ⟨rfl, hw1⟩
  rw [HX.out]
  subst hw1
  go_wp2_with fail
  obtain ⟨W, hW⟩ : ∃ W, W = ((w.alloc (.cells #[.slice none 0 0] 32)).alloc (.cells #[.int .i64 0] 24)).alloc (.cells #[.string s, .int .i64 0, .int .i64 0] 55) := ⟨_, rfl⟩
  rw [← hW]
  have hsz : W.heap.size = w.heap.size + 1 + 1 + 1 := by rw [hW]; simp
  have hsW : ScanAt W (w.heap.size + 1 + 1) s ((0 : Nat) : Int) ((0 : Nat) : Int) := by
    rw [hW]
    refine ⟨55, ?_⟩
    have := heap_alloc_new ((w.alloc (.cells #[.slice none 0 0] 32)).alloc (.cells #[.int .i64 0] 24)) (.cells #[.string s, .int .i64 0, .int .i64 0] 55)
    have e : ((w.alloc (.cells #[.slice none 0 0] 32)).alloc (.cells #[.int .i64 0] 24)).heap.size = w.heap.size + 1 + 1 := by simp
    rw [e] at this
    exact this
  obtain ⟨cs, hcs⟩ : ∃ cs, cs = w.heap.size + 1 + 1 := ⟨_, rfl⟩
  rw [← hcs] at hsW
  rw [← hcs] at hsz
  rw [← hcs, ← hsz]
  have HSW := Lib.hid hsW
  have HCS := Lib.hid hcs
  have HSZ := Lib.hid hsz
  have hc2 : Cells2 w W w.heap.size := by
    have k1 : Keeps (fun _ => False) (w.alloc (.cells #[.slice none 0 0] 32)) W := by rw [hW]; exact ((Keeps.refl _ _).alloc _).alloc _
    have k2 : Keeps (fun _ => False) ((w.alloc (.cells #[.slice none 0 0] 32)).alloc (.cells #[.int .i64 0] 24)) W := by rw [hW]; exact (Keeps.refl _ _).alloc _
    have a1 := heap_alloc_new w (.cells #[.slice none 0 0] 32)
    have a2 := heap_alloc_new (w.alloc (.cells #[.slice none 0 0] 32)) (.cells #[.int .i64 0] 24)
    rw [show (w.alloc (.cells #[.slice none 0 0] 32)).heap.size = w.heap.size + 1 by simp] at a2
    exact ⟨_, _, (k1.block _ (by simp) (fun h => h)).trans a1, (k2.block _ (by simp) (fun h => h)).trans a2⟩
  have HC2 := Lib.hid hc2
  have HKW := Lib.hid (show Keeps (fun _ => False) w W by rw [hW]; exact (((Keeps.refl _ _).alloc _).alloc _).alloc _)
  have hltW := hsW.lt
  clear hW hsW hcs hsz hc2
  go_loopg [] (s.size + 2) (fun k wr => ∃ (I M : Nat) (l : List Pt) (g' : Option Nat), k = s.size + 2 - I ∧ I ≤ s.size ∧ ScanAt wr cs s I ((0 : Nat) : Int) ∧ Bag wr W.heap.size cs W.heap.size g' (l.foldl stepN ([], false)) (2 * I) ∧ Newer (W.alloc (.cells #[.slice none 0 0] 68)) none g' ∧ Keeps (Fp cs W.heap.size none) (W.alloc (.cells #[.slice none 0 0] 68)) wr ∧ s.size - I + 1 ≤ M ∧ WdAt true (s.size + 1) (rest s 0) M l (rest s I))
  case atStart => exact ⟨0, s.size + 1, [], none, rfl, by omega, HSW.out.alloc _, (Bag.new _ hltW).mono (Nat.zero_le _), Newer.refl _ _, Keeps.refl _ _, by omega, (ahead_nil _).symm⟩
  case round =>
    obtain ⟨I, M, l, g', hgk, hI, hsc, hbg, hnw, hkp, hMn, hat⟩ := hrel
    have HGK := Lib.hid hgk
    have HSI := Lib.hid hsc
    have HBI := Lib.hid hbg
    have HNI := Lib.hid hnw
    have HKI := Lib.hid hkp
    obtain ⟨M, rfl⟩ : ∃ M', M = M' + 1 := ⟨M - 1, by omega⟩
    have hat' : wordD true (s.size + 1) (rest s 0) = (wordD true (M + 1) (rest s I)).ahead l := hat
    have hr : res = wordRes ((wordD true (M + 1) (rest s I)).ahead l) := by rw [HR.out, hat']
    have HAT := Lib.hid hat'
    clear hgk hsc hbg hnw hkp hat hat'
    rcases Nat.lt_or_ge I s.size with hlt | hge
    · have he : decide (s.size ≤ I) = false := decide_eq_false (by omega)
      have HE := Lib.hid he
      rw [wordD_succ, rest_cons hlt] at hr
      dsimp only at hr
      rw [if_neg (by simp), ← rest_cons hlt, rest_len] at hr
      have HR1 := Lib.hid hr
      clear he hr
      go_wp2_with fail
      refine (end_any cs s I _ _ HSI.out).mono ?_
      rintro e w2 ⟨rfl, q2, rfl⟩
      rw [HE.out]
      go_wp2_with fail
      have hkd : Keeps (fun b => b = cs) wr (wr.drewN q2) := (Keeps.refl _ _).drewN _
      refine ((does (2 * (s.size - I) + 2)).out W.heap.size cs W.heap.size s I 0 g' _ _ (HSI.out.drewN q2) hlt (by omega) hs (HBI.out.keep hkd (fun _ _ e => e)) (by omega)).mono ?_
      intro e w3 hp
      have hfin := thing_from hp hkd
      clear hkd hp
      cases hres2 : lexD (2 * (s.size - I) + 2) (.one false) 0 (rest s I) with
      | error x =>
        rw [hres2] at hfin
        have hr2 := HR1.out
        rw [hres2] at hr2
        have HRX := Lib.hid (show res = .error x from hr2)
        obtain ⟨he, hk5⟩ := hfin
        subst he
        have HK5 := Lib.hid (fp_new (HKI.out.next HNI.out hk5))
        clear hres2 hr2 hk5
        go_wp2_with fail
        have hc3 := HC2.out.keep HK5.out (by have := HCS.out; omega) (by have := HCS.out; omega)
        obtain ⟨g0, g1, gf0, gf1, glt⟩ := hc3.cells
        refine leaves_cons (f := 35) (args := #[.pointer (some ⟨w.heap.size, 0, none⟩), .pointer (some ⟨w.heap.size + 1, 0, none⟩)]) (by simp) (by simp [go_sem]) ?_
        refine (word_catch _ _ x _ _ [] _ g0 g1 gf0 gf1 (by omega) (by omega) glt).mono ?_
        rintro e u' w'' ⟨rfl, rfl, rfl⟩
        obtain ⟨W4, hW4, k0, k1, hk4⟩ := caught_cells (x := x) (o := .cells #[.int .i64 x] 74) hc3
        rw [← hW4]
        simp [Leaves, settle, results, Try.results22, go_sem, k0, k1]
        rw [HRX.out]
        exact ⟨rfl, ((HKW.out.trans HK5.out (fun b hb e => by have := HCS.out; omega)).trans hk4 (fun b hb e => by rcases e with e | e <;> omega))⟩
      | ok lr =>
        obtain ⟨l2, r2⟩ := lr
        rw [hres2] at hfin
        have hlen := lexD_len _ _ _ _ _ _ hres2
        have hat2 := HAT.out
        rw [wordD_succ true M, rest_cons hlt] at hat2
        try dsimp only at hat2
        rw [if_neg (by simp), ← rest_cons hlt, rest_len, hres2] at hat2
        try dsimp only at hat2
        rw [ahead_ahead] at hat2
        obtain ⟨he, I2, g2, a1, a2, a3, a4, a5, a6⟩ := hfin
        subst he
        rw [← a2, rest_len, rest_len] at hlen
        rw [← a2] at hat2
        have HAT2 := Lib.hid hat2
        have HS3 := Lib.hid a3
        have HB3 := Lib.hid a4
        have HN3 := Lib.hid a5
        have HK3 := Lib.hid a6
        have hlen2 : I + 1 ≤ I2 := by simp only [Md.least] at hlen; omega
        clear hres2 hat2 a2 a3 a4 a5 a6 hlen
        go_wp2_with fail
        go_roundg (s.size + 2 - I2)
        case measure => have := HGK.out; omega
        case rel => exact ⟨I2, M, l ++ l2, g2, rfl, a1, HS3.out, by rw [List.foldl_append]; exact HB3.out, HNI.out.trans HKI.out.size HN3.out, HKI.out.next HNI.out HK3.out, by omega, HAT2.out⟩
    · have he : decide (s.size ≤ I) = true := decide_eq_true hge
      have HE := Lib.hid he
      rw [wordD_succ, rest_nil hge] at hr
      have HRX := Lib.hid (show res = .ok (tidyOf (l.foldl stepN ([], false))) by rw [hr]; show (Except.ok (tidyF (l ++ [])) : Except Nat (List Pt)) = _; rw [List.append_nil]; rfl)
      have hlen3 : (tidyOf (l.foldl stepN ([], false))).length ≤ 1000000 := by
        obtain ⟨_, raw, _, _, _, _, _, _, hN, _, hwt⟩ := HBI.out
        have h1 := normF_len raw
        have h2 := wtF_len raw
        rw [hN] at h1
        unfold tidyOf
        split
        · decide
        · omega
      clear hr he
      go_wp2_with fail
      refine (end_any cs s I _ _ HSI.out).mono ?_
      rintro e w2 ⟨rfl, q2, rfl⟩
      rw [HE.out]
      go_wp2_with fail
      have hkd : Keeps (fun b => b = cs) wr (wr.drewN q2) := (Keeps.refl _ _).drewN _
      have HB2 := Lib.hid (HBI.out.keep hkd (fun _ _ e => e))
      have HS2 := Lib.hid (HSI.out.drewN q2)
      have HK2 := Lib.hid ((fp_new HKI.out).trans hkd (fun _ _ e => e))
      clear hkd
      refine (parts_any W.heap.size cs W.heap.size g' _ _ _ HB2.out (by omega) HS2.out.lt).mono ?_
      rintro e w3 ⟨v, k, rfl, hp, hk3⟩
      have HK3 := Lib.hid hk3
      go_wp2_with fail
      refine (clone_any _ _ _ _ _ hp hlen3).mono ?_
      rintro e w4 ⟨v4, k4, rfl, hp4, hk4⟩
      obtain ⟨ax, cx, rfl, _, _⟩ := hp4.shape
      obtain ⟨tl, htl⟩ : ∃ tl, tl = (tidyOf (l.foldl stepN ([], false))).length := ⟨_, rfl⟩
      rw [← htl] at hp4
      rw [← htl]
      have hc4 := ((HC2.out.keep HK2.out (by have := HCS.out; omega) (by have := HCS.out; omega)).keep hk3 (fun h => h) (fun h => h)).keep hk4 (fun h => h) (fun h => h)
      obtain ⟨g0, g1, gf0, gf1, glt⟩ := hc4.cells
      have HP4 := Lib.hid hp4
      have HK4 := Lib.hid ((HK2.out.trans hk3 (fun _ _ h => h.elim)).trans hk4 (fun _ _ h => h.elim))
      clear hp hk3 hp4 hk4 htl
      go_wp2_with fail
      refine leaves_cons (f := 35) (args := #[.pointer (some ⟨w.heap.size, 0, none⟩), .pointer (some ⟨w.heap.size + 1, 0, none⟩)]) (by simp) (by simp [go_sem]) ?_
      refine (word_catch_idle _ _ _).mono ?_
      rintro e u' w'' ⟨rfl, rfl, rfl⟩
      obtain ⟨W5, hW5, k0, k1, hk5⟩ := done_cells (u := .slice ax tl cx) hc4
      rw [← hW5]
      refine ⟨.tuple #[.slice ax tl cx, .int .i64 0], by simp [results, Try.results22, go_sem, k0, k1], ?_⟩
      rw [HRX.out]
      exact ⟨_, k4, rfl, (HP4.out.keep hk5 (fun b hb h e => by have := HSZ.out; have := HCS.out; have := HK3.out.size; have := HK2.out.size; have := HKW.out.size; rcases h with h | h; (have := h.1; omega); omega)).mono (fun b _ h => by have := HSZ.out; have := HCS.out; rcases h with h | h; (have := h.1; omega); (have := HK3.out.size; have := HK2.out.size; have := HKW.out.size; omega)), ((HKW.out.trans HK4.out (fun b hb e => by have := HCS.out; omega)).trans hk5 (fun b hb e => by rcases e with e | e <;> omega))⟩
end Go.Proofs.Ytnndnldpbdhkgaa
