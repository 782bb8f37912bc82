/-
  show.Same.
-/
import Derived.Test.YtiihpbccabeoeaaGreatDoorZPsD
namespace Go.Proofs.YtiihpbccabeoeaaGreatDoor
open Go.RowKit
set_option linter.unusedVariables false
set_option maxRecDepth 100000 in
set_option maxHeartbeats 4000000 in
theorem part81 (w : World) (x y : Px) (xa : Option Addr) (xl xc : Nat) (xa' : Option Addr) (xl' xc' : Nat) (hc : ∀ W, Keeps (fun _ => False) w W → Calls Tryz.prog 52 #[.slice xa xl xc, .slice xa' xl' xc'] W (SamePost W (x.word = y.word))) :
    Calls Tryz.prog 81 #[.agg #[.int .i64 x.kind, .string ⟨x.text.toArray⟩, .string ⟨x.name.toArray⟩, .string ⟨x.op.toArray⟩, .slice xa xl xc, .bool x.quoted], .agg #[.int .i64 y.kind, .string ⟨y.text.toArray⟩, .string ⟨y.name.toArray⟩, .string ⟨y.op.toArray⟩, .slice xa' xl' xc', .bool y.quoted]] w (SamePost w (x = y)) := by
  have HC := Lib.hid hc
  clear hc
  obtain ⟨kx, hkx⟩ : ∃ q, q = x.kind := ⟨_, rfl⟩
  obtain ⟨ky, hky⟩ : ∃ q, q = y.kind := ⟨_, rfl⟩
  obtain ⟨qx, hqx⟩ : ∃ q, q = x.quoted := ⟨_, rfl⟩
  obtain ⟨qy, hqy⟩ : ∃ q, q = y.quoted := ⟨_, rfl⟩
  rw [← hkx, ← hky, ← hqx, ← hqy]
  by_cases c0 : kx = ky
  rotate_left
  · have t0 : (kx == ky) = false := by rw [beq_eq_false_iff_ne]; exact c0
    have C0 := Lib.hid (show x.kind ≠ y.kind by rw [← hkx, ← hky]; exact c0)
    clear c0 hkx hky hqx hqy
    go_enter Tryz.func81, Tryz.ntmps81
    go_wp2_with fail
    go_ret
    exact ⟨false, rfl, ⟨fun h => (by cases h), fun h => absurd (by rw [h]) C0.out⟩, ((Keeps.refl _ _).alloc _).alloc _⟩
  have C0 := Lib.hid (hkx.symm.trans (c0.trans hky))
  have t0 : (ky == ky) = true := by simp
  clear hkx hky
  subst c0
  cases t1 : (x.text == y.text) with
  | false =>
    have C1 := Lib.hid (ne_of_beq_false t1)
    go_enter Tryz.func81, Tryz.ntmps81
    go_wp2_with fail
    go_ret
    exact ⟨false, rfl, ⟨fun h => (by cases h), fun h => absurd (by rw [h]) C1.out⟩, ((Keeps.refl _ _).alloc _).alloc _⟩
  | true =>
  have C1 := Lib.hid (eq_of_beq t1)
  cases t2 : (x.name == y.name) with
  | false =>
    have C2 := Lib.hid (ne_of_beq_false t2)
    go_enter Tryz.func81, Tryz.ntmps81
    go_wp2_with fail
    go_ret
    exact ⟨false, rfl, ⟨fun h => (by cases h), fun h => absurd (by rw [h]) C2.out⟩, ((Keeps.refl _ _).alloc _).alloc _⟩
  | true =>
  have C2 := Lib.hid (eq_of_beq t2)
  cases t3 : (x.op == y.op) with
  | false =>
    have C3 := Lib.hid (ne_of_beq_false t3)
    go_enter Tryz.func81, Tryz.ntmps81
    go_wp2_with fail
    go_ret
    exact ⟨false, rfl, ⟨fun h => (by cases h), fun h => absurd (by rw [h]) C3.out⟩, ((Keeps.refl _ _).alloc _).alloc _⟩
  | true =>
  have C3 := Lib.hid (eq_of_beq t3)
  by_cases c5 : qx = qy
  rotate_left
  · have C5 := Lib.hid (show x.quoted ≠ y.quoted by rw [← hqx, ← hqy]; exact c5)
    clear hqx hqy
    cases qx <;> cases qy
    · exact absurd rfl c5
    · clear c5
      go_enter Tryz.func81, Tryz.ntmps81
      go_wp2_with fail
      go_ret
      exact ⟨false, rfl, ⟨fun h => (by cases h), fun h => absurd (by rw [h]) C5.out⟩, ((Keeps.refl _ _).alloc _).alloc _⟩
    · clear c5
      go_enter Tryz.func81, Tryz.ntmps81
      go_wp2_with fail
      go_ret
      exact ⟨false, rfl, ⟨fun h => (by cases h), fun h => absurd (by rw [h]) C5.out⟩, ((Keeps.refl _ _).alloc _).alloc _⟩
    · exact absurd rfl c5
  have C5 := Lib.hid (hqx.symm.trans (c5.trans hqy))
  clear hqx hqy
  subst c5
  have t5 : (qx == qx) = true := by simp
  go_enter Tryz.func81, Tryz.ntmps81
  go_wp2_with fail
  refine (HC.out _ (((Keeps.refl _ _).alloc _).alloc _)).mono ?_
  rintro e w2 ⟨r, rfl, hr, hk2⟩
  have HK2 := Lib.hid ((((Keeps.refl (fun _ => False) w).alloc _).alloc _).trans hk2 (fun _ _ h => h))
  have HR := Lib.hid hr
  clear hr hk2
  go_wp2_with fail
  go_ret
  exact ⟨r, rfl, ⟨fun h => Px.ext' C0.out C1.out C2.out C3.out (HR.out.1 h) C5.out, fun h => HR.out.2 (by rw [h])⟩, HK2.out⟩
set_option maxRecDepth 100000 in
set_option maxHeartbeats 4000000 in
theorem show52 (N : Nat) : ∀ (n : Nat), n < N → ∀ (m : Nat) (D E : Nat → Prop) (ds es : List Dt) (va vb : Value) (w : World), PartsD n ds → PartsD m es → Rd w D (.sl 6 ds) va → Rd w E (.sl 6 es) vb →
    Calls Tryz.prog 52 #[va, vb] w (SamePost w (ds = es)) := by
  induction N with
  | zero => intro n hn; omega
  | succ N ih =>
    intro n hn m D E ds es va vb w hds hes ha hb
    obtain ⟨xs, rfl, hxs⟩ := hds.out
    obtain ⟨ys, rfl, hys⟩ := hes.out
    obtain ⟨aa, al, ac, rfl⟩ := rdSl (by decide) ha
    obtain ⟨ba, bl, bc, rfl⟩ := rdSl (by decide) hb
    rw [px_iff]
    have HE := Lib.hid (eqPart w D E xs ys aa ba al bl ac bc ha hb fun i hi hj W xa xl xc xa' xl' xc' hw hx hy =>
      part81 W xs[i] ys[i] xa xl xc xa' xl' xc' fun V hv =>
        ih (n - 1) (by have := (hxs _ (List.getElem_mem hi)).1; omega) (m - 1) D E _ _ _ _ V (hxs _ (List.getElem_mem hi)).2 (hys _ (List.getElem_mem hj)).2 (rdKeep0 hx hv) (rdKeep0 hy hv))
    clear ih ha hb hxs hys hds hes
    go_enter Tryz.func52, Tryz.ntmps52
    go_wp2_with fail
    refine HE.out.mono ?_
    rintro e w2 ⟨r, rfl, hr, hk2⟩
    have HK2 := Lib.hid hk2
    have HR := Lib.hid hr
    clear hr hk2
    go_wp2_with fail
    go_ret
    exact ⟨r, rfl, HR.out, HK2.out⟩
theorem showPx (n m : Nat) (D E : Nat → Prop) (ds es : List Dt) (va vb : Value) (w : World) (hds : PartsD n ds) (hes : PartsD m es) (ha : Rd w D (.sl 6 ds) va) (hb : Rd w E (.sl 6 es) vb) :
    Calls Tryz.prog 52 #[va, vb] w (SamePost w (ds = es)) := show52 (n + 1) n (Nat.lt_succ_self _) m D E ds es va vb w hds hes ha hb
set_option maxRecDepth 100000 in
set_option maxHeartbeats 4000000 in
theorem pair1 (n m : Nat) (D E : Nat → Prop) (w : World) (x y : Bs × List Dt) (hx : PartsD n x.2) (hy : PartsD m y.2) (xa : Option Addr) (xl xc : Nat) (xa' : Option Addr) (xl' xc' : Nat) (ha : Rd w D (.sl 6 x.2) (.slice xa xl xc)) (hb : Rd w E (.sl 6 y.2) (.slice xa' xl' xc')) :
    Calls Tryz.prog 54 #[.agg #[.string ⟨x.1.toArray⟩, .slice xa xl xc], .agg #[.string ⟨y.1.toArray⟩, .slice xa' xl' xc']] w (SamePost w (x = y)) := by
  have HC := Lib.hid (fun W (h : Keeps (fun _ => False) w W) => showPx n m D E x.2 y.2 _ _ W hx hy (rdKeep0 ha h) (rdKeep0 hb h))
  clear hx hy ha hb
  cases t1 : (x.1 == y.1) with
  | false =>
    have C1 := Lib.hid (ne_of_beq_false t1)
    go_enter Tryz.func54, Tryz.ntmps54
    go_wp2_with fail
    go_ret
    exact ⟨false, rfl, ⟨fun h => (by cases h), fun h => absurd (by rw [h]) C1.out⟩, ((Keeps.refl _ _).alloc _).alloc _⟩
  | true =>
  have C1 := Lib.hid (eq_of_beq t1)
  go_enter Tryz.func54, Tryz.ntmps54
  go_wp2_with fail
  refine (HC.out _ (((Keeps.refl _ _).alloc _).alloc _)).mono ?_
  rintro e w2 ⟨r, rfl, hr, hk2⟩
  have HK2 := Lib.hid ((((Keeps.refl (fun _ => False) w).alloc _).alloc _).trans hk2 (fun _ _ h => h))
  have HR := Lib.hid hr
  clear hr hk2
  go_wp2_with fail
  go_ret
  exact ⟨r, rfl, ⟨fun h => Prod.ext C1.out (HR.out.1 h), fun h => HR.out.2 (by rw [h])⟩, HK2.out⟩
set_option maxRecDepth 100000 in
set_option maxHeartbeats 4000000 in
theorem pair2 (n m : Nat) (D E : Nat → Prop) (w : World) (x y : Bs × List Dt) (hx : PartsD n x.2) (hy : PartsD m y.2) (xa : Option Addr) (xl xc : Nat) (xa' : Option Addr) (xl' xc' : Nat) (ha : Rd w D (.sl 6 x.2) (.slice xa xl xc)) (hb : Rd w E (.sl 6 y.2) (.slice xa' xl' xc')) :
    Calls Tryz.prog 56 #[.agg #[.string ⟨x.1.toArray⟩, .slice xa xl xc], .agg #[.string ⟨y.1.toArray⟩, .slice xa' xl' xc']] w (SamePost w (x = y)) := by
  have HC := Lib.hid (fun W (h : Keeps (fun _ => False) w W) => showPx n m D E x.2 y.2 _ _ W hx hy (rdKeep0 ha h) (rdKeep0 hb h))
  clear hx hy ha hb
  cases t1 : (x.1 == y.1) with
  | false =>
    have C1 := Lib.hid (ne_of_beq_false t1)
    go_enter Tryz.func56, Tryz.ntmps56
    go_wp2_with fail
    go_ret
    exact ⟨false, rfl, ⟨fun h => (by cases h), fun h => absurd (by rw [h]) C1.out⟩, ((Keeps.refl _ _).alloc _).alloc _⟩
  | true =>
  have C1 := Lib.hid (eq_of_beq t1)
  go_enter Tryz.func56, Tryz.ntmps56
  go_wp2_with fail
  refine (HC.out _ (((Keeps.refl _ _).alloc _).alloc _)).mono ?_
  rintro e w2 ⟨r, rfl, hr, hk2⟩
  have HK2 := Lib.hid ((((Keeps.refl (fun _ => False) w).alloc _).alloc _).trans hk2 (fun _ _ h => h))
  have HR := Lib.hid hr
  clear hr hk2
  go_wp2_with fail
  go_ret
  exact ⟨r, rfl, ⟨fun h => Prod.ext C1.out (HR.out.1 h), fun h => HR.out.2 (by rw [h])⟩, HK2.out⟩
def ShowOK (N : Nat) : Prop := ∀ (n m : Nat), n < N → ∀ (w : World) (D E : Nat → Prop) (ds es : List Dt) (aa ba : Option Addr) (an ac bn bc : Nat), NodesD n ds → NodesD m es → Rd w D (.sl 8 ds) (.slice aa an ac) → Rd w E (.sl 8 es) (.slice ba bn bc) →
  Calls Tryz.prog 15 #[.slice aa an ac, .slice ba bn bc] w (SamePost w (ds = es))
theorem words51 (n m : Nat) (D E : Nat → Prop) (w : World) (xs ys : List (List Dt)) (hx : ∀ v ∈ xs, PartsD n v) (hy : ∀ v ∈ ys, PartsD m v) (A B : Option Addr) (L M C C' : Nat) (ha : Rd w D (.sl 1 (xs.flatMap wdD)) (.slice A L C)) (hb : Rd w E (.sl 1 (ys.flatMap wdD)) (.slice B M C')) :
    Calls Tryz.prog 51 #[.slice A L C, .slice B M C', .func (.func 52) #[] #[]] w (SamePost w (xs = ys)) :=
  eqWord w D E xs ys A B L M C C' ha hb fun i hi hj W xa xl xc xa' xl' xc' hw h1 h2 => showPx n m D E xs[i] ys[i] _ _ W (hx _ (List.getElem_mem hi)) (hy _ (List.getElem_mem hj)) h1 h2
set_option maxRecDepth 100000 in
set_option maxHeartbeats 4000000 in
theorem arm58 (N n m : Nat) (hn : n < N) (hs : ShowOK N) (D E : Nat → Prop) (w : World) (x y : List (List Dt) × List Dt) (hx : (∀ v ∈ x.1, PartsD n v) ∧ NodesD n x.2) (hy : (∀ v ∈ y.1, PartsD m v) ∧ NodesD m y.2) (pa : Option Addr) (pn pc : Nat) (xa : Option Addr) (xl xc : Nat) (pa' : Option Addr) (pn' pc' : Nat) (xa' : Option Addr) (xl' xc' : Nat)
    (ha : Rd w D (.sl 1 (x.1.flatMap wdD)) (.slice pa pn pc)) (ha2 : Rd w D (.sl 8 x.2) (.slice xa xl xc)) (hb : Rd w E (.sl 1 (y.1.flatMap wdD)) (.slice pa' pn' pc')) (hb2 : Rd w E (.sl 8 y.2) (.slice xa' xl' xc')) :
    Calls Tryz.prog 58 #[.agg #[.slice pa pn pc, .slice xa xl xc], .agg #[.slice pa' pn' pc', .slice xa' xl' xc']] w (SamePost w (x = y)) := by
  have HC := Lib.hid (fun W (h : Keeps (fun _ => False) w W) => words51 n m D E W x.1 y.1 hx.1 hy.1 _ _ _ _ _ _ (rdKeep0 ha h) (rdKeep0 hb h))
  have HD := Lib.hid (fun W (h : Keeps (fun _ => False) w W) => hs n m hn W D E x.2 y.2 _ _ _ _ _ _ hx.2 hy.2 (rdKeep0 ha2 h) (rdKeep0 hb2 h))
  clear hx hy ha hb ha2 hb2 hs
  go_enter Tryz.func58, Tryz.ntmps58
  go_wp2_with fail
  refine (HC.out _ (((Keeps.refl _ _).alloc _).alloc _)).mono ?_
  rintro e w2 ⟨r, rfl, hr, hk2⟩
  have HK2 := Lib.hid ((((Keeps.refl (fun _ => False) w).alloc _).alloc _).trans hk2 (fun _ _ h => h))
  cases r with
  | false =>
    have HR := Lib.hid (show x.1 ≠ y.1 from fun h => by have := hr.2 h; cases this)
    clear hr hk2
    go_wp2_with fail
    go_ret
    exact ⟨false, rfl, ⟨fun h => (by cases h), fun h => absurd (by rw [h]) HR.out⟩, HK2.out⟩
  | true =>
    have HR := Lib.hid (hr.1 rfl)
    obtain ⟨x0, x1, y0, y1, l0, l1⟩ : w2.cell? ⟨w.heap.size, 0, none⟩ = some (.slice pa pn pc) ∧ w2.cell? ⟨w.heap.size, 1, none⟩ = some (.slice xa xl xc) ∧ w2.cell? ⟨w.heap.size + 1, 0, none⟩ = some (.slice pa' pn' pc') ∧ w2.cell? ⟨w.heap.size + 1, 1, none⟩ = some (.slice xa' xl' xc') ∧ w.heap.size < w2.heap.size ∧ w.heap.size + 1 < w2.heap.size := by
      obtain ⟨W, hW⟩ : ∃ W, W = (w.alloc (.cells #[.slice pa pn pc, .slice xa xl xc] 49)).alloc (.cells #[.slice pa' pn' pc', .slice xa' xl' xc'] 49) := ⟨_, rfl⟩
      rw [← hW] at hk2
      have hs1 : (w.alloc (.cells #[.slice pa pn pc, .slice xa xl xc] 49)).heap.size = w.heap.size + 1 := by simp
      have hs2 : W.heap.size = w.heap.size + 2 := by rw [hW]; simp
      have b1 : W.heap[w.heap.size]? = some (.cells #[.slice pa pn pc, .slice xa xl xc] 49 (0, 0)) := by
        rw [hW]; exact (heap_alloc_old _ _ (by rw [hs1]; omega)).trans (heap_alloc_new w _)
      have b2 : W.heap[w.heap.size + 1]? = some (.cells #[.slice pa' pn' pc', .slice xa' xl' xc'] 49 (0, 0)) := by
        rw [hW, ← hs1]; exact heap_alloc_new _ _
      have c1 := (hk2.block w.heap.size (by omega) (fun h => h)).trans b1
      have c2 := (hk2.block (w.heap.size + 1) (by omega) (fun h => h)).trans b2
      have := hk2.size
      exact ⟨by simp [World.cell?, c1], by simp [World.cell?, c1], by simp [World.cell?, c2], by simp [World.cell?, c2], by omega, by omega⟩
    clear hr hk2
    go_wp2_with fail
    refine (HD.out _ HK2.out).mono ?_
    rintro e w3 ⟨r, rfl, hr, hk3⟩
    have HK3 := Lib.hid (HK2.out.trans hk3 (fun _ _ h => h))
    have HR2 := Lib.hid hr
    clear hr hk3
    go_wp2_with fail
    go_ret
    exact ⟨r, rfl, ⟨fun h => Prod.ext HR.out (HR2.out.1 h), fun h => HR2.out.2 (by rw [h])⟩, HK3.out⟩
set_option maxRecDepth 100000 in
set_option maxHeartbeats 4000000 in
theorem node30 (N n m : Nat) (hn : n < N) (hs : ShowOK N) (D E : Nat → Prop) (w : World) (x y : Ny) (hx : NyOK n x) (hy : NyOK m y) (wa : Option Addr) (wl wc : Nat) (ga : Option Addr) (gl gc : Nat) (ra : Option Addr) (rl rcp : Nat) (ka : Option Addr) (kl kc : Nat) (aa : Option Addr) (al ac : Nat) (wa' : Option Addr) (wl' wc' : Nat) (ga' : Option Addr) (gl' gc' : Nat) (ra' : Option Addr) (rl' rcp' : Nat) (ka' : Option Addr) (kl' kc' : Nat) (aa' : Option Addr) (al' ac' : Nat)
    (ha : NyR w D x wa wl wc ga gl gc ra rl rcp ka kl kc aa al ac) (hb : NyR w E y wa' wl' wc' ga' gl' gc' ra' rl' rcp' ka' kl' kc' aa' al' ac') :
    Calls Tryz.prog 30 #[.agg #[.int .i64 x.kind, .bool x.nt, .string ⟨x.nm.toArray⟩, .slice wa wl wc, .slice ga gl gc, .slice ra rl rcp, .slice ka kl kc, .slice aa al ac], .agg #[.int .i64 y.kind, .bool y.nt, .string ⟨y.nm.toArray⟩, .slice wa' wl' wc', .slice ga' gl' gc', .slice ra' rl' rcp', .slice ka' kl' kc', .slice aa' al' ac']] w (SamePost w (x = y)) := by
  have H3 := Lib.hid (fun W (h : Keeps (fun _ => False) w W) => words51 n m D E W x.ws y.ws hx.1 hy.1 _ _ _ _ _ _ (rdKeep0 ha.ws h) (rdKeep0 hb.ws h))
  have H4 := Lib.hid (fun W (h : Keeps (fun _ => False) w W) => eqAssign W D E x.gs y.gs _ _ _ _ _ _ (rdKeep0 ha.gs h) (rdKeep0 hb.gs h) fun i hi hj V xa xl xc xa' xl' xc' hw h1 h2 => pair1 n m D E V x.gs[i] y.gs[i] (hx.2.1 _ (List.getElem_mem hi)) (hy.2.1 _ (List.getElem_mem hj)) _ _ _ _ _ _ h1 h2)
  have H5 := Lib.hid (fun W (h : Keeps (fun _ => False) w W) => eqRedir W D E x.rs y.rs _ _ _ _ _ _ (rdKeep0 ha.rs h) (rdKeep0 hb.rs h) fun i hi hj V xa xl xc xa' xl' xc' hw h1 h2 => pair2 n m D E V x.rs[i] y.rs[i] (hx.2.2.1 _ (List.getElem_mem hi)) (hy.2.2.1 _ (List.getElem_mem hj)) _ _ _ _ _ _ h1 h2)
  have H6 := Lib.hid (fun W (h : Keeps (fun _ => False) w W) => eqArm W D E x.ar y.ar _ _ _ _ _ _ (rdKeep0 ha.ar h) (rdKeep0 hb.ar h) fun i hi hj V pa pn pc xa xl xc pa' pn' pc' xa' xl' xc' hw h1 h2 h3 h4 => arm58 N n m hn hs D E V x.ar[i] y.ar[i] (hx.2.2.2.2 _ (List.getElem_mem hi)) (hy.2.2.2.2 _ (List.getElem_mem hj)) _ _ _ _ _ _ _ _ _ _ _ _ h1 h2 h3 h4)
  have H7 := Lib.hid (fun W (h : Keeps (fun _ => False) w W) => hs n m hn W D E x.ks y.ks _ _ _ _ _ _ hx.2.2.2.1 hy.2.2.2.1 (rdKeep0 ha.ks h) (rdKeep0 hb.ks h))
  obtain ⟨kx, hkx⟩ : ∃ l, l = x.kind := ⟨_, rfl⟩
  obtain ⟨tx, htx⟩ : ∃ l, l = x.nt := ⟨_, rfl⟩
  obtain ⟨ky, hky⟩ : ∃ l, l = y.kind := ⟨_, rfl⟩
  obtain ⟨ty, hty⟩ : ∃ l, l = y.nt := ⟨_, rfl⟩
  rw [← hkx, ← htx, ← hky, ← hty]
  clear ha hb hx hy hs
  obtain ⟨W, hW⟩ : ∃ W, W = ((w.alloc (.cells #[.int .i64 kx, .bool tx, .string ⟨x.nm.toArray⟩, .slice wa wl wc, .slice ga gl gc, .slice ra rl rcp, .slice ka kl kc, .slice aa al ac] 44)).alloc (.cells #[.int .i64 ky, .bool ty, .string ⟨y.nm.toArray⟩, .slice wa' wl' wc', .slice ga' gl' gc', .slice ra' rl' rcp', .slice ka' kl' kc', .slice aa' al' ac'] 44)) := ⟨_, rfl⟩
  have hkW : Keeps (fun _ => False) w W := by rw [hW]; exact ((Keeps.refl _ _).alloc _).alloc _
  have hR1 : RecAt W w.heap.size [.int .i64 kx, .bool tx, .string ⟨x.nm.toArray⟩, .slice wa wl wc, .slice ga gl gc, .slice ra rl rcp, .slice ka kl kc, .slice aa al ac] := by
    rw [hW]; exact (new_rec8 w _ _ _ _ _ _ _ _ _).keep (S := fun _ => False) ((Keeps.refl _ _).alloc _) (fun h => h)
  have hR2 : RecAt W (w.heap.size + 1) [.int .i64 ky, .bool ty, .string ⟨y.nm.toArray⟩, .slice wa' wl' wc', .slice ga' gl' gc', .slice ra' rl' rcp', .slice ka' kl' kc', .slice aa' al' ac'] := by
    rw [hW]
    have h := new_rec8 (w.alloc (.cells #[.int .i64 kx, .bool tx, .string ⟨x.nm.toArray⟩, .slice wa wl wc, .slice ga gl gc, .slice ra rl rcp, .slice ka kl kc, .slice aa al ac] 44)) (.int .i64 ky) (.bool ty) (.string ⟨y.nm.toArray⟩) (.slice wa' wl' wc') (.slice ga' gl' gc') (.slice ra' rl' rcp') (.slice ka' kl' kc') (.slice aa' al' ac') 44
    rw [show (w.alloc (.cells #[.int .i64 kx, .bool tx, .string ⟨x.nm.toArray⟩, .slice wa wl wc, .slice ga gl gc, .slice ra rl rcp, .slice ka kl kc, .slice aa al ac] 44)).heap.size = w.heap.size + 1 by simp] at h
    exact h
  have HR1 := Lib.hid hR1
  have HR2 := Lib.hid hR2
  have HKW := Lib.hid hkW
  have HWE := Lib.hid hW
  clear hW hR1 hR2 hkW
  by_cases c0 : kx = ky
  rotate_left
  · have t0 : (kx == ky) = false := by rw [beq_eq_false_iff_ne]; exact c0
    have C0 := Lib.hid (show x.kind ≠ y.kind by rw [← hkx, ← hky]; exact c0)
    clear c0 hkx hky htx hty
    go_enter Tryz.func30, Tryz.ntmps30
    go_wp2_with fail
    go_ret
    exact ⟨false, rfl, ⟨fun h => (by cases h), fun h => absurd (by rw [h]) C0.out⟩, by rw [HWE.out] at HKW; exact HKW.out⟩
  have C0 := Lib.hid (hkx.symm.trans (c0.trans hky))
  have t0 : (ky == ky) = true := by simp
  clear hkx hky
  subst c0
  by_cases c1 : tx = ty
  rotate_left
  · have C1 := Lib.hid (show x.nt ≠ y.nt by rw [← htx, ← hty]; exact c1)
    clear htx hty
    cases tx <;> cases ty
    · exact absurd rfl c1
    · clear c1
      go_enter Tryz.func30, Tryz.ntmps30
      go_wp2_with fail
      go_ret
      exact ⟨false, rfl, ⟨fun h => (by cases h), fun h => absurd (by rw [h]) C1.out⟩, by rw [HWE.out] at HKW; exact HKW.out⟩
    · clear c1
      go_enter Tryz.func30, Tryz.ntmps30
      go_wp2_with fail
      go_ret
      exact ⟨false, rfl, ⟨fun h => (by cases h), fun h => absurd (by rw [h]) C1.out⟩, by rw [HWE.out] at HKW; exact HKW.out⟩
    · exact absurd rfl c1
  have C1 := Lib.hid (htx.symm.trans (c1.trans hty))
  clear htx hty
  subst c1
  have t1 : (tx == tx) = true := by simp
  cases t2 : (x.nm == y.nm) with
  | false =>
    have C2 := Lib.hid (ne_of_beq_false t2)
    go_enter Tryz.func30, Tryz.ntmps30
    go_wp2_with fail
    go_ret
    exact ⟨false, rfl, ⟨fun h => (by cases h), fun h => absurd (by rw [h]) C2.out⟩, by rw [HWE.out] at HKW; exact HKW.out⟩
  | true =>
  have C2 := Lib.hid (eq_of_beq t2)
  go_enter Tryz.func30, Tryz.ntmps30
  go_wp2_with fail
  rw [← HWE.out]
  have HK := Lib.hid (Keeps.refl (fun _ => False) W)
  refine (H3.out W (HKW.out.trans HK.out (fun _ _ h => h))).mono ?_
  rintro e w3 ⟨r, rfl, hr, hk⟩
  replace HK := Lib.hid (HK.out.trans hk (fun _ _ h => h))
  obtain ⟨⟨x0, x1, x2, x3, x4, x5, x6, x7⟩, _⟩ := (HR1.out.keep HK.out (fun h => h)).eight
  obtain ⟨⟨y0, y1, y2, y3, y4, y5, y6, y7⟩, _⟩ := (HR2.out.keep HK.out (fun h => h)).eight
  have lx := (HR1.out.keep HK.out (fun h => h)).lt
  have ly := (HR2.out.keep HK.out (fun h => h)).lt
  cases r with
  | false =>
    have C3 := Lib.hid (show x.ws ≠ y.ws from fun h => by have := hr.2 h; cases this)
    clear hr hk
    go_wp2_with fail
    go_ret
    exact ⟨false, rfl, ⟨fun h => (by cases h), fun h => absurd (by rw [h]) C3.out⟩, HKW.out.trans HK.out (fun _ _ h => h)⟩
  | true =>
  have C3 := Lib.hid (hr.1 rfl)
  clear hr hk
  go_wp2_with fail
  clear x0 x1 x2 x3 x4 x5 x6 x7 y0 y1 y2 y3 y4 y5 y6 y7 lx ly
  refine (H4.out w3 (HKW.out.trans HK.out (fun _ _ h => h))).mono ?_
  rintro e w4 ⟨r, rfl, hr, hk⟩
  replace HK := Lib.hid (HK.out.trans hk (fun _ _ h => h))
  obtain ⟨⟨x0, x1, x2, x3, x4, x5, x6, x7⟩, _⟩ := (HR1.out.keep HK.out (fun h => h)).eight
  obtain ⟨⟨y0, y1, y2, y3, y4, y5, y6, y7⟩, _⟩ := (HR2.out.keep HK.out (fun h => h)).eight
  have lx := (HR1.out.keep HK.out (fun h => h)).lt
  have ly := (HR2.out.keep HK.out (fun h => h)).lt
  cases r with
  | false =>
    have C4 := Lib.hid (show x.gs ≠ y.gs from fun h => by have := hr.2 h; cases this)
    clear hr hk
    go_wp2_with fail
    go_ret
    exact ⟨false, rfl, ⟨fun h => (by cases h), fun h => absurd (by rw [h]) C4.out⟩, HKW.out.trans HK.out (fun _ _ h => h)⟩
  | true =>
  have C4 := Lib.hid (hr.1 rfl)
  clear hr hk
  go_wp2_with fail
  clear x0 x1 x2 x3 x4 x5 x6 x7 y0 y1 y2 y3 y4 y5 y6 y7 lx ly
  refine (H5.out w4 (HKW.out.trans HK.out (fun _ _ h => h))).mono ?_
  rintro e w5 ⟨r, rfl, hr, hk⟩
  replace HK := Lib.hid (HK.out.trans hk (fun _ _ h => h))
  obtain ⟨⟨x0, x1, x2, x3, x4, x5, x6, x7⟩, _⟩ := (HR1.out.keep HK.out (fun h => h)).eight
  obtain ⟨⟨y0, y1, y2, y3, y4, y5, y6, y7⟩, _⟩ := (HR2.out.keep HK.out (fun h => h)).eight
  have lx := (HR1.out.keep HK.out (fun h => h)).lt
  have ly := (HR2.out.keep HK.out (fun h => h)).lt
  cases r with
  | false =>
    have C5 := Lib.hid (show x.rs ≠ y.rs from fun h => by have := hr.2 h; cases this)
    clear hr hk
    go_wp2_with fail
    go_ret
    exact ⟨false, rfl, ⟨fun h => (by cases h), fun h => absurd (by rw [h]) C5.out⟩, HKW.out.trans HK.out (fun _ _ h => h)⟩
  | true =>
  have C5 := Lib.hid (hr.1 rfl)
  clear hr hk
  go_wp2_with fail
  clear x0 x1 x2 x3 x4 x5 x6 x7 y0 y1 y2 y3 y4 y5 y6 y7 lx ly
  refine (H6.out w5 (HKW.out.trans HK.out (fun _ _ h => h))).mono ?_
  rintro e w6 ⟨r, rfl, hr, hk⟩
  replace HK := Lib.hid (HK.out.trans hk (fun _ _ h => h))
  obtain ⟨⟨x0, x1, x2, x3, x4, x5, x6, x7⟩, _⟩ := (HR1.out.keep HK.out (fun h => h)).eight
  obtain ⟨⟨y0, y1, y2, y3, y4, y5, y6, y7⟩, _⟩ := (HR2.out.keep HK.out (fun h => h)).eight
  have lx := (HR1.out.keep HK.out (fun h => h)).lt
  have ly := (HR2.out.keep HK.out (fun h => h)).lt
  cases r with
  | false =>
    have C6 := Lib.hid (show x.ar ≠ y.ar from fun h => by have := hr.2 h; cases this)
    clear hr hk
    go_wp2_with fail
    go_ret
    exact ⟨false, rfl, ⟨fun h => (by cases h), fun h => absurd (by rw [h]) C6.out⟩, HKW.out.trans HK.out (fun _ _ h => h)⟩
  | true =>
  have C6 := Lib.hid (hr.1 rfl)
  clear hr hk
  go_wp2_with fail
  clear x0 x1 x2 x3 x4 x5 x6 x7 y0 y1 y2 y3 y4 y5 y6 y7 lx ly
  refine (H7.out w6 (HKW.out.trans HK.out (fun _ _ h => h))).mono ?_
  rintro e w7 ⟨r, rfl, hr, hk⟩
  replace HK := Lib.hid (HK.out.trans hk (fun _ _ h => h))
  have HR := Lib.hid hr
  clear hr hk
  go_wp2_with fail
  go_ret
  exact ⟨r, rfl, ⟨fun h => Ny.ext' C0.out C1.out C2.out C3.out C4.out C5.out (HR.out.1 h) C6.out, fun h => HR.out.2 (by rw [h])⟩, HKW.out.trans HK.out (fun _ _ h => h)⟩
set_option maxRecDepth 100000 in
set_option maxHeartbeats 4000000 in
theorem show_all : ∀ N, ShowOK N := by
  intro N
  induction N with
  | zero => intro n m hn; omega
  | succ N ih =>
    intro n m hn w D E ds es aa ba an ac bn bc hds hes ha hb
    obtain ⟨xs, rfl, hxs⟩ := hds.out
    obtain ⟨ys, rfl, hys⟩ := hes.out
    rw [ny_iff]
    have HE := Lib.hid (eqNode w D E xs ys aa ba an bn ac bc ha hb fun i hi hj W wa wl wc ga gl gc ra rl rcp ka kl kc aa al ac wa' wl' wc' ga' gl' gc' ra' rl' rcp' ka' kl' kc' aa' al' ac' hw hx hy =>
      node30 N (n - 1) (m - 1) (by have := (hxs _ (List.getElem_mem hi)).1; omega) ih D E W xs[i] ys[i] (hxs _ (List.getElem_mem hi)).2 (hys _ (List.getElem_mem hj)).2 _ _ _ _ _ _ _ _ _ _ _ _ _ _ _ _ _ _ _ _ _ _ _ _ _ _ _ _ _ _ hx hy)
    clear ih ha hb hxs hys hds hes
    go_enter Tryz.func15, Tryz.ntmps15
    go_wp2_with fail
    refine HE.out.mono ?_
    rintro e w2 ⟨r, rfl, hr, hk2⟩
    have HK2 := Lib.hid hk2
    have HR := Lib.hid hr
    clear hr hk2
    go_wp2_with fail
    go_ret
    exact ⟨r, rfl, HR.out, HK2.out⟩
end Go.Proofs.YtiihpbccabeoeaaGreatDoor
