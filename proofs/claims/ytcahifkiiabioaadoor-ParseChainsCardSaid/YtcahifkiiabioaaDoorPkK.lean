/-
  Commands as data; what a tree in memory is, read again.
  The same commands are the same.
  Plain: assignments, redirections and words of a simple command.
  A simple command that a law makes: three slices that grow.
  Plain: and, or, pipelines, from the left on.
-/
import Derived.Test.YtcahifkiiabioaaDoorPkJ
import Derived.StillTailTactics
import Derived.Test.YtcahifkiiabioaaDoorPkH
namespace Go.Proofs.YtcahifkiiabioaaDoor
open Go.RowKit
set_option linter.unusedVariables false

theorem size_word {l : List Pt} {p : Pt} (h : p ∈ l) : SizeOf.sizeOf p.word < SizeOf.sizeOf l := by
  have h1 := List.sizeOf_lt_of_mem h
  cases p with
  | mk k t n o w q =>
    simp only [Pt.mk.sizeOf_spec] at h1
    show SizeOf.sizeOf w < _
    omega
theorem pts_of_rd {w : World} {D : Nat → Prop} : ∀ (N : Nat) (l : List Pt) (v : Value), SizeOf.sizeOf l ≤ N → Rd w D (wordR l) v → PtsAt w D N l v
  | N, [], v, _, h => by
    obtain ⟨a, m, c, rfl, hl, _, hc⟩ := Rd.shape (k := 6) (by decide) h
    rw [partsR_nil] at hl
    obtain rfl : m = 0 := by have : (0 : Nat) = m * 6 := hl; omega
    exact PtsAt.le (n := 0) ⟨rfl, a, c, rfl, hc⟩ (Nat.zero_le _)
  | 0, p0 :: t, v, hN, h => by simp at hN
  | N + 1, p0 :: t, v, hN, h => by
    have h' : Rd w D (.sl 6 (partsR (p0 :: t))) v := h
    obtain ⟨a, m, c, rfl, hl, hmc, hc⟩ := h'.shape (by decide)
    rw [partsR_len] at hl
    obtain rfl : m = (p0 :: t).length := by omega
    obtain ⟨b, off, rfl, hb, hd, hF⟩ := h'.base (by rw [partsR_len]; simp)
    refine ⟨_, c, rfl, hmc, hc, fun i hi => ?_⟩
    have key : ∀ j, j < 6 → ∃ u, w.cell? ⟨b, off + i * 6 + j, none⟩ = some u ∧ ∀ d, (partR (p0 :: t)[i])[j]? = some d → Rd w D d u := fun j hj => by
      have hj2 : i * 6 + j < (partsR (p0 :: t)).length := by rw [partsR_len]; omega
      obtain ⟨u, h1, h2⟩ := hF (i * 6 + j) hj2
      refine ⟨u, by rw [show off + i * 6 + j = off + (i * 6 + j) by omega]; exact h1, fun d hd2 => ?_⟩
      rw [← partsR_at hi hj, List.getElem?_eq_getElem hj2] at hd2
      rw [← Option.some.inj hd2]
      exact h2
    have hsz := size_word (List.getElem_mem hi)
    generalize (p0 :: t)[i] = p at *
    rw [partR_eq] at key
    obtain ⟨u0, c0, r0⟩ := key 0 (by decide)
    obtain ⟨u1, c1, r1⟩ := key 1 (by decide)
    obtain ⟨u2, c2, r2⟩ := key 2 (by decide)
    obtain ⟨u3, c3, r3⟩ := key 3 (by decide)
    obtain ⟨u4, c4, r4⟩ := key 4 (by decide)
    obtain ⟨u5, c5, r5⟩ := key 5 (by decide)
    obtain rfl := (r0 _ rfl).int_v
    obtain rfl := (r1 _ rfl).str_v
    obtain rfl := (r2 _ rfl).str_v
    obtain rfl := (r3 _ rfl).str_v
    have r5' := r5 _ rfl
    cases r5'
    refine ⟨b, off, u4, rfl, hb, hd, fun j u hu => ?_, pts_of_rd N p.word u4 (by omega) (r4 _ rfl)⟩
    have h6 : j = 0 ∨ j = 1 ∨ j = 2 ∨ j = 3 ∨ j = 4 ∨ j = 5 := by
      have : j < 6 := by
        rcases Nat.lt_or_ge j 6 with h | h
        · exact h
        · rw [List.getElem?_eq_none (by rw [cellsP_len]; exact h)] at hu; cases hu
      omega
    rcases h6 with rfl | rfl | rfl | rfl | rfl | rfl
    all_goals (obtain rfl := Option.some.inj hu; assumption)
/-- A command as data. -/
structure Nx where
  kind : Nat
  nt : Bool
  nm : List UInt8
  ws : List (List Pt)
  gs : List (List UInt8 × List Pt)
  rs : List (List UInt8 × List Pt)
  ks : List Dt
  ar : List (List (List Pt) × List Dt)
def pairR (g : List UInt8 × List Pt) : List Dt := [.str g.1, wordR g.2]
def armR (a : List (List Pt) × List Dt) : List Dt := [.sl 1 (a.1.map wordR), .sl 8 a.2]
def Nx.row (x : Nx) : List Dt := ndR x.kind x.nt x.nm (x.ws.map wordR) (x.gs.flatMap pairR) (x.rs.flatMap pairR) x.ks (x.ar.flatMap armR)
/-- Commands, so deep. -/
def GoodN : Nat → List Dt → Prop
  | 0, ds => ds = []
  | n + 1, ds => ∃ xs : List Nx, ds = xs.flatMap Nx.row ∧ ∀ x ∈ xs, GoodN n x.ks ∧ ∀ a ∈ x.ar, GoodN n a.2
theorem flat_length {α : Type} {f : α → List Dt} {k : Nat} (hf : ∀ a, (f a).length = k) : ∀ xs : List α, (xs.flatMap f).length = xs.length * k
  | [] => by simp
  | x :: t => by rw [List.flatMap_cons, List.length_append, hf, flat_length hf t, List.length_cons]; rw [Nat.succ_mul]; omega
theorem flat_at {α : Type} {f : α → List Dt} {k : Nat} (hf : ∀ a, (f a).length = k) : ∀ {xs : List α} {i : Nat} (hi : i < xs.length) {j : Nat} (hj : j < k), (xs.flatMap f)[i * k + j]? = (f xs[i])[j]?
  | x :: t, 0, hi, j, hj => by
    rw [List.flatMap_cons, Nat.zero_mul, Nat.zero_add, List.getElem?_append_left (by rw [hf]; exact hj)]; rfl
  | x :: t, i + 1, hi, j, hj => by
    rw [List.flatMap_cons, List.getElem?_append_right (by rw [hf, Nat.succ_mul]; omega), hf, show (i + 1) * k + j - k = i * k + j by rw [Nat.succ_mul]; omega]
    exact flat_at hf (xs := t) (by simpa using hi) hj
/-- The records of a slice. -/
theorem Rd.recs {α : Type} {f : α → List Dt} {k : Nat} (hf : ∀ a, (f a).length = k) (hk : 0 < k) {w : World} {D : Nat → Prop} {xs : List α} {a : Option Addr} {m c : Nat} (h : Rd w D (.sl k (xs.flatMap f)) (.slice a m c)) :
    m = xs.length ∧ ∀ i (hi : i < xs.length), ∃ b off, a = some ⟨b, off, none⟩ ∧ b < w.heap.size ∧ D b ∧ ∀ j, j < k → ∃ u, w.cell? ⟨b, off + i * k + j, none⟩ = some u ∧ ∀ d, (f xs[i])[j]? = some d → Rd w D d u := by
  obtain ⟨a', m', c', e, hl, _, _⟩ := h.shape hk
  injection e with e1 e2 e3
  subst e1 e2 e3
  rw [flat_length hf] at hl
  refine ⟨(Nat.eq_of_mul_eq_mul_right hk hl).symm, fun i hi => ?_⟩
  have hpos : i * k + k ≤ xs.length * k := by rw [← Nat.succ_mul]; exact Nat.mul_le_mul_right _ hi
  obtain ⟨b, off, rfl, hb, hd, hF⟩ := h.base (by rw [flat_length hf]; omega)
  refine ⟨b, off, rfl, hb, hd, fun j hj => ?_⟩
  have hj2 : i * k + j < (xs.flatMap f).length := by rw [flat_length hf]; omega
  obtain ⟨u, h1, h2⟩ := hF (i * k + j) hj2
  refine ⟨u, by rw [Nat.add_assoc]; exact h1, fun d hd2 => ?_⟩
  rw [← flat_at hf hi hj, List.getElem?_eq_getElem hj2] at hd2
  rw [← Option.some.inj hd2]
  exact h2
theorem flat_one {α : Type} (f : α → Dt) : ∀ xs : List α, xs.map f = xs.flatMap fun x => [f x]
  | [] => rfl
  | x :: t => by rw [List.map_cons, List.flatMap_cons, flat_one f t]; rfl
theorem pts_rd {w : World} {D : Nat → Prop} {l : List Pt} {v : Value} (h : Rd w D (wordR l) v) : ∃ (n : Nat) (a : Option Addr) (c : Nat), v = .slice a l.length c ∧ PtsAt w D n l (.slice a l.length c) := by
  have hp := pts_of_rd (SizeOf.sizeOf l) l v (Nat.le_refl _) h
  obtain ⟨a, c, rfl, _, _⟩ := hp.shape
  exact ⟨_, a, c, rfl, hp⟩
section
variable {w : World} {D : Nat → Prop} {a : Option Addr} {m c : Nat}
theorem words_len {ws : List (List Pt)} (h : Rd w D (.sl 1 (ws.map wordR)) (.slice a m c)) : m = ws.length := by
  rw [flat_one] at h
  exact (Rd.recs (k := 1) (fun _ => rfl) (by decide) h).1
theorem words_at {ws : List (List Pt)} (h : Rd w D (.sl 1 (ws.map wordR)) (.slice a m c)) {i : Nat} (hi : i < ws.length) :
    ∃ (g o : Nat) (xa : Option Addr) (xc n : Nat), a = some ⟨g, o, none⟩ ∧ g < w.heap.size ∧ w.cell? ⟨g, o + i, none⟩ = some (.slice xa ws[i].length xc) ∧ PtsAt w D n ws[i] (.slice xa ws[i].length xc) := by
  rw [flat_one] at h
  obtain ⟨b, off, rfl, hb, _, hF⟩ := (Rd.recs (k := 1) (fun _ => rfl) (by decide) h).2 i hi
  obtain ⟨u, h1, h2⟩ := hF 0 (by decide)
  obtain ⟨n, xa, xc, rfl, hp⟩ := pts_rd (h2 _ rfl)
  exact ⟨b, off, xa, xc, n, rfl, hb, by rw [Nat.mul_one, Nat.add_zero] at h1; exact h1, hp⟩
theorem pairs_len {gs : List (List UInt8 × List Pt)} (h : Rd w D (.sl 2 (gs.flatMap pairR)) (.slice a m c)) : m = gs.length := (Rd.recs (k := 2) (fun _ => rfl) (by decide) h).1
theorem pairs_at {gs : List (List UInt8 × List Pt)} (h : Rd w D (.sl 2 (gs.flatMap pairR)) (.slice a m c)) {i : Nat} (hi : i < gs.length) :
    ∃ (g o : Nat) (xa : Option Addr) (xc n : Nat), a = some ⟨g, o, none⟩ ∧ g < w.heap.size ∧ w.cell? ⟨g, o + i * 2, none⟩ = some (.string ⟨gs[i].1.toArray⟩) ∧ w.cell? ⟨g, o + i * 2 + 1, none⟩ = some (.slice xa gs[i].2.length xc) ∧ PtsAt w D n gs[i].2 (.slice xa gs[i].2.length xc) := by
  obtain ⟨b, off, rfl, hb, _, hF⟩ := (Rd.recs (k := 2) (fun _ => rfl) (by decide) h).2 i hi
  obtain ⟨u0, c0, r0⟩ := hF 0 (by decide)
  obtain ⟨u1, c1, r1⟩ := hF 1 (by decide)
  obtain rfl := Rd.str_v (l := gs[i].1) (r0 _ rfl)
  obtain ⟨n, xa, xc, rfl, hp⟩ := pts_rd (r1 _ rfl)
  exact ⟨b, off, xa, xc, n, rfl, hb, c0, c1, hp⟩
theorem arms_len {ar : List (List (List Pt) × List Dt)} (h : Rd w D (.sl 2 (ar.flatMap armR)) (.slice a m c)) : m = ar.length := (Rd.recs (k := 2) (fun _ => rfl) (by decide) h).1
theorem arms_at {ar : List (List (List Pt) × List Dt)} (h : Rd w D (.sl 2 (ar.flatMap armR)) (.slice a m c)) {i : Nat} (hi : i < ar.length) :
    ∃ (g o : Nat) (pa : Option Addr) (pn pc : Nat) (ba : Option Addr) (bn bc : Nat), a = some ⟨g, o, none⟩ ∧ g < w.heap.size ∧ w.cell? ⟨g, o + i * 2, none⟩ = some (.slice pa pn pc) ∧ w.cell? ⟨g, o + i * 2 + 1, none⟩ = some (.slice ba bn bc) ∧ Rd w D (.sl 1 (ar[i].1.map wordR)) (.slice pa pn pc) ∧ Rd w D (.sl 8 ar[i].2) (.slice ba bn bc) := by
  obtain ⟨b, off, rfl, hb, _, hF⟩ := (Rd.recs (k := 2) (fun _ => rfl) (by decide) h).2 i hi
  obtain ⟨u0, c0, r0⟩ := hF 0 (by decide)
  obtain ⟨u1, c1, r1⟩ := hF 1 (by decide)
  have s0 := r0 _ rfl
  have s1 := r1 _ rfl
  obtain ⟨pa, pn, pc, rfl, _⟩ := s0.shape (by decide)
  obtain ⟨ba, bn, bc, rfl, _⟩ := s1.shape (by decide)
  exact ⟨b, off, pa, pn, pc, ba, bn, bc, rfl, hb, c0, c1, s0, s1⟩
theorem nodes_len {xs : List Nx} (h : Rd w D (.sl 8 (xs.flatMap Nx.row)) (.slice a m c)) : m = xs.length := (Rd.recs (k := 8) (fun _ => rfl) (by decide) h).1
/-- A command's eight values. -/
structure NdV (w : World) (D : Nat → Prop) (x : Nx) (wa : Option Addr) (wc : Nat) (ga : Option Addr) (gc : Nat) (ra : Option Addr) (rcp : Nat) (ka : Option Addr) (kn kc : Nat) (aa : Option Addr) (ac : Nat) : Prop where
  ws : Rd w D (.sl 1 (x.ws.map wordR)) (.slice wa x.ws.length wc)
  gs : Rd w D (.sl 2 (x.gs.flatMap pairR)) (.slice ga x.gs.length gc)
  rs : Rd w D (.sl 2 (x.rs.flatMap pairR)) (.slice ra x.rs.length rcp)
  ks : Rd w D (.sl 8 x.ks) (.slice ka kn kc)
  ar : Rd w D (.sl 2 (x.ar.flatMap armR)) (.slice aa x.ar.length ac)
theorem nodes_at {xs : List Nx} (h : Rd w D (.sl 8 (xs.flatMap Nx.row)) (.slice a m c)) {i : Nat} (hi : i < xs.length) :
    ∃ (g o : Nat) (wa : Option Addr) (wc : Nat) (ga : Option Addr) (gc : Nat) (ra : Option Addr) (rcp : Nat) (ka : Option Addr) (kn kc : Nat) (aa : Option Addr) (ac : Nat), a = some ⟨g, o, none⟩ ∧ g < w.heap.size ∧
      (w.cell? ⟨g, o + i * 8, none⟩ = some (.int .i64 (xs[i].kind : Nat)) ∧ w.cell? ⟨g, o + i * 8 + 1, none⟩ = some (.bool xs[i].nt) ∧ w.cell? ⟨g, o + i * 8 + 2, none⟩ = some (.string ⟨xs[i].nm.toArray⟩) ∧ w.cell? ⟨g, o + i * 8 + 3, none⟩ = some (.slice wa xs[i].ws.length wc) ∧ w.cell? ⟨g, o + i * 8 + 4, none⟩ = some (.slice ga xs[i].gs.length gc) ∧ w.cell? ⟨g, o + i * 8 + 5, none⟩ = some (.slice ra xs[i].rs.length rcp) ∧ w.cell? ⟨g, o + i * 8 + 6, none⟩ = some (.slice ka kn kc) ∧ w.cell? ⟨g, o + i * 8 + 7, none⟩ = some (.slice aa xs[i].ar.length ac)) ∧
      NdV w D xs[i] wa wc ga gc ra rcp ka kn kc aa ac := by
  obtain ⟨b, off, rfl, hb, _, hF⟩ := (Rd.recs (k := 8) (fun _ => rfl) (by decide) h).2 i hi
  obtain ⟨u0, c0, r0⟩ := hF 0 (by decide)
  obtain ⟨u1, c1, r1⟩ := hF 1 (by decide)
  obtain ⟨u2, c2, r2⟩ := hF 2 (by decide)
  obtain ⟨u3, c3, r3⟩ := hF 3 (by decide)
  obtain ⟨u4, c4, r4⟩ := hF 4 (by decide)
  obtain ⟨u5, c5, r5⟩ := hF 5 (by decide)
  obtain ⟨u6, c6, r6⟩ := hF 6 (by decide)
  obtain ⟨u7, c7, r7⟩ := hF 7 (by decide)
  generalize xs[i] = x at *
  obtain rfl := Rd.int_v (n := (x.kind : Nat)) (r0 _ rfl)
  have s1 := r1 _ rfl
  cases s1
  obtain rfl := Rd.str_v (l := x.nm) (r2 _ rfl)
  have s3 := r3 _ rfl
  have s4 := r4 _ rfl
  have s5 := r5 _ rfl
  have s6 := r6 _ rfl
  have s7 := r7 _ rfl
  obtain ⟨wa, wn, wc, rfl, _⟩ := s3.shape (by decide)
  obtain ⟨ga, gn, gc, rfl, _⟩ := s4.shape (by decide)
  obtain ⟨ra, rn, rcp, rfl, _⟩ := s5.shape (by decide)
  obtain ⟨ka, kn, kc, rfl, _⟩ := s6.shape (by decide)
  obtain ⟨aa, an, ac, rfl, _⟩ := s7.shape (by decide)
  obtain rfl := words_len s3
  obtain rfl := pairs_len s4
  obtain rfl := pairs_len s5
  obtain rfl := arms_len s7
  exact ⟨b, off, wa, wc, ga, gc, ra, rcp, ka, kn, kc, aa, ac, rfl, hb, ⟨c0, c1, c2, c3, c4, c5, c6, c7⟩, ⟨s3, s4, s5, s6, s7⟩⟩
theorem NdV.keep0 {w' : World} {x : Nx} {wa : Option Addr} {wc : Nat} {ga : Option Addr} {gc : Nat} {ra : Option Addr} {rcp : Nat} {ka : Option Addr} {kn kc : Nat} {aa : Option Addr} {ac : Nat} (h : NdV w D x wa wc ga gc ra rcp ka kn kc aa ac) (hk : Keeps (fun _ => False) w w') : NdV w' D x wa wc ga gc ra rcp ka kn kc aa ac :=
  ⟨h.ws.keep hk (fun _ _ _ h => h), h.gs.keep hk (fun _ _ _ h => h), h.rs.keep hk (fun _ _ _ h => h), h.ks.keep hk (fun _ _ _ h => h), h.ar.keep hk (fun _ _ _ h => h)⟩
end
end Go.Proofs.YtcahifkiiabioaaDoor
namespace Go.Proofs.YtcahifkiiabioaaDoor
open Go.RowKit
set_option linter.unusedVariables false

theorem Rd.small {w : World} {D : Nat → Prop} {k : Nat} {cs : List Dt} {a : Option Addr} {m c : Nat} (hk : 0 < k) (h : Rd w D (.sl k cs) (.slice a m c)) : m ≤ 9223372036854775807 := by
  obtain ⟨a', m', c', e, _, h1, h2⟩ := h.shape hk
  injection e with e1 e2 e3
  subst e1 e2 e3
  unfold maxLen at h2
  omega
theorem Rd.keep0 {w w' : World} {D : Nat → Prop} {d : Dt} {v : Value} (h : Rd w D d v) (hk : Keeps (fun _ => False) w w') : Rd w' D d v := h.keep hk (fun _ _ _ h => h)
theorem Keeps.more {w w1 w2 : World} (h : Keeps (fun _ => False) w w1) (k : Keeps (fun _ => False) w1 w2) : Keeps (fun _ => False) w w2 := h.trans k (fun _ _ h => h)
theorem Keeps.drew0 (w : World) : Keeps (fun _ => False) w w.drew := (Keeps.refl _ _).drew
def TrueP (w : World) (e : Ending) (w' : World) : Prop := e = .returned (.bool true) ∧ Keeps (fun _ => False) w w'
theorem same_word {w : World} {D E : Nat → Prop} {n m : Nat} {x : List Pt} {va vb : Value} (ha : PtsAt w D n x va) (hb : PtsAt w E m x vb) : ∀ W, Keeps (fun _ => False) w W →
    Calls Tryd.prog 19 #[va, vb] W (TrueP W) := fun W h =>
  (sameparts_any n m _ _ x x va vb W (ha.keep h (fun _ _ _ h => h)) (hb.keep h (fun _ _ _ h => h))).mono fun e w' ⟨r, he, hr, hk⟩ => by
    obtain rfl : r = true := hr.2 rfl
    exact ⟨he, hk⟩

set_option maxRecDepth 100000 in
set_option maxHeartbeats 4000000 in
theorem samewords_any (w : World) (D E : Nat → Prop) (ws : List (List Pt)) (aa ba : Option Addr) (an ac bn bc : Nat) (ha : Rd w D (.sl 1 (ws.map wordR)) (.slice aa an ac)) (hb : Rd w E (.sl 1 (ws.map wordR)) (.slice ba bn bc)) :
    Calls Tryd.prog 18 #[.slice aa an ac, .slice ba bn bc] w (TrueP w) := by
  obtain rfl := words_len ha
  obtain rfl := words_len hb
  obtain ⟨L, hL⟩ : ∃ L, L = ws.length := ⟨_, rfl⟩
  have hsm := ha.small (by decide)
  rw [← hL] at hsm
  have HA := Lib.hid ha
  have HB := Lib.hid hb
  have HL := Lib.hid hL
  rw [← hL]
  clear ha hb hL
  go_enter Tryd.func18, Tryd.ntmps18
  go_wp2_with fail
  go_loopw [5] (fun k' wr => ∃ k : Nat, k' = .int .i64 k ∧ k ≤ L ∧ Hid (Keeps (fun _ => False) w wr)) (fun k' _ => L - (intOf k').toNat)
  case atStart => exact ⟨0, rfl, Nat.zero_le _, Lib.hid (Keeps.refl _ _)⟩
  case round =>
    obtain ⟨k, rfl, hk, HK⟩ := hrel
    by_cases hlt : k < L
    · have hlt2 : k < ws.length := by rw [← HL.out]; exact hlt
      obtain ⟨g, o, xa, xc, n, rfl, hg, q0, hp⟩ := words_at (HA.out.keep0 HK.out) hlt2
      obtain ⟨g', o', ya, yc, n', rfl, hg', r0, hp'⟩ := words_at (HB.out.keep0 HK.out) hlt2
      obtain ⟨x, hx⟩ : ∃ x, x = ws[k] := ⟨_, rfl⟩
      rw [← hx] at q0 r0 hp hp'
      obtain ⟨xl, hxl⟩ : ∃ xl, xl = x.length := ⟨_, rfl⟩
      rw [← hxl] at q0 r0 hp hp'
      have HP := Lib.hid (same_word hp hp')
      have p1 : (k : Int) < (L : Int) := by omega
      clear hx hp hp' hxl hlt2
      go_wp2_with fail
      go_still_tail 8, (by kernel_rfl)
      change wpList _ _ _ _ _ wr.drew
      go_wp2_with fail
      refine (HP.out _ (Keeps.drew0 _)).mono ?_
      rintro e w2 ⟨rfl, hk2⟩
      have HK2 := Lib.hid ((HK.out.more (Keeps.drew0 wr)).more hk2)
      clear hk2 HP
      go_wp2_with fail
      go_roundw
      case rel => exact ⟨k + 1, rfl, by omega, HK2⟩
      case measure => simp [intOf]; omega
    · have p1 : ¬ (k : Int) < (L : Int) := by omega
      go_wp2_with fail
      go_ret
      exact ⟨rfl, HK.out⟩

/-- Commands, so deep, with no arms. -/
def GoodB : Nat → List Dt → Prop
  | 0, ds => ds = []
  | n + 1, ds => ∃ xs : List Nx, ds = xs.flatMap Nx.row ∧ ∀ x ∈ xs, GoodB n x.ks ∧ x.ar = []
def SameOK (n : Nat) : Prop := ∀ (w : World) (D E : Nat → Prop) (ds : List Dt) (aa ba : Option Addr) (an ac bn bc : Nat), GoodB n ds → Rd w D (.sl 8 ds) (.slice aa an ac) → Rd w E (.sl 8 ds) (.slice ba bn bc) →
  Calls Tryd.prog 12 #[.slice aa an ac, .slice ba bn bc] w (TrueP w)

set_option maxRecDepth 100000 in
set_option maxHeartbeats 1000000 in
theorem samenode_any (n : Nat) (hsame : SameOK n) (w : World) (D E : Nat → Prop) (x : Nx) (hks : GoodB n x.ks) (har : x.ar = []) (wa ga ra ka aa wa' ga' ra' ka' aa' : Option Addr) (wc gc rcp kn kc ac wc' gc' rcp' kn' kc' ac' : Nat)
    (ha : NdV w D x wa wc ga gc ra rcp ka kn kc aa ac) (hb : NdV w E x wa' wc' ga' gc' ra' rcp' ka' kn' kc' aa' ac') :
    Calls Tryd.prog 15 #[.agg #[.int .i64 (x.kind : Nat), .bool x.nt, .string ⟨x.nm.toArray⟩, .slice wa x.ws.length wc, .slice ga x.gs.length gc, .slice ra x.rs.length rcp, .slice ka kn kc, .slice aa x.ar.length ac],
      .agg #[.int .i64 (x.kind : Nat), .bool x.nt, .string ⟨x.nm.toArray⟩, .slice wa' x.ws.length wc', .slice ga' x.gs.length gc', .slice ra' x.rs.length rcp', .slice ka' kn' kc', .slice aa' x.ar.length ac']] w (TrueP w) := by
  obtain ⟨wl, hwl⟩ : ∃ l, l = x.ws.length := ⟨_, rfl⟩
  obtain ⟨gl, hgl⟩ : ∃ l, l = x.gs.length := ⟨_, rfl⟩
  obtain ⟨rl, hrl⟩ : ∃ l, l = x.rs.length := ⟨_, rfl⟩
  obtain ⟨al, hal⟩ : ∃ l, l = x.ar.length := ⟨_, rfl⟩
  obtain ⟨kd, hkd⟩ : ∃ l, l = x.kind := ⟨_, rfl⟩
  obtain ⟨nt, hnt⟩ : ∃ l, l = x.nt := ⟨_, rfl⟩
  obtain ⟨nm, hnm⟩ : ∃ l : ByteArray, l = ⟨x.nm.toArray⟩ := ⟨_, rfl⟩
  have hcA : Tryd.prog.cellsOf 45 = 2 := by kernel_rfl
  have hcR : Tryd.prog.cellsOf 47 = 2 := by kernel_rfl
  have hcM : Tryd.prog.cellsOf 58 = 2 := by kernel_rfl
  have HS := Lib.hid hsame
  have hg2 := ha.gs.small (by decide)
  have hr2 := ha.rs.small (by decide)
  have ha2 := ha.ar.small (by decide)
  have HA := Lib.hid ha
  have HB := Lib.hid hb
  have HKS := Lib.hid hks
  have HAR := Lib.hid har
  have HW := Lib.hid (show ∀ W, Keeps (fun _ => False) w W → Calls Tryd.prog 18 #[.slice wa wl wc, .slice wa' wl wc'] W (TrueP W) by rw [hwl]; exact fun W h => samewords_any W D E x.ws wa wa' _ wc _ wc' (ha.ws.keep0 h) (hb.ws.keep0 h))
  rw [← hgl] at hg2
  rw [← hrl] at hr2
  rw [← hal] at ha2
  rw [← hwl, ← hgl, ← hrl, ← hal, ← hkd, ← hnt, ← hnm]
  have HGL := Lib.hid hgl
  have HRL := Lib.hid hrl
  have HAL := Lib.hid hal
  clear hwl hgl hrl hal hkd hnt hnm ha hb hks har hsame
  go_enter Tryd.func15, Tryd.ntmps15
  go_wp2_with fail
  obtain ⟨W, hW⟩ : ∃ W, W = ((w.alloc (.cells #[.int .i64 (kd : Nat), .bool nt, .string nm, .slice wa wl wc, .slice ga gl gc, .slice ra rl rcp, .slice ka kn kc, .slice aa al ac] 40)).alloc (.cells #[.int .i64 (kd : Nat), .bool nt, .string nm, .slice wa' wl wc', .slice ga' gl gc', .slice ra' rl rcp', .slice ka' kn' kc', .slice aa' al ac'] 40)) := ⟨_, rfl⟩
  rw [← hW]
  have hkW : Keeps (fun _ => False) w W := by rw [hW]; exact ((Keeps.refl _ _).alloc _).alloc _
  have hR1 : RecAt W w.heap.size [.int .i64 (kd : Nat), .bool nt, .string nm, .slice wa wl wc, .slice ga gl gc, .slice ra rl rcp, .slice ka kn kc, .slice aa al ac] := by
    rw [hW]; exact (new_rec8 w _ _ _ _ _ _ _ _ _).keep (S := fun _ => False) ((Keeps.refl _ _).alloc _) (fun h => h)
  have hR2 : RecAt W (w.heap.size + 1) [.int .i64 (kd : Nat), .bool nt, .string nm, .slice wa' wl wc', .slice ga' gl gc', .slice ra' rl rcp', .slice ka' kn' kc', .slice aa' al ac'] := by
    rw [hW]
    have h := new_rec8 (w.alloc (.cells #[.int .i64 (kd : Nat), .bool nt, .string nm, .slice wa wl wc, .slice ga gl gc, .slice ra rl rcp, .slice ka kn kc, .slice aa al ac] 40)) (.int .i64 (kd : Nat)) (.bool nt) (.string nm) (.slice wa' wl wc') (.slice ga' gl gc') (.slice ra' rl rcp') (.slice ka' kn' kc') (.slice aa' al ac') 40
    rw [show (w.alloc (.cells #[.int .i64 (kd : Nat), .bool nt, .string nm, .slice wa wl wc, .slice ga gl gc, .slice ra rl rcp, .slice ka kn kc, .slice aa al ac] 40)).heap.size = w.heap.size + 1 by simp] at h
    exact h
  have HR1 := Lib.hid hR1
  have HR2 := Lib.hid hR2
  have HKW := Lib.hid hkW
  clear hW hR1 hR2 hkW
  refine (HW.out W HKW.out).mono ?_
  rintro e w1 ⟨rfl, hk1⟩
  have HK1 := Lib.hid hk1
  clear hk1
  obtain ⟨⟨x0, x1, x2, x3, x4, x5, x6, x7⟩, _⟩ := (HR1.out.keep HK1.out (fun h => h)).eight
  obtain ⟨⟨y0, y1, y2, y3, y4, y5, y6, y7⟩, _⟩ := (HR2.out.keep HK1.out (fun h => h)).eight
  have lx := (HR1.out.keep HK1.out (fun h => h)).lt
  have ly := (HR2.out.keep HK1.out (fun h => h)).lt
  go_wp2_with fail
  clear x0 x1 x2 x3 x4 x5 x6 x7 y0 y1 y2 y3 y4 y5 y6 y7 lx ly
  go_loopw [5] (fun k' wr => ∃ k : Nat, k' = .int .i64 k ∧ k ≤ gl ∧ Hid (Keeps (fun _ => False) W wr)) (fun k' _ => gl - (intOf k').toNat)
  case atStart => exact ⟨0, rfl, Nat.zero_le _, HK1⟩
  case round =>
    obtain ⟨k, rfl, hk, HK⟩ := hrel
    obtain ⟨⟨x0, x1, x2, x3, x4, x5, x6, x7⟩, _⟩ := (HR1.out.keep HK.out (fun h => h)).eight
    obtain ⟨⟨y0, y1, y2, y3, y4, y5, y6, y7⟩, _⟩ := (HR2.out.keep HK.out (fun h => h)).eight
    have lx := (HR1.out.keep HK.out (fun h => h)).lt
    have ly := (HR2.out.keep HK.out (fun h => h)).lt
    by_cases hlt : k < gl
    · have hlt2 : k < x.gs.length := by rw [← HGL.out]; exact hlt
      have p1 : (k : Int) < (gl : Int) := by omega
      have hka := (HA.out.keep0 HKW.out).keep0 HK.out
      have hkb := (HB.out.keep0 HKW.out).keep0 HK.out
      have HT := hka.gs
      have HU := hkb.gs
      obtain ⟨g, o, xa, xc, n1, h1, hg, q0, q1, hp⟩ := pairs_at HT hlt2
      obtain ⟨g', o', ya, yc, n2, h2, hg', r0, r1, hp'⟩ := pairs_at HU hlt2
      subst h1 h2
      have HP := Lib.hid (same_word hp hp')
      obtain ⟨xn, hxn⟩ : ∃ xn : ByteArray, xn = ⟨x.gs[k].1.toArray⟩ := ⟨_, rfl⟩
      obtain ⟨xl, hxl⟩ : ∃ xl, xl = x.gs[k].2.length := ⟨_, rfl⟩
      rw [← hxn] at q0 r0
      rw [← hxl] at q1 r1 HP
      clear hka hkb HT HU hp hp' hxn hxl hlt2
      go_wp2_with fail
      go_still_tail 26, (by kernel_rfl)
      change wpList _ _ _ _ _ wr.drew
      go_wp2_with fail
      refine (HP.out _ (Keeps.drew0 _)).mono ?_
      rintro e w2 ⟨rfl, hk2⟩
      have HK2 := Lib.hid ((HK.out.more (Keeps.drew0 wr)).more hk2)
      clear hk2 HP
      all_goals
        go_wp2_with fail
        go_roundw
        case rel => exact ⟨k + 1, rfl, by omega, HK2⟩
        case measure => simp [intOf]; omega
    have hkl : k = gl := by omega
    subst hkl
    have p1 : ¬ (k : Int) < (k : Int) := by omega
    go_wp2_with fail
    clear x0 x1 x2 x3 x4 x5 x6 x7 y0 y1 y2 y3 y4 y5 y6 y7 lx ly p1 hlt
    go_loopw [6] (fun k' wr => ∃ k : Nat, k' = .int .i64 k ∧ k ≤ rl ∧ Hid (Keeps (fun _ => False) W wr)) (fun k' _ => rl - (intOf k').toNat)
    case atStart => exact ⟨0, rfl, Nat.zero_le _, HK⟩
    case round =>
      obtain ⟨k, rfl, hk, HK⟩ := hrel
      obtain ⟨⟨x0, x1, x2, x3, x4, x5, x6, x7⟩, _⟩ := (HR1.out.keep HK.out (fun h => h)).eight
      obtain ⟨⟨y0, y1, y2, y3, y4, y5, y6, y7⟩, _⟩ := (HR2.out.keep HK.out (fun h => h)).eight
      have lx := (HR1.out.keep HK.out (fun h => h)).lt
      have ly := (HR2.out.keep HK.out (fun h => h)).lt
      by_cases hlt : k < rl
      · have hlt2 : k < x.rs.length := by rw [← HRL.out]; exact hlt
        have p1 : (k : Int) < (rl : Int) := by omega
        have hka := (HA.out.keep0 HKW.out).keep0 HK.out
        have hkb := (HB.out.keep0 HKW.out).keep0 HK.out
        have HT := hka.rs
        have HU := hkb.rs
        obtain ⟨g, o, xa, xc, n1, h1, hg, q0, q1, hp⟩ := pairs_at HT hlt2
        obtain ⟨g', o', ya, yc, n2, h2, hg', r0, r1, hp'⟩ := pairs_at HU hlt2
        subst h1 h2
        have HP := Lib.hid (same_word hp hp')
        obtain ⟨xn, hxn⟩ : ∃ xn : ByteArray, xn = ⟨x.rs[k].1.toArray⟩ := ⟨_, rfl⟩
        obtain ⟨xl, hxl⟩ : ∃ xl, xl = x.rs[k].2.length := ⟨_, rfl⟩
        rw [← hxn] at q0 r0
        rw [← hxl] at q1 r1 HP
        clear hka hkb HT HU hp hp' hxn hxl hlt2
        go_wp2_with fail
        go_still_tail 26, (by kernel_rfl)
        change wpList _ _ _ _ _ wr.drew
        go_wp2_with fail
        refine (HP.out _ (Keeps.drew0 _)).mono ?_
        rintro e w2 ⟨rfl, hk2⟩
        have HK2 := Lib.hid ((HK.out.more (Keeps.drew0 wr)).more hk2)
        clear hk2 HP
        all_goals
          go_wp2_with fail
          go_roundw
          case rel => exact ⟨k + 1, rfl, by omega, HK2⟩
          case measure => simp [intOf]; omega
      have hkl : k = rl := by omega
      subst hkl
      have p1 : ¬ (k : Int) < (k : Int) := by omega
      go_wp2_with fail
      clear x0 x1 x2 x3 x4 x5 x6 x7 y0 y1 y2 y3 y4 y5 y6 y7 lx ly p1 hlt
      go_loopw [7] (fun k' wr => ∃ k : Nat, k' = .int .i64 k ∧ k ≤ al ∧ Hid (Keeps (fun _ => False) W wr)) (fun k' _ => al - (intOf k').toNat)
      case atStart => exact ⟨0, rfl, Nat.zero_le _, HK⟩
      case round =>
        obtain ⟨k, rfl, hk, HK⟩ := hrel
        obtain ⟨⟨x0, x1, x2, x3, x4, x5, x6, x7⟩, _⟩ := (HR1.out.keep HK.out (fun h => h)).eight
        obtain ⟨⟨y0, y1, y2, y3, y4, y5, y6, y7⟩, _⟩ := (HR2.out.keep HK.out (fun h => h)).eight
        have lx := (HR1.out.keep HK.out (fun h => h)).lt
        have ly := (HR2.out.keep HK.out (fun h => h)).lt
        by_cases hlt : k < al
        · have hlt2 : k < x.ar.length := by rw [← HAL.out]; exact hlt
          have p1 : (k : Int) < (al : Int) := by omega
          have hka := (HA.out.keep0 HKW.out).keep0 HK.out
          have hkb := (HB.out.keep0 HKW.out).keep0 HK.out
          exact absurd hlt (by have := HAL.out; rw [HAR.out] at this; have h0 : al = 0 := this; omega)
          all_goals
            go_wp2_with fail
            go_roundw
            case rel => exact ⟨k + 1, rfl, by omega, HK2⟩
            case measure => simp [intOf]; omega
        have hkl : k = al := by omega
        subst hkl
        have p1 : ¬ (k : Int) < (k : Int) := by omega
        go_wp2_with fail
        clear x0 x1 x2 x3 x4 x5 x6 x7 y0 y1 y2 y3 y4 y5 y6 y7 lx ly p1 hlt
        have hka := (HA.out.keep0 HKW.out).keep0 HK.out
        have hkb := (HB.out.keep0 HKW.out).keep0 HK.out
        refine (HS.out wr D E _ _ _ _ _ _ _ HKS.out hka.ks hkb.ks).mono ?_
        rintro e w2 ⟨rfl, hk2⟩
        have HK2 := Lib.hid ((HKW.out.more HK.out).more hk2)
        clear hka hkb hk2
        go_wp2_with fail
        go_ret
        exact ⟨rfl, HK2.out⟩

set_option maxRecDepth 100000 in
set_option maxHeartbeats 8000000 in
theorem same_all : ∀ n, SameOK n := by
  intro n
  induction n with
  | zero =>
    intro w D E ds aa ba an ac bn bc hg ha hb
    obtain rfl : ds = [] := hg
    obtain ⟨h1, _⟩ := ha.len8
    obtain ⟨h2, _⟩ := hb.len8
    obtain rfl : an = 0 := by have : (0 : Nat) = an * 8 := h1; omega
    obtain rfl : bn = 0 := by have : (0 : Nat) = bn * 8 := h2; omega
    clear ha hb h1 h2
    go_enter Tryd.func12, Tryd.ntmps12
    go_wp2_with fail
    go_loopw [5] (fun k' wr => k' = .int .i64 0 ∧ wr = w) (fun _ _ => 0)
    case atStart => exact ⟨rfl, rfl⟩
    case round =>
      obtain ⟨rfl, rfl⟩ := hrel
      go_wp2_with fail
      go_ret
      exact ⟨rfl, Keeps.refl _ _⟩
  | succ n ih =>
    intro w D E ds aa ba an ac bn bc hg ha hb
    obtain ⟨xs, rfl, hxs⟩ := hg
    obtain rfl := nodes_len ha
    obtain rfl := nodes_len hb
    have hc8 := cells_node
    have hsm := ha.small (by decide)
    have HA := Lib.hid ha
    have HB := Lib.hid hb
    have HX := Lib.hid hxs
    have HI := Lib.hid ih
    obtain ⟨L, hL⟩ : ∃ L, L = xs.length := ⟨_, rfl⟩
    rw [← hL] at hsm
    rw [← hL]
    have HL := Lib.hid hL
    clear ha hb hxs ih hL
    go_enter Tryd.func12, Tryd.ntmps12
    go_wp2_with fail
    go_loopw [5] (fun k' wr => ∃ k : Nat, k' = .int .i64 k ∧ k ≤ L ∧ Hid (Keeps (fun _ => False) w wr)) (fun k' _ => L - (intOf k').toNat)
    case atStart => exact ⟨0, rfl, Nat.zero_le _, Lib.hid (Keeps.refl _ _)⟩
    case round =>
      obtain ⟨k, rfl, hk, HK⟩ := hrel
      by_cases hlt : k < L
      · have hlt2 : k < xs.length := by rw [← HL.out]; exact hlt
        obtain ⟨g, o, wa, wc, ga, gc, ra, rcp, ka, kn, kc, aa, ac, rfl, hg, ⟨q0, q1, q2, q3, q4, q5, q6, q7⟩, hv⟩ := nodes_at (HA.out.keep0 HK.out) hlt2
        obtain ⟨g', o', wa', wc', ga', gc', ra', rcp', ka', kn', kc', aa', ac', rfl, hg', ⟨r0, r1, r2, r3, r4, r5, r6, r7⟩, hv'⟩ := nodes_at (HB.out.keep0 HK.out) hlt2
        have hx := HX.out xs[k] (List.getElem_mem hlt2)
        obtain ⟨x, hxe⟩ : ∃ x, x = xs[k] := ⟨_, rfl⟩
        rw [← hxe] at q0 q1 q2 q3 q4 q5 q7 r0 r1 r2 r3 r4 r5 r7 hv hv' hx
        have HP := Lib.hid (show ∀ W, Keeps (fun _ => False) wr W → _ from fun W h => samenode_any n HI.out W D E x hx.1 hx.2 _ _ _ _ _ _ _ _ _ _ _ _ _ _ _ _ _ _ _ _ _ _ (hv.keep0 h) (hv'.keep0 h))
        have p1 : (k : Int) < (L : Int) := by omega
        clear hv hv' hx hxe hlt2
        obtain ⟨wl, hwl⟩ : ∃ l, l = x.ws.length := ⟨_, rfl⟩
        obtain ⟨gl, hgl⟩ : ∃ l, l = x.gs.length := ⟨_, rfl⟩
        obtain ⟨rl, hrl⟩ : ∃ l, l = x.rs.length := ⟨_, rfl⟩
        obtain ⟨al, hal⟩ : ∃ l, l = x.ar.length := ⟨_, rfl⟩
        obtain ⟨kd, hkd⟩ : ∃ l, l = x.kind := ⟨_, rfl⟩
        obtain ⟨nt, hnt⟩ : ∃ l, l = x.nt := ⟨_, rfl⟩
        obtain ⟨nm, hnm⟩ : ∃ l : ByteArray, l = ⟨x.nm.toArray⟩ := ⟨_, rfl⟩
        rw [← hwl, ← hgl, ← hrl, ← hal, ← hkd, ← hnt, ← hnm] at HP
        rw [← hkd] at q0 r0
        rw [← hnt] at q1 r1
        rw [← hnm] at q2 r2
        rw [← hwl] at q3 r3
        rw [← hgl] at q4 r4
        rw [← hrl] at q5 r5
        rw [← hal] at q7 r7
        clear hwl hgl hrl hal hkd hnt hnm
        go_wp2_with fail
        go_region_law (go_simp; go_at_call 15; refine (HP.out _ (Keeps.drew0 _)).mono ?_; rintro e w2 ⟨rfl, hk2⟩; have HK2 := Lib.hid ((HK.out.more (Keeps.drew0 wr)).more hk2); clear hk2 HP)
        all_goals
          go_wp2_with fail
          go_roundw
          case rel => exact ⟨k + 1, rfl, by omega, HK2⟩
          case measure => simp [intOf]; omega
      · have p1 : ¬ (k : Int) < (L : Int) := by omega
        go_wp2_with fail
        go_ret
        exact ⟨rfl, HK.out⟩
end Go.Proofs.YtcahifkiiabioaaDoor
namespace Go.Proofs.YtcahifkiiabioaaDoor
set_option linter.unusedVariables false

def smS (ks : List Nat) : List UInt8 := ks.flatMap fun k => match k with
  | 0 => [32, 120, 61, 49]
  | 1 => [32, 62, 32, 49]
  | 2 => [32, 50, 62, 62, 49]
  | _ => [32, 49]
def smOne : Nat → List Tk
  | 0 => [wT [120, 61, 49]]
  | 1 => [oT [62], wT [49]]
  | 2 => [oT [50, 62, 62], wT [49]]
  | _ => [wT [49]]
def smT (ks : List Nat) : List Tk := ks.flatMap smOne
theorem smS_brk (ks : List Nat) : Brk (smS ks) := by
  cases ks with
  | nil => exact .inl rfl
  | cons k ks =>
    match k with
    | 0 => exact Brk.sp _
    | 1 => exact Brk.sp _
    | 2 => exact Brk.sp _
    | k + 3 => exact Brk.sp _
theorem sm_toks : ∀ ks : List Nat, tokC (smS ks) = .ok (smT ks)
  | [] => rfl
  | k :: ks => by
    have hb := smS_brk ks
    have ih := sm_toks ks
    match k with
    | 0 =>
      show tokC (32 :: (120 :: [61, 49] ++ smS ks)) = _
      rw [tokC_blank (by decide), tokC_w (by decide) (by decide) hb, ih]
      rfl
    | 1 =>
      show tokC (32 :: ([62] ++ 32 :: (49 :: [] ++ smS ks))) = _
      rw [tokC_blank (by decide), tokC_o (t := []) (c := 62) rfl rfl (by decide) (by decide) (by decide), tokC_blank (by decide), tokC_w (by decide) (by decide) hb, ih]
      rfl
    | 2 =>
      show tokC (32 :: ([50, 62, 62] ++ (49 :: [] ++ smS ks))) = _
      rw [tokC_blank (by decide), tokC_o (t := [62, 62]) (c := 50) rfl rfl (by decide) (by decide) (by decide), tokC_w (by decide) (by decide) hb, ih]
      rfl
    | k + 3 =>
      show tokC (32 :: (49 :: [] ++ smS ks)) = _
      rw [tokC_blank (by decide), tokC_w (by decide) (by decide) hb, ih]
      rfl
theorem smS_bytes : ∀ ks : List Nat, (smS ks).length ≤ 5 * ks.length ∧ ∀ c ∈ smS ks, c ≠ 0
  | [] => ⟨by simp [smS], by simp [smS]⟩
  | k :: ks => by
    obtain ⟨h1, h2⟩ := smS_bytes ks
    have key : ∀ p : List UInt8, p.length ≤ 5 → (∀ c ∈ p, c ≠ 0) → (p ++ smS ks).length ≤ 5 * (k :: ks).length ∧ ∀ c ∈ p ++ smS ks, c ≠ 0 := fun p hp hz => by
      refine ⟨by rw [List.length_append, List.length_cons]; omega, fun c hc => ?_⟩
      rcases List.mem_append.1 hc with hc | hc
      · exact hz c hc
      · exact h2 c hc
    match k, key with
    | 0, key => exact key [32, 120, 61, 49] (by decide) (by decide)
    | 1, key => exact key [32, 62, 32, 49] (by decide) (by decide)
    | 2, key => exact key [32, 50, 62, 62, 49] (by decide) (by decide)
    | k + 3, key => exact key [32, 49] (by decide) (by decide)
/-- Words, assignments, redirections so far. -/
structure SimS where
  ws : List (List Pt)
  gs : List (List UInt8 × List Pt)
  rs : List (List UInt8 × List Pt)
def prR (g : List UInt8 × List Pt) : List Dt := [.str g.1, wordR g.2]
def SimS.step (x : SimS) : Nat → SimS
  | 0 => if x.ws.isEmpty then ⟨x.ws, x.gs ++ [([120], [txtP [49]])], x.rs⟩ else ⟨x.ws ++ [[txtP [120, 61, 49]]], x.gs, x.rs⟩
  | 1 => ⟨x.ws, x.gs, x.rs ++ [([62], [txtP [49]])]⟩
  | 2 => ⟨x.ws, x.gs, x.rs ++ [([50, 62, 62], [txtP [49]])]⟩
  | _ => ⟨x.ws ++ [[txtP [49]]], x.gs, x.rs⟩
def SimS.row (x : SimS) : List Dt := ndR 1 false [] (x.ws.map wordR) (x.gs.flatMap prR) (x.rs.flatMap prR) [] []
theorem wordF_txt (K : Nat) (s : List UInt8) (X : List Tk) : wordF (scrF (commandF K)) (wT s :: X) = .ok ([txtP s], X) := by
  show (match subsF (scrF (commandF K)) [txtP s] with
    | .error e => (.error e : PR (List Pt))
    | .ok _ => .ok ([txtP s], X)) = _
  rw [show subsF (scrF (commandF K)) [txtP s] = .ok () from by simp [subsF, subsP, txtP]]
theorem simple_run (K : Nat) : ∀ (ks : List Nat) (n : Nat) (x : SimS), (smT ks).length < n → simpleF (scrF (commandF K)) n (x.ws.map wordR) (x.gs.flatMap prR) (x.rs.flatMap prR) (smT ks) = .ok ((ks.foldl SimS.step x).row, [])
  | ks, 0, x, h => by omega
  | [], n + 1, x, h => by
    unfold simpleF
    rfl
  | k :: ks, n + 1, x, h => by
    have hs : smT (k :: ks) = smOne k ++ smT ks := by simp [smT]
    rw [hs, List.length_append] at h
    rw [hs, List.foldl_cons]
    have hword : ∀ (s : List UInt8), simpleF (scrF (commandF K)) (n + 1) (x.ws.map wordR) (x.gs.flatMap prR) (x.rs.flatMap prR) (wT s :: smT ks) = match (if (x.ws.map wordR).isEmpty then assignF [txtP s] else none) with
        | some (nm, v) => simpleF (scrF (commandF K)) n (x.ws.map wordR) (x.gs.flatMap prR ++ [.str nm, wordR v]) (x.rs.flatMap prR) (smT ks)
        | none => simpleF (scrF (commandF K)) n (x.ws.map wordR ++ [wordR [txtP s]]) (x.gs.flatMap prR) (x.rs.flatMap prR) (smT ks) := fun s => by
      conv => lhs; unfold simpleF
      rw [show redirB (wT s :: smT ks) = false from rfl, if_neg (by simp), show ((atF (wT s :: smT ks)).kind == 1) = true from rfl, if_pos rfl, wordF_txt]
      rfl
    have hredir : ∀ (o : List UInt8), redirB (oT o :: wT [49] :: smT ks) = true → simpleF (scrF (commandF K)) (n + 1) (x.ws.map wordR) (x.gs.flatMap prR) (x.rs.flatMap prR) (oT o :: wT [49] :: smT ks) = simpleF (scrF (commandF K)) n (x.ws.map wordR) (x.gs.flatMap prR) (x.rs.flatMap prR ++ [.str o, wordR [txtP [49]]]) (smT ks) := fun o ho => by
      conv => lhs; unfold simpleF
      rw [ho, if_pos rfl]
      unfold redirF
      rw [show (oT o :: wT [49] :: smT ks).tail = wT [49] :: smT ks from rfl, wordF_txt]
      rfl
    match k, h with
    | 0, h =>
      have h : 1 + (smT ks).length < n + 1 := h
      show simpleF _ (n + 1) _ _ _ (wT [120, 61, 49] :: smT ks) = .ok ((ks.foldl SimS.step (if x.ws.isEmpty then _ else _)).row, [])
      rw [hword]
      by_cases hw : x.ws.isEmpty = true
      · have e1 : (x.ws.map wordR).isEmpty = true := by rw [List.isEmpty_map]; exact hw
        have e2 : assignF [txtP [120, 61, 49]] = some ([120], [txtP [49]]) := by rfl
        rw [if_pos e1, e2, if_pos hw]
        dsimp only
        have ih := simple_run K ks n ⟨x.ws, x.gs ++ [([120], [txtP [49]])], x.rs⟩ (by omega)
        dsimp only at ih
        rw [List.flatMap_append] at ih
        exact ih
      · have e1 : ¬ (x.ws.map wordR).isEmpty = true := by rw [List.isEmpty_map]; exact hw
        rw [if_neg e1, if_neg hw]
        dsimp only
        have ih := simple_run K ks n ⟨x.ws ++ [[txtP [120, 61, 49]]], x.gs, x.rs⟩ (by omega)
        dsimp only at ih
        rw [List.map_append] at ih
        exact ih
    | 1, h =>
      have h : 2 + (smT ks).length < n + 1 := h
      show simpleF _ (n + 1) _ _ _ (oT [62] :: wT [49] :: smT ks) = .ok ((ks.foldl SimS.step ⟨x.ws, x.gs, x.rs ++ [([62], [txtP [49]])]⟩).row, [])
      rw [hredir _ rfl]
      have ih := simple_run K ks n ⟨x.ws, x.gs, x.rs ++ [([62], [txtP [49]])]⟩ (by omega)
      dsimp only at ih
      rw [List.flatMap_append] at ih
      exact ih
    | 2, h =>
      have h : 2 + (smT ks).length < n + 1 := h
      show simpleF _ (n + 1) _ _ _ (oT [50, 62, 62] :: wT [49] :: smT ks) = .ok ((ks.foldl SimS.step ⟨x.ws, x.gs, x.rs ++ [([50, 62, 62], [txtP [49]])]⟩).row, [])
      rw [hredir _ rfl]
      have ih := simple_run K ks n ⟨x.ws, x.gs, x.rs ++ [([50, 62, 62], [txtP [49]])]⟩ (by omega)
      dsimp only at ih
      rw [List.flatMap_append] at ih
      exact ih
    | k + 3, h =>
      have h : 1 + (smT ks).length < n + 1 := h
      show simpleF _ (n + 1) _ _ _ (wT [49] :: smT ks) = .ok ((ks.foldl SimS.step ⟨x.ws ++ [[txtP [49]]], x.gs, x.rs⟩).row, [])
      rw [hword, show assignF [txtP [49]] = none from rfl, ite_self]
      dsimp only
      have ih := simple_run K ks n ⟨x.ws ++ [[txtP [49]]], x.gs, x.rs⟩ (by omega)
      dsimp only at ih
      rw [List.map_append] at ih
      exact ih
/-- Which words of a simple command are what. -/
theorem simple_parse (ks : List Nat) (h0 : ks ≠ []) (hk : ks.length ≤ 20) : parseF (smS ks) = .ok (ks.foldl SimS.step ⟨[], [], []⟩).row := by
  obtain ⟨h1, h2⟩ := smS_bytes ks
  have ht : tokensF (smS ks) = .ok (smT ks) := by
    rw [tokensF_C _ (may_plain (by omega) h2), sm_toks]
  have hr := simple_run 39 ks ((smT ks).length + 1) ⟨[], [], []⟩ (Nat.lt_succ_self _)
  obtain ⟨k, t, rfl⟩ := List.exists_cons_of_ne_nil h0
  have hs : smT (k :: t) = smOne k ++ smT t := by simp [smT]
  generalize ((k :: t).foldl SimS.step ⟨[], [], []⟩) = R at *
  have hc : commandF 40 (smT (k :: t)) = .ok (R.row, []) ∧ linesF (smT (k :: t)) = smT (k :: t) ∧ isWF [33] (smT (k :: t)) = false ∧ (smT (k :: t)).isEmpty = false := by
    rw [← hr, hs]
    match k with
    | 0 => exact ⟨rfl, rfl, rfl, rfl⟩
    | 1 => exact ⟨rfl, rfl, rfl, rfl⟩
    | 2 => exact ⟨rfl, rfl, rfl, rfl⟩
    | k + 3 => exact ⟨rfl, rfl, rfl, rfl⟩
  unfold parseF scriptF
  rw [ht]
  show treeF (commandF 40) (smT (k :: t)) = _
  unfold treeF
  rw [hc.2.1, hc.2.2.2, if_neg (by simp), all_one hc.2.2.1 hc.1 rfl Tail.nil]
  rfl
end Go.Proofs.YtcahifkiiabioaaDoor
namespace Go.Proofs.YtcahifkiiabioaaDoor
open Go.RowKit
set_option linter.unusedVariables false

/-- One of three rows grows; the two others stay. -/
theorem grow3b {w4 : World} {X N : Nat} {P : Nat → Prop} {v v2 v3 : Value} {k k2 k3 m m2 m3 : Nat} {Ty T2 T3 : TypeId} {ds ds2 ds3 d2 : List Dt} {us : List Value}
    (hP : ∀ b, P b → (X ≤ b ∧ b ≠ N) ∧ v.ownBlock ≠ some b ∧ v2.ownBlock ≠ some b ∧ v3.ownBlock ≠ some b)
    (h1 : OwnD w4 P v k Ty m ds) (h2 : OwnD w4 P v2 k2 T2 m2 ds2) (h3 : OwnD w4 P v3 k3 T3 m3 ds3)
    (l1 : ∀ g, v.ownBlock = some g → X ≤ g ∧ g ≠ N ∧ v2.ownBlock ≠ some g ∧ v3.ownBlock ≠ some g) (l2 : ∀ g, v2.ownBlock = some g → g ≠ N) (l3 : ∀ g, v3.ownBlock = some g → g ≠ N)
    (hL : X ≤ w4.heap.size ∧ N < w4.heap.size ∧ ∀ g, (v.ownBlock = some g ∨ v2.ownBlock = some g ∨ v3.ownBlock = some g) → g < w4.heap.size)
    (hx : RdL w4 P d2 us) :
    ∃ xs, w4.ownsRow 0 Ty k v m xs ∧ ∀ (gg cap : Nat) (w5 : World) (o : Obj) (f : Nat) (P' : Nat → Prop), w5.ownsRow 0 Ty k (.slice (some ⟨gg, 0, none⟩) (m + 1) cap) (m + 1) (xs ++ us) → (w4.alloc o).grownBy w5 v.ownBlock → (v.ownBlock = some gg ∨ gg = w4.heap.size + 1) →
      (∀ b, P b → gg ≠ b → P' b) →
      (X ≤ gg ∧ gg ≠ N ∧ v2.ownBlock ≠ some gg ∧ v3.ownBlock ≠ some gg) ∧ Keeps (fun b => v.ownBlock = some b) w4 w5 ∧
      OwnD (w5.setCell ⟨N, f, none⟩ (.slice (some ⟨gg, 0, none⟩) (m + 1) cap)) P' (.slice (some ⟨gg, 0, none⟩) (m + 1) cap) k Ty (m + 1) (ds ++ d2) ∧
      OwnD (w5.setCell ⟨N, f, none⟩ (.slice (some ⟨gg, 0, none⟩) (m + 1) cap)) P' v2 k2 T2 m2 ds2 ∧ OwnD (w5.setCell ⟨N, f, none⟩ (.slice (some ⟨gg, 0, none⟩) (m + 1) cap)) P' v3 k3 T3 m3 ds3 := by
  obtain ⟨hXL, hNL, hgL⟩ := hL
  obtain ⟨xs, hr, ho⟩ := h1
  refine ⟨xs, ho, fun gg cap w5 o f P' hown hgrow hat hP' => ?_⟩
  have hk5 : Keeps (fun b => v.ownBlock = some b) w4 w5 := ((Keeps.refl _ w4).alloc o).grown hgrow (fun k hk _ => hk)
  have hgN : gg ≠ N := by
    rcases hat with h | h
    · exact (l1 gg h).2.1
    · omega
  have hgX : X ≤ gg := by
    rcases hat with h | h
    · exact (l1 gg h).1
    · omega
  have hg2 : v2.ownBlock ≠ some gg ∧ v3.ownBlock ≠ some gg := by
    rcases hat with h | h
    · exact (l1 gg h).2.2
    · exact ⟨fun e => by have := hgL gg (.inr (.inl e)); omega, fun e => by have := hgL gg (.inr (.inr e)); omega⟩
  have hk6 : Keeps (fun b => b = N) w5 (w5.setCell ⟨N, f, none⟩ (.slice (some ⟨gg, 0, none⟩) (m + 1) cap)) := (Keeps.refl _ _).setCell _ _ fun _ => rfl
  have hne : ∀ b, b < w4.heap.size → v.ownBlock ≠ some b → gg ≠ b := fun b hb hv e => by
    rcases hat with h | h
    · exact hv (by rw [h, e])
    · omega
  have hoth : ∀ {vv : Value} {kk mm : Nat} {TT : TypeId} {dd : List Dt}, OwnD w4 P vv kk TT mm dd → (∀ g, vv.ownBlock = some g → v.ownBlock ≠ some g ∧ g ≠ N) →
      OwnD (w5.setCell ⟨N, f, none⟩ (.slice (some ⟨gg, 0, none⟩) (m + 1) cap)) P' vv kk TT mm dd := by
    intro vv kk mm TT dd hh hv
    obtain ⟨ys, hy, hyo⟩ := hh
    have hy2 := ((hy.lt.keep hk5 (fun b _ hb e => (hP b hb.1.1).2.1 e)).keep hk6 (fun b _ hb e => (hP b hb.1.1).1.2 e))
    have hfin := hy2.mono (D' := fun b => P' b ∧ vv.ownBlock ≠ some b) fun b _ hb => ⟨hP' b hb.1.1 (hne b hb.2 (hP b hb.1.1).2.1), hb.1.2⟩
    refine ⟨ys, hfin, hyo.1, ?_⟩
    rcases hyo.2 with h0 | ⟨g', cap', cur, e, hb, hg, rest⟩
    · exact .inl h0
    · have hq := hv g' (by rw [e]; rfl)
      have hgl := (Array.getElem?_eq_some_iff.1 hg).1
      exact .inr ⟨g', cap', cur, e, hb, (hk6.block g' (Nat.lt_of_lt_of_le hgl hk5.size) hq.2).trans ((hk5.block g' hgl hq.1).trans hg), rest⟩
  refine ⟨⟨hgX, hgN, hg2⟩, hk5, ?_, hoth h2 (fun g hg => ⟨fun e => (l1 g e).2.2.1 hg, l2 g hg⟩), hoth h3 (fun g hg => ⟨fun e => (l1 g e).2.2.2 hg, l3 g hg⟩)⟩
  have hx2 : RdL w4 (fun b => P b ∧ v.ownBlock ≠ some b) d2 us := hx.mono fun b _ hb => ⟨hb, (hP b hb).2.1⟩
  have hr2 := hr.app hx2
  have hr3 := ((hr2.lt.keep hk5 (fun b _ hb e => hb.1.2 e)).keep hk6 (fun b _ hb e => (hP b hb.1.1).1.2 e))
  have hr4 := hr3.mono (D' := fun b => P' b ∧ (Value.slice (some ⟨gg, 0, none⟩) (m + 1) cap).ownBlock ≠ some b) fun b _ hb => ⟨hP' b hb.1.1 (hne b hb.2 hb.1.2), fun e => hne b hb.2 hb.1.2 (Option.some.inj e)⟩
  refine ⟨xs ++ us, hr4, hown.1, ?_⟩
  rcases hown.2 with ⟨e, h0⟩ | ⟨g', cap', cur, e, hb, hg, rest⟩
  · cases e
  · have e1 : gg = g' := by injection e with e1; injection e1 with e1; injection e1
    exact .inr ⟨g', cap', cur, e, hb, (hk6.block g' (Array.getElem?_eq_some_iff.1 hg).1 (fun e2 => hgN (e1.trans e2))).trans hg, rest⟩

/-- The record at N; words, assignments, redirections; the word "1". -/
structure SmK (w0 wr : World) (X N O : Nat) (wa : Option Addr) (wm wc : Nat) (ws : List Dt) (ga : Option Addr) (gm gc : Nat) (gs : List Dt) (ra : Option Addr) (rm rk : Nat) (rd : List Dt) : Prop where
  kp : Keeps (fun b => w0.heap.size ≤ b) w0 wr
  ro : RecAt wr N [.int .i64 1, .bool false, .string ⟨#[]⟩, .slice wa wm wc, .slice ga gm gc, .slice ra rm rk, .slice none 0 0, .slice none 0 0]
  o1 : OwnD wr (Pr X N (Value.slice wa wm wc).ownBlock (Value.slice ga gm gc).ownBlock (Value.slice ra rm rk).ownBlock) (.slice wa wm wc) 1 32 wm ws
  o2 : OwnD wr (Pr X N (Value.slice wa wm wc).ownBlock (Value.slice ga gm gc).ownBlock (Value.slice ra rm rk).ownBlock) (.slice ga gm gc) 2 45 gm gs
  o3 : OwnD wr (Pr X N (Value.slice wa wm wc).ownBlock (Value.slice ga gm gc).ownBlock (Value.slice ra rm rk).ownBlock) (.slice ra rm rk) 2 47 rm rd
  l1 : ∀ g, (Value.slice wa wm wc).ownBlock = some g → X ≤ g ∧ g ≠ N ∧ (Value.slice ga gm gc).ownBlock ≠ some g ∧ (Value.slice ra rm rk).ownBlock ≠ some g
  l2 : ∀ g, (Value.slice ga gm gc).ownBlock = some g → X ≤ g ∧ g ≠ N ∧ (Value.slice wa wm wc).ownBlock ≠ some g ∧ (Value.slice ra rm rk).ownBlock ≠ some g
  l3 : ∀ g, (Value.slice ra rm rk).ownBlock = some g → X ≤ g ∧ g ≠ N ∧ (Value.slice wa wm wc).ownBlock ≠ some g ∧ (Value.slice ga gm gc).ownBlock ≠ some g
  on : Rd wr (fun b => b = O) (wordR [txtP [49]]) (.slice (some ⟨O, 0, none⟩) 1 1)
  op : Pr X N (Value.slice wa wm wc).ownBlock (Value.slice ga gm gc).ownBlock (Value.slice ra rm rk).ownBlock O
  ol : O < wr.heap.size
  xl : w0.heap.size ≤ N ∧ w0.heap.size ≤ X ∧ X ≤ wr.heap.size
section
variable {w0 wr w4 : World} {X N O : Nat} {wa : Option Addr} {wm wc : Nat} {ws : List Dt} {ga : Option Addr} {gm gc : Nat} {gs : List Dt} {ra : Option Addr} {rm rk : Nat} {rd : List Dt}
theorem SmK.keep0 (h : SmK w0 wr X N O wa wm wc ws ga gm gc gs ra rm rk rd) (hk : Keeps (fun _ => False) wr w4) : SmK w0 w4 X N O wa wm wc ws ga gm gc gs ra rm rk rd :=
  ⟨h.kp.trans hk (fun _ _ e => e.elim), h.ro.keep hk (fun e => e), h.o1.keep hk (fun b _ _ e => e) (fun g _ e => e), h.o2.keep hk (fun b _ _ e => e) (fun g _ e => e), h.o3.keep hk (fun b _ _ e => e) (fun g _ e => e), h.l1, h.l2, h.l3,
   h.on.keep hk (fun _ _ _ e => e), h.op, Nat.lt_of_lt_of_le h.ol hk.size, ⟨h.xl.1, h.xl.2.1, Nat.le_trans h.xl.2.2 hk.size⟩⟩
theorem SmK.sizes (h : SmK w0 wr X N O wa wm wc ws ga gm gc gs ra rm rk rd) : X ≤ wr.heap.size ∧ N < wr.heap.size ∧ ∀ g, ((Value.slice wa wm wc).ownBlock = some g ∨ (Value.slice ga gm gc).ownBlock = some g ∨ (Value.slice ra rm rk).ownBlock = some g) → g < wr.heap.size :=
  ⟨h.xl.2.2, h.ro.lt, fun g hg => by rcases hg with hg | hg | hg; exact h.o1.lt hg; exact h.o2.lt hg; exact h.o3.lt hg⟩
theorem SmK.pnew (h : SmK w0 wr X N O wa wm wc ws ga gm gc gs ra rm rk rd) {b : Nat} (hb : wr.heap.size ≤ b) : Pr X N (Value.slice wa wm wc).ownBlock (Value.slice ga gm gc).ownBlock (Value.slice ra rm rk).ownBlock b := by
  obtain ⟨s1, s2, s3⟩ := h.sizes
  exact ⟨⟨by omega, by omega⟩, fun e => by have := s3 b (.inl e); omega, fun e => by have := s3 b (.inr (.inl e)); omega, fun e => by have := s3 b (.inr (.inr e)); omega⟩
theorem SmK.rest {w5 w6 : World} {v u : Value} {f : Nat} (h : SmK w0 w4 X N O wa wm wc ws ga gm gc gs ra rm rk rd)
    (hv : ∀ g, v.ownBlock = some g → X ≤ g ∧ g ≠ N) (hvo : v.ownBlock ≠ some O) (hk5 : Keeps (fun b => v.ownBlock = some b) w4 w5) (hw6 : w6 = w5.setCell ⟨N, f, none⟩ u) :
    Keeps (fun b => w0.heap.size ≤ b) w0 w6 ∧ Rd w6 (fun b => b = O) (wordR [txtP [49]]) (.slice (some ⟨O, 0, none⟩) 1 1) ∧ O < w6.heap.size ∧ (w0.heap.size ≤ N ∧ w0.heap.size ≤ X ∧ X ≤ w6.heap.size) ∧
    RecAt w5 N [.int .i64 1, .bool false, .string ⟨#[]⟩, .slice wa wm wc, .slice ga gm gc, .slice ra rm rk, .slice none 0 0, .slice none 0 0] ∧
    RecAt w6 N ([.int .i64 1, .bool false, .string ⟨#[]⟩, .slice wa wm wc, .slice ga gm gc, .slice ra rm rk, .slice none 0 0, .slice none 0 0].set f u) := by
  have hk6 : Keeps (fun b => b = N) w5 w6 := by rw [hw6]; exact (Keeps.refl _ _).setCell _ _ fun _ => rfl
  have hrc5 := h.ro.keep hk5 (fun e => (hv N e).2 rfl)
  have hON := h.op.1.2
  have hxl := h.xl
  have hs := hk5.size
  have hs6 := hk6.size
  have hol := h.ol
  refine ⟨(h.kp.trans hk5 (fun b hb e => by have := (hv b e).1; omega)).trans hk6 (fun b hb e => by omega), (h.on.keep hk5 (fun b _ hb e => hvo (by rw [← hb]; exact e))).keep hk6 (fun b _ hb e => hON (by rw [← hb]; exact e)), by omega, ⟨hxl.1, hxl.2.1, by omega⟩, hrc5, ?_⟩
  rw [hw6]
  exact hrc5.set f u
/-- A redirection more. -/
theorem SmK.moreR (h : SmK w0 w4 X N O wa wm wc ws ga gm gc gs ra rm rk rd) {d2 : List Dt} {us : List Value} (hx : RdL w4 (Pr X N (Value.slice wa wm wc).ownBlock (Value.slice ga gm gc).ownBlock (Value.slice ra rm rk).ownBlock) d2 us) :
    ∃ xs, w4.ownsRow 0 47 2 (.slice ra rm rk) rm xs ∧ RecAt w4 N [.int .i64 1, .bool false, .string ⟨#[]⟩, .slice wa wm wc, .slice ga gm gc, .slice ra rm rk, .slice none 0 0, .slice none 0 0] ∧
      ∀ (gg cap : Nat) (w5 : World) (o : Obj), w5.ownsRow 0 47 2 (.slice (some ⟨gg, 0, none⟩) (rm + 1) cap) (rm + 1) (xs ++ us) → (w4.alloc o).grownBy w5 (Value.slice ra rm rk).ownBlock → ((Value.slice ra rm rk).ownBlock = some gg ∨ gg = w4.heap.size + 1) →
        RecAt w5 N [.int .i64 1, .bool false, .string ⟨#[]⟩, .slice wa wm wc, .slice ga gm gc, .slice ra rm rk, .slice none 0 0, .slice none 0 0] ∧
        SmK w0 (w5.setCell ⟨N, 5, none⟩ (.slice (some ⟨gg, 0, none⟩) (rm + 1) cap)) X N O wa wm wc ws ga gm gc gs (some ⟨gg, 0, none⟩) (rm + 1) cap (rd ++ d2) := by
  have h4 := h
  obtain ⟨s1, s2, s3⟩ := h.sizes
  obtain ⟨xs, ho, hF⟩ := grow3b (fun b hb => ⟨hb.1, hb.2.2.2, hb.2.1, hb.2.2.1⟩) h4.o3 h4.o1 h4.o2 h4.l3 (fun g hg => (h4.l1 g hg).2.1) (fun g hg => (h4.l2 g hg).2.1)
    ⟨s1, s2, fun g hg => by rcases hg with hg | hg | hg; exact s3 g (.inr (.inr hg)); exact s3 g (.inl hg); exact s3 g (.inr (.inl hg))⟩ hx
  refine ⟨xs, ho, h4.ro, fun gg cap w5 o hown hgrow hat => ?_⟩
  obtain ⟨⟨a1, a2, a3, a4⟩, hk5, p1, p2, p3⟩ := hF gg cap w5 o 5 (Pr X N (Value.slice wa wm wc).ownBlock (Value.slice ga gm gc).ownBlock (Value.slice (some ⟨gg, 0, none⟩) (rm + 1) cap).ownBlock) hown hgrow hat (fun b hb hg => ⟨hb.1, hb.2.1, hb.2.2.1, fun e => hg (Option.some.inj e)⟩)
  obtain ⟨r1, r2, r3, r4, r5, r6⟩ := h4.rest (fun g hg => ⟨(h4.l3 g hg).1, (h4.l3 g hg).2.1⟩) h4.op.2.2.2 hk5 (f := 5) (u := .slice (some ⟨gg, 0, none⟩) (rm + 1) cap) rfl
  have hgO : gg ≠ O := fun e => by
    rcases hat with h9 | h9
    · exact h4.op.2.2.2 (by rw [h9, e])
    · have := h4.ol; omega
  exact ⟨r5, ⟨r1, r6, p2, p3, p1, fun g hg => ⟨(h4.l1 g hg).1, (h4.l1 g hg).2.1, (h4.l1 g hg).2.2.1, fun e => by have h9 : gg = g := Option.some.inj e; exact a3 (by rw [h9]; exact hg)⟩,
    fun g hg => ⟨(h4.l2 g hg).1, (h4.l2 g hg).2.1, (h4.l2 g hg).2.2.1, fun e => by have h9 : gg = g := Option.some.inj e; exact a4 (by rw [h9]; exact hg)⟩, fun g hg => by have h9 : gg = g := Option.some.inj hg; subst h9; exact ⟨a1, a2, a3, a4⟩, r2, ⟨h4.op.1, h4.op.2.1, h4.op.2.2.1, fun e => hgO (Option.some.inj e)⟩, r3, r4⟩⟩
/-- A word more. -/
theorem SmK.moreW (h : SmK w0 w4 X N O wa wm wc ws ga gm gc gs ra rm rk rd) {d2 : List Dt} {us : List Value} (hx : RdL w4 (Pr X N (Value.slice wa wm wc).ownBlock (Value.slice ga gm gc).ownBlock (Value.slice ra rm rk).ownBlock) d2 us) :
    ∃ xs, w4.ownsRow 0 32 1 (.slice wa wm wc) wm xs ∧ RecAt w4 N [.int .i64 1, .bool false, .string ⟨#[]⟩, .slice wa wm wc, .slice ga gm gc, .slice ra rm rk, .slice none 0 0, .slice none 0 0] ∧
      ∀ (gg cap : Nat) (w5 : World) (o : Obj), w5.ownsRow 0 32 1 (.slice (some ⟨gg, 0, none⟩) (wm + 1) cap) (wm + 1) (xs ++ us) → (w4.alloc o).grownBy w5 (Value.slice wa wm wc).ownBlock → ((Value.slice wa wm wc).ownBlock = some gg ∨ gg = w4.heap.size + 1) →
        RecAt w5 N [.int .i64 1, .bool false, .string ⟨#[]⟩, .slice wa wm wc, .slice ga gm gc, .slice ra rm rk, .slice none 0 0, .slice none 0 0] ∧
        SmK w0 (w5.setCell ⟨N, 3, none⟩ (.slice (some ⟨gg, 0, none⟩) (wm + 1) cap)) X N O (some ⟨gg, 0, none⟩) (wm + 1) cap (ws ++ d2) ga gm gc gs ra rm rk rd := by
  have h4 := h
  obtain ⟨s1, s2, s3⟩ := h.sizes
  obtain ⟨xs, ho, hF⟩ := grow3b (fun b hb => ⟨hb.1, hb.2.1, hb.2.2.1, hb.2.2.2⟩) h4.o1 h4.o2 h4.o3 h4.l1 (fun g hg => (h4.l2 g hg).2.1) (fun g hg => (h4.l3 g hg).2.1)
    ⟨s1, s2, s3⟩ hx
  refine ⟨xs, ho, h4.ro, fun gg cap w5 o hown hgrow hat => ?_⟩
  obtain ⟨⟨a1, a2, a3, a4⟩, hk5, p1, p2, p3⟩ := hF gg cap w5 o 3 (Pr X N (Value.slice (some ⟨gg, 0, none⟩) (wm + 1) cap).ownBlock (Value.slice ga gm gc).ownBlock (Value.slice ra rm rk).ownBlock) hown hgrow hat (fun b hb hg => ⟨hb.1, fun e => hg (Option.some.inj e), hb.2.2.1, hb.2.2.2⟩)
  obtain ⟨r1, r2, r3, r4, r5, r6⟩ := h4.rest (fun g hg => ⟨(h4.l1 g hg).1, (h4.l1 g hg).2.1⟩) h4.op.2.1 hk5 (f := 3) (u := .slice (some ⟨gg, 0, none⟩) (wm + 1) cap) rfl
  have hgO : gg ≠ O := fun e => by
    rcases hat with h9 | h9
    · exact h4.op.2.1 (by rw [h9, e])
    · have := h4.ol; omega
  exact ⟨r5, ⟨r1, r6, p1, p2, p3, fun g hg => (by have h9 : gg = g := Option.some.inj hg; subst h9; exact ⟨a1, a2, a3, a4⟩),
    fun g hg => ⟨(h4.l2 g hg).1, (h4.l2 g hg).2.1, fun e => (by have h9 : gg = g := Option.some.inj e; exact a3 (by rw [h9]; exact hg)), (h4.l2 g hg).2.2.2⟩,
    fun g hg => ⟨(h4.l3 g hg).1, (h4.l3 g hg).2.1, fun e => (by have h9 : gg = g := Option.some.inj e; exact a4 (by rw [h9]; exact hg)), (h4.l3 g hg).2.2.2⟩, r2, ⟨h4.op.1, fun e => hgO (Option.some.inj e), h4.op.2.2.1, h4.op.2.2.2⟩, r3, r4⟩⟩
/-- An assignment more. -/
theorem SmK.moreA (h : SmK w0 w4 X N O wa wm wc ws ga gm gc gs ra rm rk rd) {d2 : List Dt} {us : List Value} (hx : RdL w4 (Pr X N (Value.slice wa wm wc).ownBlock (Value.slice ga gm gc).ownBlock (Value.slice ra rm rk).ownBlock) d2 us) :
    ∃ xs, w4.ownsRow 0 45 2 (.slice ga gm gc) gm xs ∧ RecAt w4 N [.int .i64 1, .bool false, .string ⟨#[]⟩, .slice wa wm wc, .slice ga gm gc, .slice ra rm rk, .slice none 0 0, .slice none 0 0] ∧
      ∀ (gg cap : Nat) (w5 : World) (o : Obj), w5.ownsRow 0 45 2 (.slice (some ⟨gg, 0, none⟩) (gm + 1) cap) (gm + 1) (xs ++ us) → (w4.alloc o).grownBy w5 (Value.slice ga gm gc).ownBlock → ((Value.slice ga gm gc).ownBlock = some gg ∨ gg = w4.heap.size + 1) →
        RecAt w5 N [.int .i64 1, .bool false, .string ⟨#[]⟩, .slice wa wm wc, .slice ga gm gc, .slice ra rm rk, .slice none 0 0, .slice none 0 0] ∧
        SmK w0 (w5.setCell ⟨N, 4, none⟩ (.slice (some ⟨gg, 0, none⟩) (gm + 1) cap)) X N O wa wm wc ws (some ⟨gg, 0, none⟩) (gm + 1) cap (gs ++ d2) ra rm rk rd := by
  have h4 := h
  obtain ⟨s1, s2, s3⟩ := h.sizes
  obtain ⟨xs, ho, hF⟩ := grow3b (fun b hb => ⟨hb.1, hb.2.2.1, hb.2.1, hb.2.2.2⟩) h4.o2 h4.o1 h4.o3 h4.l2 (fun g hg => (h4.l1 g hg).2.1) (fun g hg => (h4.l3 g hg).2.1)
    ⟨s1, s2, fun g hg => by rcases hg with hg | hg | hg; exact s3 g (.inr (.inl hg)); exact s3 g (.inl hg); exact s3 g (.inr (.inr hg))⟩ hx
  refine ⟨xs, ho, h4.ro, fun gg cap w5 o hown hgrow hat => ?_⟩
  obtain ⟨⟨a1, a2, a3, a4⟩, hk5, p1, p2, p3⟩ := hF gg cap w5 o 4 (Pr X N (Value.slice wa wm wc).ownBlock (Value.slice (some ⟨gg, 0, none⟩) (gm + 1) cap).ownBlock (Value.slice ra rm rk).ownBlock) hown hgrow hat (fun b hb hg => ⟨hb.1, hb.2.1, fun e => hg (Option.some.inj e), hb.2.2.2⟩)
  obtain ⟨r1, r2, r3, r4, r5, r6⟩ := h4.rest (fun g hg => ⟨(h4.l2 g hg).1, (h4.l2 g hg).2.1⟩) h4.op.2.2.1 hk5 (f := 4) (u := .slice (some ⟨gg, 0, none⟩) (gm + 1) cap) rfl
  have hgO : gg ≠ O := fun e => by
    rcases hat with h9 | h9
    · exact h4.op.2.2.1 (by rw [h9, e])
    · have := h4.ol; omega
  exact ⟨r5, ⟨r1, r6, p2, p1, p3, fun g hg => ⟨(h4.l1 g hg).1, (h4.l1 g hg).2.1, fun e => (by have h9 : gg = g := Option.some.inj e; exact a3 (by rw [h9]; exact hg)), (h4.l1 g hg).2.2.2⟩,
    fun g hg => (by have h9 : gg = g := Option.some.inj hg; subst h9; exact ⟨a1, a2, a3, a4⟩),
    fun g hg => ⟨(h4.l3 g hg).1, (h4.l3 g hg).2.1, (h4.l3 g hg).2.2.1, fun e => (by have h9 : gg = g := Option.some.inj e; exact a4 (by rw [h9]; exact hg))⟩, r2, ⟨h4.op.1, h4.op.2.1, fun e => hgO (Option.some.inj e), h4.op.2.2.2⟩, r3, r4⟩⟩
theorem SmK.all (h : SmK w0 wr X N O wa wm wc ws ga gm gc gs ra rm rk rd) : RdL wr (fun b => X ≤ b) (ndR 1 false [] ws gs rd [] []) [.int .i64 1, .bool false, .string ⟨#[]⟩, .slice wa wm wc, .slice ga gm gc, .slice ra rm rk, .slice none 0 0, .slice none 0 0] := by
  have key : ∀ {v : Value} {k m : Nat} {Ty : TypeId} {ds : List Dt} {P : Nat → Prop}, OwnD wr P v k Ty m ds → (∀ b, P b → X ≤ b) → (∀ g, v.ownBlock = some g → X ≤ g) → Rd wr (fun b => X ≤ b) (.sl k ds) v := fun ho hP hv => by
    obtain ⟨us, hu, hoo⟩ := ho
    exact OwnD.reads (D := fun b => X ≤ b) ⟨us, hu.mono fun b _ hb => ⟨hP b hb.1, hb.2⟩, hoo⟩ hv
  exact ⟨.int _, .bool _, .str _, key h.o1 (fun b hb => hb.1.1) (fun g hg => (h.l1 g hg).1), key h.o2 (fun b hb => hb.1.1) (fun g hg => (h.l2 g hg).1), key h.o3 (fun b hb => hb.1.1) (fun g hg => (h.l3 g hg).1), .nil _ _ _ (Nat.zero_le _), .nil _ _ _ (Nat.zero_le _), trivial⟩
end
set_option maxRecDepth 100000 in
/-- A word of plain text. -/
theorem textWord_any (s : ByteArray) (w : World) : Calls Tryd.prog 13 #[.string s] w fun e w' =>
    ∃ g, e = .returned (.slice (some ⟨g, 0, none⟩) 1 1) ∧ w.heap.size ≤ g ∧ g < w'.heap.size ∧ Rd w' (fun b => b = g) (wordR [txtP s.data.toList]) (.slice (some ⟨g, 0, none⟩) 1 1) ∧ Keeps (fun _ => False) w w' := by
  go_enter Tryd.func13, Tryd.ntmps13
  go_wp2_with fail
  go_ret
  refine ⟨w.heap.size, rfl, Nat.le_refl _, by simp, ?_, (Keeps.refl _ _).alloc _⟩
  refine rd_pts (n := 1) ⟨some ⟨w.heap.size, 0, none⟩, 1, rfl, Nat.le_refl _, by decide, fun i hi => ?_⟩
  obtain rfl : i = 0 := by simp at hi; omega
  refine ⟨w.heap.size, 0, .slice none 0 0, rfl, by simp, rfl, fun j u hu => ?_, ⟨rfl, none, 0, rfl, Nat.zero_le _⟩⟩
  have hb := heap_alloc_new w (.cells #[.int .i64 1, .string s, .string ⟨#[]⟩, .string ⟨#[]⟩, .slice none 0 0, .bool false] 34)
  rw [cell_of_row _ _ _ _ _ _ hb]
  have h6 : j = 0 ∨ j = 1 ∨ j = 2 ∨ j = 3 ∨ j = 4 ∨ j = 5 := by
    have : j < 6 := by
      rcases Nat.lt_or_ge j 6 with h | h
      · exact h
      · rw [List.getElem?_eq_none (by rw [cellsP_len]; exact h)] at hu; cases hu
    omega
  rcases h6 with rfl | rfl | rfl | rfl | rfl | rfl <;> (obtain rfl := Option.some.inj hu; rfl)
end Go.Proofs.YtcahifkiiabioaaDoor
namespace Go.Proofs.YtcahifkiiabioaaDoor
set_option linter.unusedVariables false

def aT : Tk := wT [97]
def nlsT (b : Bool) : List Tk := if b then [oT [10], oT [10]] else []
def gapS (b : Bool) : List UInt8 := if b then [10, 10] else [32]
def opS (k : Nat) : List UInt8 := match k with
  | 0 => [124]
  | 1 => [38, 38]
  | _ => [124, 124]
def chS (b : Bool) (ks : List Nat) : List UInt8 := ks.flatMap fun k => 32 :: (opS k ++ (gapS b ++ [97]))
def chT (b : Bool) (ks : List Nat) : List Tk := ks.flatMap fun k => oT (opS k) :: (nlsT b ++ [aT])
theorem chS_cons (b : Bool) (k : Nat) (ks : List Nat) : chS b (k :: ks) = 32 :: (opS k ++ (gapS b ++ 97 :: chS b ks)) := by simp [chS]
theorem chT_cons (b : Bool) (k : Nat) (ks : List Nat) : chT b (k :: ks) = oT (opS k) :: (nlsT b ++ aT :: chT b ks) := by simp [chT]
theorem chS_brk (b : Bool) (ks : List Nat) : Brk (chS b ks) := by
  cases ks with
  | nil => exact .inl rfl
  | cons k ks => rw [chS_cons]; exact Brk.sp _
theorem gap_toks (b : Bool) (X : List UInt8) : tokC (gapS b ++ X) = consL (nlsT b) (tokC X) := by
  cases b with
  | false => show tokC (32 :: X) = _; rw [tokC_blank (by decide)]; exact (consL_nil _).symm
  | true =>
    show tokC (10 :: 10 :: X) = _
    rw [tokC_sep, tokC_sep, consT_L, consT_L, consL_consL]
    rfl
theorem op_toks (b : Bool) (k : Nat) (X : List UInt8) : tokC (opS k ++ (gapS b ++ X)) = consT (oT (opS k)) (tokC (gapS b ++ X)) := by
  match k with
  | 0 => cases b <;> exact tokC_o (t := []) (c := 124) rfl rfl (by decide) (by decide) (by decide)
  | 1 => cases b <;> exact tokC_o (t := [38]) (c := 38) rfl rfl (by decide) (by decide) (by decide)
  | k + 2 => cases b <;> exact tokC_o (t := [124]) (c := 124) rfl rfl (by decide) (by decide) (by decide)
theorem ch_toks (b : Bool) : ∀ ks : List Nat, tokC (97 :: chS b ks) = .ok (aT :: chT b ks)
  | [] => by
    have h := tokC_w (c := 97) (s := []) (X := []) (by decide) (by decide) (.inl rfl)
    rw [show tokC [] = .ok [] from rfl] at h
    exact h
  | k :: ks => by
    have h := tokC_w (c := 97) (s := []) (X := chS b (k :: ks)) (by decide) (by decide) (chS_brk b _)
    have e : tokC (97 :: chS b (k :: ks)) = consT (wT [97]) (tokC (chS b (k :: ks))) := h
    rw [e, chS_cons, tokC_blank (by decide), op_toks, gap_toks, ch_toks b ks, chT_cons]
    rfl
theorem chS_bytes (b : Bool) : ∀ ks : List Nat, (chS b ks).length ≤ 6 * ks.length ∧ ∀ c ∈ chS b ks, c ≠ 0
  | [] => ⟨by simp [chS], by simp [chS]⟩
  | k :: ks => by
    obtain ⟨h1, h2⟩ := chS_bytes b ks
    have ho : (opS k).length ≤ 2 ∧ ∀ c ∈ opS k, c ≠ 0 := by
      match k with
      | 0 => exact ⟨by decide, by decide⟩
      | 1 => exact ⟨by decide, by decide⟩
      | k + 2 => exact (show ([124, 124] : List UInt8).length ≤ 2 ∧ ∀ c ∈ ([124, 124] : List UInt8), c ≠ 0 from ⟨by decide, by decide⟩)
    have hg : (gapS b).length ≤ 2 ∧ ∀ c ∈ gapS b, c ≠ 0 := by cases b <;> decide
    rw [chS_cons]
    refine ⟨by simp only [List.length_cons, List.length_append]; omega, fun c hc => ?_⟩
    rcases List.mem_cons.1 hc with rfl | hc
    · decide
    · rcases List.mem_append.1 hc with hc | hc
      · exact ho.2 c hc
      · rcases List.mem_append.1 hc with hc | hc
        · exact hg.2 c hc
        · rcases List.mem_cons.1 hc with rfl | hc
          · decide
          · exact h2 c hc
def aD : List Dt := ndR 1 false [] [wordR [txtP [97]]] [] [] [] []
def manyA (m : Nat) : List Dt := (List.replicate m aD).flatten
theorem manyA_succ (m : Nat) : manyA (m + 1) = aD ++ manyA m := by simp [manyA, List.replicate_succ]
theorem manyA_snoc (m : Nat) : manyA (m + 1) = manyA m ++ aD := by simp [manyA, List.replicate_succ']
theorem manyA_len : ∀ m, (manyA m).length = m * 8
  | 0 => rfl
  | m + 1 => by rw [manyA_succ, List.length_append, manyA_len m]; show 8 + m * 8 = _; omega
/-- A pipeline of so many more. -/
def pipeD (m : Nat) : List Dt := if m = 0 then aD else ndR 2 false [] [] [] [] (manyA (m + 1)) []
def combD (kd : Nat) (ah n : List Dt) : List Dt := if kd = 0 then n else ndR kd false [] [] [] [] (ah ++ n) []
def kdOf (k : Nat) : Nat := if k = 1 then 3 else 4
def chainD : List Nat → Nat → Nat → List Dt → List Dt
  | [], m, kd, ah => combD kd ah (pipeD m)
  | k :: ks, m, kd, ah => if k = 0 then chainD ks (m + 1) kd ah else chainD ks 0 (kdOf k) (combD kd ah (pipeD m))
def lead : List Nat → Nat
  | [] => 0
  | k :: ks => if k = 0 then lead ks + 1 else 0
def remK : List Nat → List Nat
  | [] => []
  | k :: ks => if k = 0 then remK ks else k :: ks
theorem remK_len : ∀ ks : List Nat, (remK ks).length ≤ ks.length
  | [] => Nat.le_refl _
  | k :: ks => by
    unfold remK
    split
    · exact Nat.le_succ_of_le (remK_len ks)
    · exact Nat.le_refl _
theorem remK_head : ∀ {ks : List Nat} {k : Nat} {t : List Nat}, remK ks = k :: t → k ≠ 0
  | [], k, t, h => by cases h
  | x :: ks, k, t, h => by
    unfold remK at h
    split at h
    · exact remK_head h
    · next hx => cases h; exact hx
theorem chain_lead : ∀ (ks : List Nat) (m kd : Nat) (ah : List Dt), chainD ks m kd ah = chainD (remK ks) (m + lead ks) kd ah
  | [], m, kd, ah => rfl
  | k :: ks, m, kd, ah => by
    unfold remK lead
    by_cases h : k = 0
    · rw [if_pos h, if_pos h]
      have e : chainD (k :: ks) m kd ah = chainD ks (m + 1) kd ah := if_pos h
      rw [e, chain_lead ks (m + 1) kd ah]
      congr 1
      omega
    · rw [if_neg h, if_neg h]
      rfl
theorem chT_len (b : Bool) : ∀ ks : List Nat, (chT b (remK ks)).length ≤ (chT b ks).length
  | [] => Nat.le_refl _
  | k :: ks => by
    unfold remK
    split
    · have := chT_len b ks
      rw [chT_cons]
      simp only [List.length_cons, List.length_append]
      omega
    · exact Nat.le_refl _
theorem a_next (b : Bool) (ks : List Nat) : commandF 40 (aT :: chT b ks) = .ok (aD, chT b ks) := by
  have h1 : redirB (chT b ks) = false ∧ ((atF (chT b ks)).kind == 1) = false ∧ isOpF [40] (chT b ks) = false := by
    cases ks with
    | nil => exact ⟨rfl, rfl, rfl⟩
    | cons k ks =>
      rw [chT_cons]
      match k with
      | 0 => exact ⟨rfl, rfl, rfl⟩
      | 1 => exact ⟨rfl, rfl, rfl⟩
      | k + 2 => exact ⟨rfl, rfl, rfl⟩
  have h := word_cmd0 (s := [97]) (by decide) (by decide) (by decide) (by decide) h1.1 h1.2.1 h1.2.2 40
  rw [if_neg (by decide)] at h
  exact h
theorem lines_nlsT (b : Bool) (X : List Tk) : linesF (nlsT b ++ aT :: X) = aT :: X := by cases b <;> rfl
theorem not_pipe (b : Bool) (ks : List Nat) : isOpF [124] (chT b ks) = match ks with
    | [] => false
    | k :: _ => decide (k = 0) := by
  cases ks with
  | nil => rfl
  | cons k ks =>
    rw [chT_cons]
    match k with
    | 0 => rfl
    | 1 => rfl
    | k + 2 => rfl
theorem pipe_run (b : Bool) : ∀ (ks : List Nat) (n : Nat) (acc : List Dt), (chT b ks).length < n → pipeLoop (commandF 40) n acc (chT b ks) = .ok (acc ++ manyA (lead ks), chT b (remK ks))
  | ks, 0, acc, h => by omega
  | [], n + 1, acc, h => by
    unfold pipeLoop
    rw [not_pipe, if_neg (by simp)]
    show Except.ok (acc, _) = Except.ok (acc ++ [], _)
    rw [List.append_nil]
    rfl
  | k :: ks, n + 1, acc, h => by
    unfold pipeLoop
    rw [not_pipe]
    unfold lead remK
    by_cases h0 : k = 0
    · subst h0
      dsimp only
      rw [if_pos (by simp), if_pos rfl, if_pos rfl]
      have e : linesF (chT b (0 :: ks)).tail = aT :: chT b ks := by rw [chT_cons]; exact lines_nlsT b _
      rw [e, a_next]
      dsimp only
      rw [chT_cons] at h
      simp only [List.length_cons, List.length_append] at h
      rw [pipe_run b ks n (acc ++ aD) (by omega), manyA_succ, List.append_assoc]
    · dsimp only
      rw [if_neg (by simpa using h0), if_neg h0, if_neg h0]
      show Except.ok (acc, _) = Except.ok (acc ++ [], _)
      rw [List.append_nil]
theorem pipe_line (b : Bool) (ks : List Nat) : pipelineF (commandF 40) (aT :: chT b ks) = .ok (pipeD (lead ks), chT b (remK ks)) := by
  unfold pipelineF
  rw [show (if isWF [33] (aT :: chT b ks) then (aT :: chT b ks).tail else aT :: chT b ks) = aT :: chT b ks from rfl, a_next]
  dsimp only
  rw [pipe_run b ks _ aD (by omega)]
  dsimp only
  have hl : (aD ++ manyA (lead ks)).length = (lead ks + 1) * 8 := by rw [← manyA_succ, manyA_len]
  unfold pipeD
  by_cases h : lead ks = 0
  · rw [if_pos ⟨by rw [hl, h], rfl⟩, if_pos h, h]
    show Except.ok (aD ++ [], _) = _
    rw [List.append_nil]
  · rw [if_neg (fun hh => by have := hh.1; rw [hl] at this; omega), if_neg h, manyA_succ]
    rfl
theorem and_run (b : Bool) : ∀ (N : Nat) (ks : List Nat) (m kd n : Nat) (ah : List Dt), ks.length ≤ N → (∀ k t, ks = k :: t → k ≠ 0) → (chT b ks).length < n → andLoop (commandF 40) n (combD kd ah (pipeD m)) (chT b ks) = .ok (chainD ks m kd ah, [])
  | N, ks, m, kd, 0, ah, h1, h2, h3 => by omega
  | N, [], m, kd, n + 1, ah, h1, h2, h3 => by
    unfold andLoop
    rfl
  | 0, k :: ks, m, kd, n + 1, ah, h1, h2, h3 => by simp at h1
  | N + 1, k :: ks, m, kd, n + 1, ah, h1, h2, h3 => by
    have hk := h2 k ks rfl
    have e : chainD (k :: ks) m kd ah = chainD (remK ks) (lead ks) (kdOf k) (combD kd ah (pipeD m)) := by
      have : chainD (k :: ks) m kd ah = chainD ks 0 (kdOf k) (combD kd ah (pipeD m)) := if_neg hk
      rw [this, chain_lead ks 0, Nat.zero_add]
    rw [e]
    have ht : linesF (chT b (k :: ks)).tail = aT :: chT b ks := by rw [chT_cons]; exact lines_nlsT b _
    have hlen := remK_len ks
    have hlen2 := chT_len b ks
    rw [chT_cons] at h3
    simp only [List.length_cons, List.length_append] at h1 h3
    have ih := and_run b N (remK ks) (lead ks) (kdOf k) n (combD kd ah (pipeD m)) (by omega) (fun _ _ h => remK_head h) (by omega)
    unfold andLoop
    rw [ht, pipe_line]
    dsimp only
    rw [← ih]
    match k with
    | 0 => exact absurd rfl hk
    | 1 => rw [chT_cons]; rfl
    | k + 2 =>
      rw [chT_cons]
      have : kdOf (k + 2) = 4 := if_neg (by omega)
      rw [this]
      rfl
theorem comb_len (kd : Nat) (ah : List Dt) (m : Nat) : (combD kd ah (pipeD m)).length = 8 := by
  unfold combD pipeD
  split
  · split <;> rfl
  · rfl
theorem chain_len : ∀ (ks : List Nat) (m kd : Nat) (ah : List Dt), (chainD ks m kd ah).length = 8
  | [], m, kd, ah => comb_len kd ah m
  | k :: ks, m, kd, ah => by
    unfold chainD
    split
    · exact chain_len ks _ _ _
    · exact chain_len ks _ _ _
/-- And, or and pipelines go from the left on. -/
theorem chain_parse (b : Bool) (ks : List Nat) (hk : ks.length ≤ 20) : parseF (97 :: chS b ks) = .ok (chainD ks 0 0 []) := by
  obtain ⟨h1, h2⟩ := chS_bytes b ks
  have ht : tokensF (97 :: chS b ks) = .ok (aT :: chT b ks) := by
    rw [tokensF_C _ (may_plain (by simp only [List.length_cons]; omega) (fun c hc => by
      rcases List.mem_cons.1 hc with rfl | hc
      · decide
      · exact h2 c hc)), ch_toks]
  unfold parseF scriptF
  rw [ht]
  show treeF (commandF 40) (aT :: chT b ks) = _
  unfold treeF
  rw [show linesF (aT :: chT b ks) = aT :: chT b ks from rfl]
  show (match allF (commandF 40) (aT :: chT b ks) with
    | .error e => (.error e : Except Nat (List Dt))
    | .ok (l, r) => if r.isEmpty then .ok (seqF l) else .error 2) = _
  have ha : andOrF (commandF 40) (aT :: chT b ks) = .ok (chainD ks 0 0 [], []) := by
    unfold andOrF
    rw [pipe_line]
    dsimp only
    have e : chainD ks 0 0 [] = chainD (remK ks) (lead ks) 0 [] := by rw [chain_lead ks 0, Nat.zero_add]
    rw [e, ← and_run b (remK ks).length (remK ks) (lead ks) 0 _ [] (Nat.le_refl _) (fun _ _ h => remK_head h) (Nat.lt_succ_self _)]
    rfl
  unfold allF
  rw [ha]
  dsimp only
  rw [allLoop_s]
  show Except.ok (seqF (chainD ks 0 0 [])) = _
  unfold seqF
  rw [if_pos (chain_len ks 0 0 [])]
end Go.Proofs.YtcahifkiiabioaaDoor
