/-
  The scripts of a word; a word is taken.
  A word is taken; a redirection; an assignment.
  A redirection; an assignment.
  An assignment.
  Commands in memory; the one command of some.
  Pipelines.
  And and or.
  Lists of commands.
  A record in memory, of which one field grows.
-/
import Derived.Test.YtiihpbccabeoeaaDoorPkE
import Derived.Lib.IndexMore
namespace Go.Proofs.YtiihpbccabeoeaaDoor
open Go.RowKit
set_option linter.unusedVariables false

/-- What a script comes to. -/
def ScrPost (w : World) (res : Except Nat (List Dt)) (e : Ending) (w' : World) : Prop := match res with
  | .ok ds => ∃ (a : Option Addr) (m c : Nat), e = .returned (.tuple #[.slice a m c, .int .i64 0]) ∧ Rd w' (fun b => w.heap.size ≤ b) (.sl 8 ds) (.slice a m c) ∧ Keeps (fun _ => False) w w'
  | .error x => e = .returned (.tuple #[.slice none 0 0, .int .i64 (x : Nat)]) ∧ Keeps (fun _ => False) w w'
theorem scr_ok {K : Nat} {s : Bs} {w w' : World} {e : Ending} {u : Unit} (h : scrF (commandF K) s = .ok u) (hp : ScrPost w (scriptF (commandF K) s) e w') :
    ∃ (a : Option Addr) (m c : Nat), e = .returned (.tuple #[.slice a m c, .int .i64 0]) ∧ Keeps (fun _ => False) w w' := by
  unfold scrF at h
  cases hr : scriptF (commandF K) s with
  | ok ds =>
    rw [hr] at hp
    obtain ⟨a, m, c, he, _, hk⟩ := hp
    exact ⟨a, m, c, he, hk⟩
  | error x =>
    rw [hr] at hp h
    cases x with
    | zero => exact ⟨none, 0, 0, hp.1, hp.2⟩
    | succ x => cases h
theorem scr_err {K : Nat} {s : Bs} {w w' : World} {e : Ending} {y : Nat} (h : scrF (commandF K) s = .error y) (hp : ScrPost w (scriptF (commandF K) s) e w') :
    e = .returned (.tuple #[.slice none 0 0, .int .i64 (y : Nat)]) ∧ y ≠ 0 ∧ Keeps (fun _ => False) w w' := by
  unfold scrF at h
  cases hr : scriptF (commandF K) s with
  | ok ds => rw [hr] at h; cases h
  | error x =>
    rw [hr] at hp h
    cases x with
    | zero => cases h
    | succ x => cases h; exact ⟨hp.1, Nat.succ_ne_zero _, hp.2⟩
theorem subsF_nil (scr : Bs → Except Nat Unit) : subsF scr [] = .ok () := by simp [subsF]
theorem subsF_cons (scr : Bs → Except Nat Unit) (p : Pt) (l : List Pt) : subsF scr (p :: l) = match (if p.kind == 5 then scr p.text else .ok ()) with
    | .error e => .error e
    | .ok _ => match subsF scr p.word with
      | .error e => .error e
      | .ok _ => subsF scr l := by
  cases p with
  | mk k t n o w q =>
    simp only [subsF, subsP, Pt.kind, Pt.text, Pt.word]
    by_cases h : (k == 5) = true
    · simp only [h, if_true]; cases scr t <;> rfl
    · simp only [h]; rfl
end Go.Proofs.YtiihpbccabeoeaaDoor
namespace Go.Proofs.YtiihpbccabeoeaaDoor
open Go.RowKit
set_option linter.unusedVariables false
theorem atF_mem {T : List Tk} {i : Nat} (h : SmT T) : Sm (atF (T.drop i)).word ∧ (atF (T.drop i)).text.length ≤ 40000 := by
  rcases Nat.lt_or_ge i T.length with hi | hi
  · rw [atF_in hi]
    have := h.2 _ (List.getElem_mem hi)
    exact ⟨this.2, this.1⟩
  · rw [atF_end hi]
    exact ⟨Sm.nil, Nat.zero_le _⟩

end Go.Proofs.YtiihpbccabeoeaaDoor
namespace Go.Proofs.YtiihpbccabeoeaaDoor
open Go.RowKit
set_option linter.unusedVariables false
theorem RecAt.two {w : World} {b : Nat} {a0 a1 : Value} (h : RecAt w b [a0, a1]) : (w.cell? ⟨b, 0, none⟩ = some a0 ∧ w.cell? ⟨b, 1, none⟩ = some a1) ∧ (w.frozen? ⟨b, 0, none⟩ = false ∧ w.frozen? ⟨b, 1, none⟩ = false) := by
  obtain ⟨T, h⟩ := h
  refine ⟨⟨?_, ?_⟩, ?_, ?_⟩ <;> simp [World.cell?, World.frozen?, h]
theorem set2_keeps (w : World) (b : Nat) (u0 u1 : Value) : Keeps (fun x => x = b) w ((w.setCell ⟨b, 0, none⟩ u0).setCell ⟨b, 1, none⟩ u1) := by
  have h0 := (Keeps.refl (fun x => x = b) w).set1 0 u0 rfl
  exact h0.set1 1 u1 rfl
def RdrS (vs : List Value) : Prop := ∃ (s : ByteArray) (a : Option Addr) (m c : Nat), vs = [.string s, .slice a m c]

end Go.Proofs.YtiihpbccabeoeaaDoor
namespace Go.Proofs.YtiihpbccabeoeaaDoor
open Go.RowKit
set_option linter.unusedVariables false

theorem index_eq : ∀ l : Bs, Lib.index l [61] = match cutEq l with | none => -1 | some p => (p.1.length : Int)
  | [] => rfl
  | c :: t => by
    unfold Lib.index cutEq
    rw [index_eq t]
    by_cases h : c = 61
    · subst h; rfl
    · have h1 : ([61] : Bs).isPrefixOf (c :: t) = false := by
        show (61 == c && true) = false
        rw [Bool.and_true, beq_eq_false_iff_ne]; exact fun e => h e.symm
      have h2 : (c == 61) = false := beq_eq_false_iff_ne.2 h
      cases hc : cutEq t with
      | none => simp [h1, h2]
      | some p =>
        have h3 : ((p.1.length : Int) == -1) = false := by rw [beq_eq_false_iff_ne]; omega
        simp only [h1, h2, h3, Bool.false_eq_true, if_false, Option.map_some, List.length_cons]
        rfl
theorem cutEq_some : ∀ {l : Bs} {p : Bs × Bs}, cutEq l = some p → l = p.1 ++ 61 :: p.2
  | c :: t, p, h => by
    unfold cutEq at h
    split at h
    · next hc => cases h; rw [beq_iff_eq.1 hc]; rfl
    · cases h2 : cutEq t with
      | none => rw [h2] at h; cases h
      | some q => rw [h2] at h; cases h; rw [cutEq_some h2]; rfl
theorem cut_none {l : Bs} (h : cutEq l = none) : Lib.cut l [61] = (l, [], false) := by
  unfold Lib.cut
  rw [index_eq, h, if_neg (by decide)]
theorem cut_some {l : Bs} {p : Bs × Bs} (h : cutEq l = some p) : Lib.cut l [61] = (p.1, p.2, true) := by
  unfold Lib.cut
  rw [index_eq, h]
  dsimp only
  rw [if_pos (Int.natCast_nonneg _), Int.toNat_natCast]
  have e := cutEq_some h
  have e1 : l.take p.1.length = p.1 := by rw [e]; simp
  have e2 : l.drop (p.1.length + ([61] : Bs).length) = p.2 := by rw [e]; simp
  rw [e1, e2]
/-- The cells of a slice of parts. -/
theorem pts_cells {w : World} {D : Nat → Prop} {n : Nat} {l : List Pt} {g o c : Nat} (h : PtsAt w D n l (.slice (some ⟨g, o, none⟩) l.length c)) : ∃ vs : List Value, vs.length = l.length ∧
    (∀ W, Keeps (fun _ => False) w W → ∀ j u, (cellsL l vs)[j]? = some u → W.cell? ((⟨g, o, none⟩ : Addr).add j) = some u) ∧ (∀ u ∈ cellsL l vs, u.oneCell' = true) ∧ ∀ i (hi : i < l.length) (hi' : i < vs.length), PtsAt w D n l[i].word vs[i] := by
  cases n with
  | zero =>
    obtain ⟨rfl, _⟩ := h
    exact ⟨[], rfl, fun W _ j u hj => (by simp [cellsL] at hj), fun u hu => (by simp [cellsL] at hu), fun i hi => absurd hi (Nat.not_lt_zero _)⟩
  | succ n =>
  obtain ⟨a, c, e, hc1, hc2, H⟩ := h
  injection e with e1 e2 e3
  have Hw : ∀ i (hi : i < l.length), ∃ wv, PtCells w g (o + i * 6) l[i] wv ∧ PtsAt w D n l[i].word wv ∧ g < w.heap.size := fun i hi => by
    obtain ⟨g', o', wv, e, hb, _, hp, hq⟩ := H i hi
    obtain ⟨rfl, rfl⟩ : g = g' ∧ o = o' := by simpa using e1.trans e
    exact ⟨wv, hp, hq, hb⟩
  obtain ⟨vs, hl, hvs⟩ : ∃ vs : List Value, vs.length = l.length ∧ ∀ i (hi : i < l.length) (hi' : i < vs.length), PtCells w g (o + i * 6) l[i] vs[i] ∧ PtsAt w D n l[i].word vs[i] ∧ g < w.heap.size :=
    ⟨List.ofFn (fun i : Fin l.length => Classical.choose (Hw i.1 i.2)), by simp, fun i hi hi' => by
      have := Classical.choose_spec (Hw i hi)
      simpa using this⟩
  refine ⟨vs, hl, fun W hk j u hj => ?_, cells_one hl fun i hi hi' => ?_, fun i hi hi' => (hvs i hi hi').2.1.succ⟩
  · obtain ⟨i, r, hi, rfl, hu⟩ := cellsL_inv hl hj
    obtain ⟨h1, _, h3⟩ := hvs i hi (by omega)
    have := h1 r u hu
    rw [show o + i * 6 + r = o + (i * 6 + r) by omega] at this
    rw [Addr.add_lit, World.cell?_of_block (hk.block g h3 (fun h => h))]; exact this
  · obtain ⟨a2, c2, e2, _, _⟩ := (hvs i hi hi').2.1.shape
    exact ⟨_, _, _, e2⟩
/-- What assign tells. -/
def AsgPost (w : World) (D : Nat → Prop) (res : Option (Bs × List Pt)) (e : Ending) (w' : World) : Prop := match res with
  | none => e = .returned (.tuple #[.agg #[.string ⟨#[]⟩, .slice none 0 0], .bool false]) ∧ Keeps (fun _ => False) w w'
  | some (nm, v) => ∃ (a : Option Addr) (c m : Nat), e = .returned (.tuple #[.agg #[.string ⟨nm.toArray⟩, .slice a v.length c], .bool true]) ∧ PtsAt w' (fun b => D b ∨ w.heap.size ≤ b) m v (.slice a v.length c) ∧ Keeps (fun _ => False) w w'
theorem PtsAt.tail {w : World} {D : Nat → Prop} {n g o c : Nat} {p : Pt} {t : List Pt} (h : PtsAt w D n (p :: t) (.slice (some ⟨g, o, none⟩) (p :: t).length c)) (a : Option Addr) (ha : a = some ⟨g, o + 6, none⟩ ∨ t = []) : PtsAt w D n t (.slice a t.length (c - 1)) := by
  cases n with
  | zero => obtain ⟨e, _⟩ := h; cases e
  | succ n =>
    obtain ⟨a', c', e, h1, h2, H⟩ := h
    injection e with e1 e2 e3
    subst e1 e3
    rw [List.length_cons] at h1
    refine ⟨a, c - 1, rfl, by omega, by omega, fun i hi => ?_⟩
    rcases ha with rfl | rfl
    · obtain ⟨b, off, wv, e, hb, hd, hc, hw⟩ := H (i + 1) (by rw [List.length_cons]; omega)
      obtain ⟨rfl, rfl⟩ : g = b ∧ o = off := by simpa using e
      refine ⟨g, o + 6, wv, rfl, hb, hd, ?_, hw⟩
      rw [show o + 6 + i * 6 = o + (i + 1) * 6 by omega]
      exact hc
    · simp at hi

theorem lit_after (w2 : World) (A : Obj) (cs : Array Value) (n : Nat) {e : TypeId} {size : Nat} (hm : n ≤ maxLen) (hs : cs.size = n * size) :
    ((w2.alloc A).alloc (.cells cs e)).ownsRow (w2.heap.size + 1) e size (.slice (some ⟨w2.heap.size + 1, 0, none⟩) n n) n cs.toList := by
  have := World.ownsRow_lit (base := w2.heap.size + 1) (e := e) (w2.alloc A) cs n (by simp) hm hs
  simpa using this
theorem asg_kept {w w2 w5 : World} {t1 t2 : TypeId} {cs : Array Value} {v : Value} {u0 u1 x y : Value} (hg : ((w2.alloc (.cells #[x, y] t1)).alloc (.cells cs t2)).grownBy w5 v.ownBlock) (hlt : w.heap.size < w2.heap.size) (hR : RecAt w2 w.heap.size [u0, u1])
    (hv : v.ownBlock = some (w2.heap.size + 1)) :
    ((w5.cell? ⟨w2.heap.size, 0, none⟩ = some x ∧ w5.cell? ⟨w2.heap.size, 1, none⟩ = some y) ∧ w5.frozen? ⟨w2.heap.size, 0, none⟩ = false ∧ w5.frozen? ⟨w2.heap.size, 1, none⟩ = false) ∧
    ((w5.cell? ⟨w.heap.size, 0, none⟩ = some u0 ∧ w5.cell? ⟨w.heap.size, 1, none⟩ = some u1) ∧ w5.frozen? ⟨w.heap.size, 0, none⟩ = false ∧ w5.frozen? ⟨w.heap.size, 1, none⟩ = false) ∧
    w2.heap.size < w5.heap.size ∧ w.heap.size < w5.heap.size ∧ Keeps (fun b => b = w2.heap.size + 1) w2 w5 := by
  have hk : Keeps (fun b => b = w2.heap.size + 1) w2 w5 := (((Keeps.refl _ w2).alloc _).alloc _).grown hg (fun k hk hlt => by rw [hv] at hk; have := Option.some.inj hk; omega)
  have hk2 : Keeps (fun b => b = w2.heap.size + 1) (w2.alloc (.cells #[x, y] t1)) w5 := ((Keeps.refl _ (w2.alloc (.cells #[x, y] t1))).alloc _).grown hg (fun k hk hlt => by rw [hv] at hk; have := Option.some.inj hk; omega)
  have h7 := (show RecAt (w2.alloc (.cells #[x, y] t1)) w2.heap.size [x, y] from ⟨_, heap_alloc_new w2 _⟩).keep hk2 (by omega)
  have h8 := hR.keep hk (by omega)
  exact ⟨h7.two, h8.two, h7.lt, h8.lt, hk⟩
theorem asg_row {w w2 w5 : World} {D S : Nat → Prop} {n g5 cap5 N : Nat} {t : List Pt} {vs xs : List Value} {rst : Bs} (hN : N = (txtP rst :: t).length)
    (hown : w5.ownsRow (w2.heap.size + 1) 85 6 (.slice (some ⟨g5, 0, none⟩) N cap5) N (#[.int .i64 1, .string ⟨rst.toArray⟩, .string ⟨#[]⟩, .string ⟨#[]⟩, .slice none 0 0, .bool false].toList ++ xs)) (hxs : xs = cellsL t vs)
    (hvl : vs.length = t.length) (hvn : ∀ i (hi : i < t.length) (hi' : i < vs.length), PtsAt w D n t[i].word vs[i]) (hk2 : Keeps (fun _ => False) w w2) (hk : Keeps S w2 w5) (hS : ∀ b, S b → w2.heap.size ≤ b) :
    ∃ m, PtsAt w5 (fun b => D b ∧ b < w.heap.size ∨ w2.heap.size + 1 ≤ b) m (txtP rst :: t) (.slice (some ⟨g5, 0, none⟩) N cap5) := by
  obtain ⟨hlow, hg⟩ := owns_low hown
  have hg5 := hg g5 rfl
  have hsz := hk2.size
  subst hN
  have hO : OwnPts w5 (fun b => D b ∧ b < w.heap.size ∨ w2.heap.size + 1 ≤ b) (.slice (some ⟨g5, 0, none⟩) (txtP rst :: t).length cap5) (txtP rst :: t) := by
    refine ⟨.slice none 0 0 :: vs, n, by simp [hvl], ?_, fun i hi hi' => ?_⟩
    · rw [hxs] at hlow
      exact hlow
    · cases i with
      | zero => exact PtsAt.nil _ _ _
      | succ i =>
        rw [List.length_cons] at hi hi'
        have h1 : PtsAt w (fun b => D b ∧ b < w.heap.size) n t[i].word vs[i] := (hvn i (by omega) (by omega)).mono fun b hb hd => ⟨hd, hb⟩
        have h2 := (h1.keep hk2 (fun _ _ _ h => h)).keep hk (fun b _ hb s => by have := hS b s; omega)
        exact h2.mono fun b _ hb => ⟨.inl ⟨hb.1, hb.2⟩, fun e => by have h3 : g5 = b := Option.some.inj e; omega⟩
  exact hO.reads (fun x hx => by have h3 : g5 = x := Option.some.inj hx; exact .inr (by omega))
end Go.Proofs.YtiihpbccabeoeaaDoor
namespace Go.Proofs.YtiihpbccabeoeaaDoor
open Go.RowKit
set_option linter.unusedVariables false

/-- A command's cells. -/
def NdD (ds : List Dt) : Prop := ∃ (kind : Nat) (nt : Bool) (nm : List UInt8) (ws gs rs ks ar : List Dt), ds = ndR kind nt nm ws gs rs ks ar
theorem NdD.len {ds : List Dt} (h : NdD ds) : ds.length = 8 := by
  obtain ⟨_, _, _, _, _, _, _, _, rfl⟩ := h
  rfl
/-- Commands, one behind the other. -/
def AllN (l : List Dt) : Prop := ∃ xs : List (List Dt), l = xs.flatten ∧ ∀ x ∈ xs, NdD x
theorem AllN.nil : AllN [] := ⟨[], rfl, fun x hx => by cases hx⟩
theorem AllN.of {d : List Dt} (h : NdD d) : AllN d := ⟨[d], by simp, fun x hx => by rw [List.mem_singleton.1 hx]; exact h⟩
theorem AllN.app {l m : List Dt} (h : AllN l) (k : AllN m) : AllN (l ++ m) := by
  obtain ⟨xs, rfl, hx⟩ := h
  obtain ⟨ys, rfl, hy⟩ := k
  exact ⟨xs ++ ys, by simp, fun x h => by rcases List.mem_append.1 h with h | h; exact hx x h; exact hy x h⟩
theorem flat_len : ∀ {xs : List (List Dt)}, (∀ x ∈ xs, NdD x) → xs.flatten.length = xs.length * 8
  | [], _ => rfl
  | x :: xs, h => by
    rw [List.flatten_cons, List.length_append, (h x (List.mem_cons_self ..)).len, flat_len (fun y hy => h y (List.mem_cons_of_mem _ hy)), List.length_cons]
    omega
theorem AllN.one {l : List Dt} (h : AllN l) (hl : l.length = 8) : NdD l := by
  obtain ⟨xs, rfl, hx⟩ := h
  rw [flat_len hx] at hl
  cases xs with
  | nil => simp at hl
  | cons x t =>
    cases t with
    | nil =>
      rw [List.flatten_cons, List.flatten_nil, List.append_nil]
      exact hx x (List.mem_cons_self ..)
    | cons y z => rw [List.length_cons, List.length_cons] at hl; omega
theorem nd_vals {w : World} {D : Nat → Prop} {ds : List Dt} {vs : List Value} (hn : NdD ds) (h : RdL w D ds vs) : ∃ (k : Int) (b : Bool) (s : ByteArray) (a0 : Option Addr) (n0 c0 : Nat) (a1 : Option Addr) (n1 c1 : Nat) (a2 : Option Addr) (n2 c2 : Nat) (a3 : Option Addr) (n3 c3 : Nat) (a4 : Option Addr) (n4 c4 : Nat), vs = [.int .i64 k, .bool b, .string s, .slice a0 n0 c0, .slice a1 n1 c1, .slice a2 n2 c2, .slice a3 n3 c3, .slice a4 n4 c4] := by
  obtain ⟨kind, nt, nm, ws, gs, rs, ks, ar, rfl⟩ := hn
  match vs, h with
  | [v0, v1, v2, v3, v4, v5, v6, v7], ⟨h0, h1, h2, h3, h4, h5, h6, h7, _⟩ =>
    cases h0; cases h1; cases h2
    obtain ⟨a3, n3, c3, rfl, _⟩ := h3.shape (by decide)
    obtain ⟨a4, n4, c4, rfl, _⟩ := h4.shape (by decide)
    obtain ⟨a5, n5, c5, rfl, _⟩ := h5.shape (by decide)
    obtain ⟨a6, n6, c6, rfl, _⟩ := h6.shape (by decide)
    obtain ⟨a7, n7, c7, rfl, _⟩ := h7.shape (by decide)
    exact ⟨_, _, _, _, _, _, _, _, _, _, _, _, _, _, _, _, _, _, rfl⟩
theorem RecAt.eight {w : World} {b : Nat} {v0 v1 v2 v3 v4 v5 v6 v7 : Value} (h : RecAt w b [v0, v1, v2, v3, v4, v5, v6, v7]) :
    (w.cell? ⟨b, 0, none⟩ = some v0 ∧ w.cell? ⟨b, 1, none⟩ = some v1 ∧ w.cell? ⟨b, 2, none⟩ = some v2 ∧ w.cell? ⟨b, 3, none⟩ = some v3 ∧ w.cell? ⟨b, 4, none⟩ = some v4 ∧ w.cell? ⟨b, 5, none⟩ = some v5 ∧ w.cell? ⟨b, 6, none⟩ = some v6 ∧ w.cell? ⟨b, 7, none⟩ = some v7) ∧
    (w.frozen? ⟨b, 0, none⟩ = false ∧ w.frozen? ⟨b, 1, none⟩ = false ∧ w.frozen? ⟨b, 2, none⟩ = false ∧ w.frozen? ⟨b, 3, none⟩ = false ∧ w.frozen? ⟨b, 4, none⟩ = false ∧ w.frozen? ⟨b, 5, none⟩ = false ∧ w.frozen? ⟨b, 6, none⟩ = false ∧ w.frozen? ⟨b, 7, none⟩ = false) := by
  obtain ⟨T, h⟩ := h
  refine ⟨⟨?_, ?_, ?_, ?_, ?_, ?_, ?_, ?_⟩, ?_, ?_, ?_, ?_, ?_, ?_, ?_, ?_⟩ <;> simp [World.cell?, World.frozen?, h]
theorem set8_keeps (w : World) (b : Nat) (u0 u1 u2 u3 u4 u5 u6 u7 : Value) : Keeps (fun x => x = b) w ((((((((w.setCell ⟨b, 0, none⟩ u0).setCell ⟨b, 1, none⟩ u1).setCell ⟨b, 2, none⟩ u2).setCell ⟨b, 3, none⟩ u3).setCell ⟨b, 4, none⟩ u4).setCell ⟨b, 5, none⟩ u5).setCell ⟨b, 6, none⟩ u6).setCell ⟨b, 7, none⟩ u7) := by
  have h0 := (Keeps.refl (fun x => x = b) w).set1 0 u0 rfl
  have h1 := h0.set1 1 u1 rfl
  have h2 := h1.set1 2 u2 rfl
  have h3 := h2.set1 3 u3 rfl
  have h4 := h3.set1 4 u4 rfl
  have h5 := h4.set1 5 u5 rfl
  have h6 := h5.set1 6 u6 rfl
  exact h6.set1 7 u7 rfl
theorem set8_rec {w : World} {b : Nat} {v0 v1 v2 v3 v4 v5 v6 v7 : Value} (h : RecAt w b [v0, v1, v2, v3, v4, v5, v6, v7]) (u0 u1 u2 u3 u4 u5 u6 u7 : Value) : RecAt ((((((((w.setCell ⟨b, 0, none⟩ u0).setCell ⟨b, 1, none⟩ u1).setCell ⟨b, 2, none⟩ u2).setCell ⟨b, 3, none⟩ u3).setCell ⟨b, 4, none⟩ u4).setCell ⟨b, 5, none⟩ u5).setCell ⟨b, 6, none⟩ u6).setCell ⟨b, 7, none⟩ u7) b [u0, u1, u2, u3, u4, u5, u6, u7] :=
  (((((((h.set 0 u0).set 1 u1).set 2 u2).set 3 u3).set 4 u4).set 5 u5).set 6 u6).set 7 u7
theorem new_rec8 (w : World) (v0 v1 v2 v3 v4 v5 v6 v7 : Value) (t : TypeId) : RecAt (w.alloc (.cells #[v0, v1, v2, v3, v4, v5, v6, v7] t)) w.heap.size [v0, v1, v2, v3, v4, v5, v6, v7] := ⟨t, heap_alloc_new w _⟩
theorem rd_one {w : World} {D : Nat → Prop} {ds : List Dt} {a : Option Addr} {c : Nat} (h : Rd w D (.sl 8 ds) (.slice a 1 c)) (hn : NdD ds) : ∃ (g o : Nat) (k : Int) (b : Bool) (s : ByteArray) (a0 : Option Addr) (n0 c0 : Nat) (a1 : Option Addr) (n1 c1 : Nat) (a2 : Option Addr) (n2 c2 : Nat) (a3 : Option Addr) (n3 c3 : Nat) (a4 : Option Addr) (n4 c4 : Nat),
    a = some ⟨g, o, none⟩ ∧ g < w.heap.size ∧ (w.cell? ⟨g, o, none⟩ = some (.int .i64 k) ∧ w.cell? ⟨g, o + 1, none⟩ = some (.bool b) ∧ w.cell? ⟨g, o + 2, none⟩ = some (.string s) ∧ w.cell? ⟨g, o + 3, none⟩ = some (.slice a0 n0 c0) ∧ w.cell? ⟨g, o + 4, none⟩ = some (.slice a1 n1 c1) ∧ w.cell? ⟨g, o + 5, none⟩ = some (.slice a2 n2 c2) ∧ w.cell? ⟨g, o + 6, none⟩ = some (.slice a3 n3 c3) ∧ w.cell? ⟨g, o + 7, none⟩ = some (.slice a4 n4 c4)) ∧ RdL w D ds [.int .i64 k, .bool b, .string s, .slice a0 n0 c0, .slice a1 n1 c1, .slice a2 n2 c2, .slice a3 n3 c3, .slice a4 n4 c4] := by
  cases h with
  | sl _ _ g o m c vs hm hmc hc hb hD hv h =>
    have hr : RdL w D ds [vs 0, vs 1, vs 2, vs 3, vs 4, vs 5, vs 6, vs 7] := by
      obtain ⟨kind, nt, nm, ws, gs, rs, ks, ar, rfl⟩ := hn
      have h8 : (ndR kind nt nm ws gs rs ks ar).length = 8 := rfl
      exact ⟨h 0 (by omega), h 1 (by omega), h 2 (by omega), h 3 (by omega), h 4 (by omega), h 5 (by omega), h 6 (by omega), h 7 (by omega), trivial⟩
    have hl := hn.len
    obtain ⟨k, b, s, a0, n0, c0, a1, n1, c1, a2, n2, c2, a3, n3, c3, a4, n4, c4, hvs⟩ := nd_vals hn hr
    have hr2 := hr
    rw [hvs] at hr2
    simp only [List.cons.injEq, and_true] at hvs
    obtain ⟨e0, e1, e2, e3, e4, e5, e6, e7⟩ := hvs
    refine ⟨g, o, k, b, s, a0, n0, c0, a1, n1, c1, a2, n2, c2, a3, n3, c3, a4, n4, c4, rfl, hb, ⟨?_, ?_, ?_, ?_, ?_, ?_, ?_, ?_⟩, hr2⟩
    · rw [← e0]; exact hv 0 (by omega)
    · rw [← e1]; exact hv 1 (by omega)
    · rw [← e2]; exact hv 2 (by omega)
    · rw [← e3]; exact hv 3 (by omega)
    · rw [← e4]; exact hv 4 (by omega)
    · rw [← e5]; exact hv 5 (by omega)
    · rw [← e6]; exact hv 6 (by omega)
    · rw [← e7]; exact hv 7 (by omega)
theorem Rd.len8 {w : World} {D : Nat → Prop} {ds : List Dt} {a : Option Addr} {m c : Nat} (h : Rd w D (.sl 8 ds) (.slice a m c)) : ds.length = m * 8 ∧ c ≤ maxLen := by
  obtain ⟨a', m', c', e, h1, _, h2⟩ := h.shape (by decide)
  injection e with e1 e2 e3
  subst e2 e3
  exact ⟨h1, h2⟩
theorem cells_node : Tryd.prog.cellsOf 76 = 8 := by kernel_rfl
theorem info_node : (Tryd.prog.info? 76).map (fun i => (i.zero, i.size, i.bytes)) = some (some (.agg #[.int .i64 0, .bool false, .string ⟨#[]⟩, .slice none 0 0, .slice none 0 0, .slice none 0 0, .slice none 0 0, .slice none 0 0]), 8, 152) := by kernel_rfl
/-- What seq tells. -/
def SeqPost (w : World) (D : Nat → Prop) (ds : List Dt) (e : Ending) (w' : World) : Prop := ∃ vs, e = .returned (.agg vs.toArray) ∧ NdD ds ∧ RdL w' D ds vs ∧ Keeps (fun _ => False) w w'

end Go.Proofs.YtiihpbccabeoeaaDoor
namespace Go.Proofs.YtiihpbccabeoeaaDoor
open Go.RowKit
set_option linter.unusedVariables false
def AnyS (vs : List Value) : Prop := True
/-- No redirections yet. -/
def BareS (vs : List Value) : Prop := vs[5]? = some (.slice none 0 0)
section
variable {w0 w w4 : World} {B cs : Nat} {tv : Value} {n : Nat} {T : List Tk} {d I J : Nat} {l : Value} {k : Nat} {Ty : TypeId} {m : Nat} {ds : List Dt}
end
/-- A pipeline's end. -/
def pipeEnd (q : Bool) (p : PR (List Dt)) : PR (List Dt) := match p with
  | .error e => .error e
  | .ok (l, r2) => if l.length = 8 ∧ q = false then .ok (l, r2) else .ok (ndR 2 q [] [] [] [] l [], r2)
theorem pipeline_eq (cmd : List Tk → PR (List Dt)) (ts : List Tk) : pipelineF cmd ts = match cmd (goF (isWF [33] ts) ts) with
  | .error e => .error e
  | .ok (d, r) => pipeEnd (isWF [33] ts) (pipeLoop cmd (r.length + 1) d r) := by
  unfold pipelineF pipeEnd
  have e : goF (isWF [33] ts) ts = if isWF [33] ts then ts.tail else ts := by cases isWF [33] ts <;> rfl
  rw [e]
  cases cmd (if isWF [33] ts = true then ts.tail else ts) with
  | error y => rfl
  | ok x => rfl
theorem pipeLoop_succ (cmd : List Tk → PR (List Dt)) (n : Nat) (acc : List Dt) (ts : List Tk) : pipeLoop cmd (n + 1) acc ts = if isOpF [124] ts then (match cmd (linesF ts.tail) with
    | .error e => .error e
    | .ok (d, r) => pipeLoop cmd n (acc ++ d) r) else .ok (acc, ts) := rfl

end Go.Proofs.YtiihpbccabeoeaaDoor
namespace Go.Proofs.YtiihpbccabeoeaaDoor
open Go.RowKit
set_option linter.unusedVariables false

theorem RdL.cells {w w1 : World} {D : Nat → Prop} {cs : List Dt} {vs : List Value} {Ty : TypeId} (hr : RdL w D cs vs) (hw : w1 = w.alloc (.cells vs.toArray Ty)) : ∀ j (hj : j < cs.length), w1.cell? ⟨w.heap.size, 0 + j, none⟩ = some (vs.getD j (.int .i64 0)) ∧ Rd w D cs[j] (vs.getD j (.int .i64 0)) := by
  intro j hj
  have hl := hr.len
  have hb : w1.heap[w.heap.size]? = some (.cells vs.toArray Ty) := by rw [hw]; exact heap_alloc_new w _
  have e : vs.getD j (.int .i64 0) = vs[j]'(by omega) := by
    rw [List.getD_eq_getElem?_getD, List.getElem?_eq_getElem (by omega)]; rfl
  rw [e]
  refine ⟨?_, hr.at hj (by omega)⟩
  rw [cell_of_row _ _ (0 + j) _ _ _ hb, Nat.zero_add]
  simp
theorem rd_lit {w w1 : World} {D : Nat → Prop} {cs : List Dt} {vs : List Value} {Ty : TypeId} {k m : Nat} (hr : RdL w D cs vs) (hm : cs.length = m * k) (hx : m ≤ maxLen) (hw : w1 = w.alloc (.cells vs.toArray Ty)) (hD : D w.heap.size) :
    Rd w1 D (.sl k cs) (.slice (some ⟨w.heap.size, 0, none⟩) m m) := by
  have hk : Keeps (fun _ => False) w w1 := by rw [hw]; exact (Keeps.refl _ _).alloc _
  refine .sl k cs w.heap.size 0 m m (fun j => vs.getD j (.int .i64 0)) hm (Nat.le_refl _) hx (by rw [hw]; simp) hD (fun j hj => ?_) (fun j hj => ?_)
  · have h := (hr.cells hw j hj).1
    exact h
  · exact (hr.cells hw j hj).2.keep hk (fun _ _ _ h => h)
theorem andLoop_succ (cmd : List Tk → PR (List Dt)) (n : Nat) (acc : List Dt) (ts : List Tk) : andLoop cmd (n + 1) acc ts = if isOpF [38, 38] ts then (match pipelineF cmd (linesF ts.tail) with
      | .error e => .error e
      | .ok (d, r) => andLoop cmd n (ndR 3 false [] [] [] [] (acc ++ d) []) r)
    else if isOpF [124, 124] ts then (match pipelineF cmd (linesF ts.tail) with
      | .error e => .error e
      | .ok (d, r) => andLoop cmd n (ndR 4 false [] [] [] [] (acc ++ d) []) r)
    else .ok (acc, ts) := rfl
end Go.Proofs.YtiihpbccabeoeaaDoor
namespace Go.Proofs.YtiihpbccabeoeaaDoor
open Go.RowKit
set_option linter.unusedVariables false

theorem ends_less {ts : List Tk} (h : (endsF ts).1 = true) : (endsF ts).2.length + 1 ≤ ts.length := by
  unfold endsF at h ⊢
  split at h
  · next hq =>
    rw [if_pos hq]
    have h1 : 1 ≤ ts.length := by
      rcases Bool.or_eq_true_iff.1 hq with h | h
      · exact op_pos h
      · exact op_pos h
    have := lines_len ts.tail
    rw [List.length_tail] at this
    show (linesF ts.tail).length + 1 ≤ _
    omega
  · cases h
theorem allLoop_succ (cmd : List Tk → PR (List Dt)) (n : Nat) (acc : List Dt) (ts : List Tk) : allLoop cmd (n + 1) acc ts = if (endsF ts).1 && moreF (endsF ts).2 then (match andOrF cmd (endsF ts).2 with
    | .error e => .error e
    | .ok (d, r) => allLoop cmd n (acc ++ d) r) else .ok (acc, (endsF ts).2) := rfl
end Go.Proofs.YtiihpbccabeoeaaDoor
namespace Go.Proofs.YtiihpbccabeoeaaDoor
open Go.RowKit
set_option linter.unusedVariables false
section
variable {w wr w4 : World} {B cs : Nat} {tv : Value} {n : Nat} {T : List Tk} {d X N : Nat} {Z : List Value} {pre post : List Dt} {vpre vpost : List Value} {k : Nat} {Ty : TypeId} {I J m : Nat} {la : Option Addr} {lc : Nat} {ds : List Dt}
theorem set_mid {α} (a : List α) (x y : α) (b : List α) : (a ++ x :: b).set a.length y = a ++ y :: b := by
  rw [List.set_append_right _ _ (Nat.le_refl _), Nat.sub_self, List.set_cons_zero]
end
end Go.Proofs.YtiihpbccabeoeaaDoor
