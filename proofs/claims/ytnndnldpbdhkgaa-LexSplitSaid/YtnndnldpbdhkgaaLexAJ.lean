/-
  Tokens.
-/
import Derived.Test.YtnndnldpbdhkgaaLexAI
namespace Go.Proofs.Ytnndnldpbdhkgaa
open Go.RowKit
set_option linter.unusedVariables false

/-- What Tokens hands back. -/
def TokensPost (w : World) (res : Except Nat (List Tk)) (e : Ending) (w' : World) : Prop :=
  match res with
  | .ok l => ∃ (v : Value) (n : Nat), e = .returned (.tuple #[v, .int .i64 0]) ∧ TksAt w' (fun b => w.heap.size ≤ b) n l v ∧ Keeps (fun _ => False) w w'
  | .error x => e = .returned (.tuple #[.slice none 0 0, .int .i64 x]) ∧ Keeps (fun _ => False) w w'

set_option maxRecDepth 100000 in
set_option maxHeartbeats 4000000 in
theorem tokens_long (s : ByteArray) (w : World) (hs : s.size ≤ 140737488351232) (x : Nat) (hx : mayF s.data.toList = x) (h0 : x ≠ 0) :
    Calls Try.prog 14 #[.string s] w (TokensPost w (.error x)) := by
  have HX := Lib.hid hx
  have e1 : ((x : Int) != 0) = true := by rw [bne_iff_ne]; omega
  clear hx h0
  go_enter_defers Try.func14, Try.ntmps14
  go_wp2_with fail
  refine (may_any s _ hs).mono ?_
  rintro e w1 ⟨rfl, hw1⟩
  rw [HX.out]
  subst hw1
  go_wp2_with fail
  simp [bodyPostD, Leaves, results, Try.results14, go_sem]
  exact ⟨rfl, ((Keeps.refl _ _).alloc _).alloc _⟩

theorem caught_cells2 {w3 : World} {R x : Nat} {o : Obj} {u v : Value} (hA : RecAt w3 R [u]) (hB : RecAt w3 (R + 1) [v]) : ∃ W4, W4 = ((w3.setCell ⟨R, 0, none⟩ (.slice none 0 0)).setCell ⟨R + 1, 0, none⟩ (.int .i64 x)).alloc o ∧ W4.cell? ⟨R, 0, none⟩ = some (.slice none 0 0) ∧ W4.cell? ⟨R + 1, 0, none⟩ = some (.int .i64 x) ∧ Keeps (fun b => b = R ∨ b = R + 1) w3 W4 := by
  have k1 : Keeps (fun b => b = R) w3 (w3.setCell ⟨R, 0, none⟩ (.slice none 0 0)) := (Keeps.refl _ _).setCell _ _ fun _ => rfl
  have k2 : Keeps (fun b => b = R + 1) (w3.setCell ⟨R, 0, none⟩ (.slice none 0 0)) ((w3.setCell ⟨R, 0, none⟩ (.slice none 0 0)).setCell ⟨R + 1, 0, none⟩ (.int .i64 x)) := (Keeps.refl _ _).setCell _ _ fun _ => rfl
  have k3 : Keeps (fun _ => False) ((w3.setCell ⟨R, 0, none⟩ (.slice none 0 0)).setCell ⟨R + 1, 0, none⟩ (.int .i64 x)) (((w3.setCell ⟨R, 0, none⟩ (.slice none 0 0)).setCell ⟨R + 1, 0, none⟩ (.int .i64 x)).alloc o) := (Keeps.refl _ _).alloc _
  have hA2 := ((hA.set 0 (.slice none 0 0)).keep k2 (by omega)).keep k3 (fun h => h)
  have hB2 := ((hB.keep k1 (by omega)).set 0 (.int .i64 x)).keep k3 (fun h => h)
  exact ⟨_, rfl, hA2.one.1, hB2.one.1, ((k1.mono fun _ _ e => .inl e).trans k2 fun _ _ e => .inr e).trans k3 fun _ _ e => e.elim⟩
theorem done_cells2 {w3 : World} {R : Nat} {u u0 v : Value} (hA : RecAt w3 R [u0]) (hB : RecAt w3 (R + 1) [v]) : ∃ W4, W4 = (w3.setCell ⟨R, 0, none⟩ u).setCell ⟨R + 1, 0, none⟩ (.int .i64 0) ∧ W4.cell? ⟨R, 0, none⟩ = some u ∧ W4.cell? ⟨R + 1, 0, none⟩ = some (.int .i64 0) ∧ Keeps (fun b => b = R ∨ b = R + 1) w3 W4 := by
  have k1 : Keeps (fun b => b = R) w3 (w3.setCell ⟨R, 0, none⟩ u) := (Keeps.refl _ _).setCell _ _ fun _ => rfl
  have k2 : Keeps (fun b => b = R + 1) (w3.setCell ⟨R, 0, none⟩ u) ((w3.setCell ⟨R, 0, none⟩ u).setCell ⟨R + 1, 0, none⟩ (.int .i64 0)) := (Keeps.refl _ _).setCell _ _ fun _ => rfl
  have hA2 := (hA.set 0 u).keep k2 (by omega)
  have hB2 := (hB.keep k1 (by omega)).set 0 (.int .i64 0)
  exact ⟨_, rfl, hA2.one.1, hB2.one.1, (k1.mono fun _ _ e => .inl e).trans k2 fun _ _ e => .inr e⟩
/-- What holds where Tokens' loop begins a round. -/
structure TkLoop (W wr : World) (R cs : Nat) (s : ByteArray) (I : Nat) (l : List Tk) (v : Value) : Prop where
  sc : ScanAt wr cs s I ((0 : Nat) : Int)
  r0 : RecAt wr R [v]
  r1 : RecAt wr (R + 1) [.int .i64 0]
  own : OwnTks wr (fun b => W.heap.size ≤ b) v l
  low : ∀ g, v.ownBlock = some g → W.heap.size ≤ g
  kp : Keeps (fun b => b = cs ∨ b = R) W wr
  len : l.length ≤ I
theorem TkLoop.move {W wr w' : World} {R cs : Nat} {s : ByteArray} {I J : Nat} {l : List Tk} {v : Value} (h : TkLoop W wr R cs s I l v) (hk : Keeps (fun b => b = cs) wr w') (hs : ScanAt w' cs s J ((0 : Nat) : Int)) (hI : I ≤ J) (h1 : cs ≠ R) (h2 : cs ≠ R + 1) (h3 : cs < W.heap.size) : TkLoop W w' R cs s J l v :=
  ⟨hs, h.r0.keep hk (fun e => h1 e.symm), h.r1.keep hk (fun e => h2 e.symm), h.own.keep hk (fun b _ hb e => by omega) (fun g hg e => by have := h.low g hg; omega), h.low, h.kp.trans hk (fun _ _ e => .inl e), Nat.le_trans h.len hI⟩
/-- A token more. -/
theorem TkLoop.more {W wr w1 : World} {R cs : Nat} {s : ByteArray} {I J : Nat} {l : List Tk} {v : Value} (h : TkLoop W wr R cs s I l v) (hk : Keeps (fun b => b = cs) wr w1) (hs : ScanAt w1 cs s J ((0 : Nat) : Int)) (hI : I < J) (h1 : cs ≠ R) (h2 : cs ≠ R + 1) (h3 : cs < W.heap.size) (hR : R + 1 < W.heap.size)
    {x : Tk} {wv : Value} {n : Nat} (hx : PtsAt w1 (fun b => wr.heap.size ≤ b) n x.word wv) :
    ∃ xs, w1.ownsRow 0 34 3 v l.length xs ∧ v.ownBlock ≠ some R ∧ ∀ (g cap : Nat) (w2 : World) (o : Obj), w2.ownsRow 0 34 3 (.slice (some ⟨g, 0, none⟩) (l.length + 1) cap) (l.length + 1) (xs ++ cellsK x wv) → (w1.alloc o).grownBy w2 v.ownBlock → (v.ownBlock = some g ∨ g = w1.heap.size + 1) →
      w2.cell? ⟨R, 0, none⟩ = some v ∧ w2.frozen? ⟨R, 0, none⟩ = false ∧ TkLoop W (w2.setCell ⟨R, 0, none⟩ (.slice (some ⟨g, 0, none⟩) (l.length + 1) cap)) R cs s J (l ++ [x]) (.slice (some ⟨g, 0, none⟩) (l.length + 1) cap) := by
  have hm := h.move hk hs (by omega) h1 h2 h3
  have hm0 := hm.own
  obtain ⟨vs, m, hl, ho, hn⟩ := hm.own
  have hWw := hm.kp.size
  refine ⟨_, ho, fun e => by have := h.low _ e; omega, fun g cap w2 o hown hg hat => ?_⟩
  have hvR : ∀ b, v.ownBlock = some b → W.heap.size ≤ b := h.low
  have k : Keeps (fun b => v.ownBlock = some b) w1 w2 := ((Keeps.refl _ w1).alloc o).grown hg fun k hk _ => hk
  have hr0 := hm.r0.keep k (fun e => by have := hvR _ e; omega)
  have hgW : W.heap.size ≤ g := by
    rcases hat with e | e
    · exact hvR _ e
    · omega
  have hk2 : Keeps (fun b => b = R) w2 (w2.setCell ⟨R, 0, none⟩ (.slice (some ⟨g, 0, none⟩) (l.length + 1) cap)) := (Keeps.refl _ _).setCell _ _ fun _ => rfl
  have hgrow := grow_tks (B := W.heap.size) (v := v) (w := w1) (x := x) (m := n) (hx.mono fun b hb hd => ⟨by have := h.kp.size; omega, fun e => by have := h.own.lt e; omega⟩) hl hn hown k (fun y hy => by
    obtain rfl : g = y := Option.some.inj hy
    rcases hat with e | e
    · exact .inl e
    · exact .inr (by omega))
  refine ⟨hr0.one.1, hr0.one.2, (hm.sc.keep k (fun e => by have := hvR _ e; omega)).keep hk2 h1, ?_, (hm.r1.keep k (fun e => by have := hvR _ e; omega)).keep hk2 (by omega), hgrow.keep hk2 (fun b _ hb e => by omega) (fun y hy e => by obtain rfl : g = y := Option.some.inj hy; omega), fun y hy => by obtain rfl : g = y := Option.some.inj hy; exact hgW, ?_, ?_⟩
  · exact hr0.set 0 _
  · exact (hm.kp.trans k (fun b hb e => by have := hvR _ e; omega)).trans hk2 (fun _ _ e => .inr e)
  · rw [List.length_append]; have := h.len; show l.length + 1 ≤ J; omega
end Go.Proofs.Ytnndnldpbdhkgaa
