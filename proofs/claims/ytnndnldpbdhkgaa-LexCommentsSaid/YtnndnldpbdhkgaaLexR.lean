/-
  The contract of put: a text in the place of an empty quote.
-/
import Derived.Test.YtnndnldpbdhkgaaLexQ
namespace Go.Proofs.Ytnndnldpbdhkgaa
open Go.RowKit
set_option linter.unusedVariables false

set_option maxRecDepth 100000 in
set_option maxHeartbeats 1000000 in
theorem put_set (wb g L c : Nat) (lt s : ByteArray) (xs : List Value) (w : World) (hw : WordAt w wb (.slice (some ⟨g, 0, none⟩) (L + 1) c)) (hown : w.ownsRow 0 39 6 (.slice (some ⟨g, 0, none⟩) (L + 1) c) (L + 1) xs) (hgw : g ≠ wb) (hL : L ≤ 1000000)
    (hk : xs[L * 6]? = some (.int .i64 2)) (ht : xs[L * 6 + 1]? = some (.string lt)) (k5 : lt.toList.isEmpty = true) (k6 : (lt.toList == []) = true) :
    Calls Try.prog 52 #[.pointer (some ⟨wb, 0, none⟩), .int .i64 2, .string s] w fun e w' => e = .returned (.tuple #[]) ∧ w' = w.setCell ⟨g, L * 6 + 1, none⟩ (.string s) := by
  have lw := hw.lt
  obtain ⟨c0, f0⟩ := hw.cell
  have hc6 := cells_part
  have p1 : 0 ≤ (L : Int) + 1 := by omega
  have p2 : (L : Int) < (L : Int) + 1 := by omega
  have q0 : w.cell? ⟨g, L * 6, none⟩ = some (.int .i64 2) := (hown.cellAt _ (by omega)).trans hk
  have q1 : w.cell? ⟨g, L * 6 + 1, none⟩ = some (.string lt) := (hown.cellAt _ (by omega)).trans ht
  have q2 := hown.frozenAt (L * 6 + 1)
  clear hw hk ht
  go_enter Try.func52, Try.ntmps52
  go_wp2_with fail
  exact bodyPost_ret (results_none rfl _ _ _) rfl ⟨rfl, rfl⟩

/-- What a word that is made holds: its record in block wb; its parts, tidied, are N; its row is g. -/
def Bag (w : World) (B cs wb : Nat) (g : Option Nat) (N : List Pt × Bool) (m : Nat) : Prop :=
  ∃ v raw, WordAt w wb v ∧ OwnPts w (fun b => B ≤ b ∧ b ≠ wb) v raw ∧ v.ownBlock = g ∧ g ≠ some wb ∧ g ≠ some cs ∧ (cs < B ∧ B ≤ wb) ∧ normF raw = N ∧ RawOK raw ∧ wtF raw ≤ m
/-- The blocks that a word's making writes. -/
def Fp (cs wb : Nat) (g : Option Nat) (b : Nat) : Prop := b = cs ∨ b = wb ∨ g = some b
/-- The row is the old one, or a new one. -/
def Newer (w : World) (g g' : Option Nat) : Prop := g' = g ∨ ∃ x, g' = some x ∧ w.heap.size ≤ x

theorem Newer.refl (w : World) (g : Option Nat) : Newer w g g := .inl rfl
theorem Newer.trans {w w' : World} {g g' g'' : Option Nat} (h : Newer w g g') (hs : w.heap.size ≤ w'.heap.size) (k : Newer w' g' g'') : Newer w g g'' := by
  rcases k with rfl | ⟨x, e, hx⟩
  · exact h
  · exact .inr ⟨x, e, by omega⟩
theorem Keeps.next {w w1 w2 : World} {cs wb : Nat} {g g1 : Option Nat} (h : Keeps (Fp cs wb g) w w1) (hn : Newer w g g1) (k : Keeps (Fp cs wb g1) w1 w2) : Keeps (Fp cs wb g) w w2 :=
  h.trans k fun x hx t => by
    rcases t with t | t | t
    · exact .inl t
    · exact .inr (.inl t)
    · rcases hn with rfl | ⟨y, e, hy⟩
      · exact .inr (.inr t)
      · rw [e] at t
        obtain rfl : y = x := Option.some.inj t
        omega

theorem Bag.keep {w w' : World} {B cs wb : Nat} {g : Option Nat} {N : List Pt × Bool} {m : Nat} {S : Nat → Prop} (h : Bag w B cs wb g N m) (hk : Keeps S w w') (hS : ∀ b, b < w.heap.size → S b → b = cs) : Bag w' B cs wb g N m := by
  obtain ⟨v, raw, hw, ho, rfl, h1, h2, h3, h4, h5, h6⟩ := h
  have lw := hw.lt
  refine ⟨v, raw, hw.keep hk fun s => by have := hS _ lw s; omega, ho.keep hk (fun b hb hd s => by have := hS b hb s; have := hd.1; omega) (fun x hx s => h2 (by rw [hx, hS x (ho.lt hx) s])), rfl, h1, h2, h3, h4, h5, h6⟩
theorem Bag.wlt {w : World} {B cs wb : Nat} {g : Option Nat} {N : List Pt × Bool} {m : Nat} (h : Bag w B cs wb g N m) : wb < w.heap.size := by
  obtain ⟨v, raw, hw, _⟩ := h
  exact hw.lt
theorem Bag.mono {w : World} {B cs wb : Nat} {g : Option Nat} {N : List Pt × Bool} {m m' : Nat} (h : Bag w B cs wb g N m) (hm : m ≤ m') : Bag w B cs wb g N m' := by
  obtain ⟨v, raw, hw, ho, e, h1, h2, h3, h4, h5, h6⟩ := h
  exact ⟨v, raw, hw, ho, e, h1, h2, h3, h4, h5, by omega⟩

/-- What put leaves. -/
def PutPost (w : World) (B cs wb : Nat) (g : Option Nat) (N : List Pt × Bool) (m : Nat) (e : Ending) (w' : World) : Prop :=
  e = .returned (.tuple #[]) ∧ ∃ g', Bag w' B cs wb g' N m ∧ Newer w g g' ∧ Keeps (fun b => b = wb ∨ g = some b) w w'

theorem grow_pts {w w' : World} {v v' : Value} {B wb : Nat} {raw : List Pt} {x : Pt} {vs : List Value} {n : Nat} {wv : Value} (hx : x.word = []) (hwv : wv = .slice none 0 0) (hl : vs.length = raw.length)
    (hnest : ∀ i (h : i < raw.length) (h' : i < vs.length), PtsAt w (fun b => (B ≤ b ∧ b ≠ wb) ∧ v.ownBlock ≠ some b) n raw[i].word vs[i])
    (hown : w'.ownsRow 0 39 6 v' (raw.length + 1) (cellsL raw vs ++ cellsP x wv)) (hk : Keeps (fun b => b = wb ∨ v.ownBlock = some b) w w')
    (hg : ∀ y, v'.ownBlock = some y → v.ownBlock = some y ∨ w.heap.size ≤ y) (hlt : ∀ i (h : i < raw.length) (h' : i < vs.length), PtsAt w (fun b => (B ≤ b ∧ b ≠ wb) ∧ v.ownBlock ≠ some b) n raw[i].word vs[i]) :
    OwnPts w' (fun b => B ≤ b ∧ b ≠ wb) v' (raw ++ [x]) := by
  refine ⟨vs ++ [wv], n, by simp [hl], ?_, fun i h h' => ?_⟩
  · rw [cellsL_append hl]
    simpa [cellsL] using hown
  · by_cases hi : i < raw.length
    · rw [List.getElem_append_left hi, List.getElem_append_left (by omega)]
      have h1 := (hnest i hi (by omega)).keep hk (fun b _ hd s => by rcases s with s | s; exact hd.1.2 s; exact hd.2 s)
      have h2 : PtsAt w (fun b => ((B ≤ b ∧ b ≠ wb) ∧ v.ownBlock ≠ some b) ∧ b < w.heap.size) n raw[i].word (vs[i]'(by omega)) := (hnest i hi (by omega)).mono fun b hb hd => ⟨hd, hb⟩
      refine (h2.keep hk (fun b _ hd s => by rcases s with s | s; exact hd.1.1.2 s; exact hd.1.2 s)).mono fun b _ hd => ⟨hd.1.1, fun e => ?_⟩
      rcases hg b e with h3 | h3
      · exact hd.1.2 h3
      · have := hd.2; omega
    · have hi2 : i = raw.length := by simp at h; omega
      subst hi2
      rw [List.getElem_append_right (Nat.le_refl _), List.getElem_append_right (by omega)]
      simp only [hl, Nat.sub_self, List.getElem_cons_zero, hx, hwv]
      exact PtsAt.nil _ _ _
end Go.Proofs.Ytnndnldpbdhkgaa
