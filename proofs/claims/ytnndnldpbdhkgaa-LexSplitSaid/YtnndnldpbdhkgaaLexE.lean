/-
  Words in memory: slices of parts that are only read; a slice of parts that the call owns.
-/
import Derived.Test.YtnndnldpbdhkgaaLexB
import Derived.Test.YtnndnldpbdhkgaaLexD
import Derived.Deep.RegionHeld3
import Derived.Deep.AppendLies
import Derived.Laws.OwnMore
namespace Go.Proofs.Ytnndnldpbdhkgaa
open Go.RowKit
set_option linter.unusedVariables false

def strV (l : List UInt8) : Value := .string ⟨l.toArray⟩
/-- The six cells of a part; its word's slice is v. -/
def cellsP (p : Pt) (v : Value) : List Value := [.int .i64 p.kind, strV p.text, strV p.name, strV p.op, v, .bool p.quoted]
theorem cellsP_len (p : Pt) (v : Value) : (cellsP p v).length = 6 := rfl

/-- The six cells stand in block b from o on. -/
def PtCells (w : World) (b o : Nat) (p : Pt) (v : Value) : Prop := ∀ j u, (cellsP p v)[j]? = some u → w.cell? ⟨b, o + j, none⟩ = some u

/-- A slice that reads as these parts, in blocks that D lets. -/
def PtsAt (w : World) (D : Nat → Prop) : Nat → List Pt → Value → Prop
  | 0, l, v => l = [] ∧ ∃ a c, v = .slice a 0 c ∧ c ≤ maxLen
  | n + 1, l, v => ∃ a c, v = .slice a l.length c ∧ l.length ≤ c ∧ c ≤ maxLen ∧
      ∀ i (h : i < l.length), ∃ b off wv, a = some ⟨b, off, none⟩ ∧ b < w.heap.size ∧ D b ∧ PtCells w b (off + i * 6) l[i] wv ∧ PtsAt w D n l[i].word wv

theorem PtsAt.keep {w w' : World} {D S : Nat → Prop} (hk : Keeps S w w') (hD : ∀ b, b < w.heap.size → D b → ¬ S b) : ∀ {n : Nat} {l : List Pt} {v : Value}, PtsAt w D n l v → PtsAt w' D n l v
  | 0, _, _, h => h
  | n + 1, l, v, ⟨a, c, h1, h2, h3, h⟩ => ⟨a, c, h1, h2, h3, fun i hi => by
      obtain ⟨b, off, wv, e, hb, hd, hc, hw⟩ := h i hi
      refine ⟨b, off, wv, e, Nat.lt_of_lt_of_le hb hk.size, hd, fun j u hu => ?_, PtsAt.keep hk hD hw⟩
      rw [World.cell?_of_block (hk.block b hb (hD b hb hd))]
      exact hc j u hu⟩
theorem PtsAt.mono {w : World} {D D' : Nat → Prop} (hD : ∀ b, b < w.heap.size → D b → D' b) : ∀ {n : Nat} {l : List Pt} {v : Value}, PtsAt w D n l v → PtsAt w D' n l v
  | 0, _, _, h => h
  | n + 1, l, v, ⟨a, c, h1, h2, h3, h⟩ => ⟨a, c, h1, h2, h3, fun i hi => by
      obtain ⟨b, off, wv, e, hb, hd, hc, hw⟩ := h i hi
      exact ⟨b, off, wv, e, hb, hD b hb hd, hc, PtsAt.mono hD hw⟩⟩
theorem PtsAt.succ {w : World} {D : Nat → Prop} : ∀ {n : Nat} {l : List Pt} {v : Value}, PtsAt w D n l v → PtsAt w D (n + 1) l v
  | 0, l, v, ⟨h, a, c, e, hc⟩ => by
      subst h
      exact ⟨a, c, e, Nat.zero_le _, hc, fun i hi => absurd hi (Nat.not_lt_zero _)⟩
  | n + 1, l, v, ⟨a, c, h1, h2, h3, h⟩ => ⟨a, c, h1, h2, h3, fun i hi => by
      obtain ⟨b, off, wv, e, hb, hd, hc, hw⟩ := h i hi
      exact ⟨b, off, wv, e, hb, hd, hc, PtsAt.succ hw⟩⟩
theorem PtsAt.le {w : World} {D : Nat → Prop} {n m : Nat} {l : List Pt} {v : Value} (h : PtsAt w D n l v) (hm : n ≤ m) : PtsAt w D m l v := by
  induction m with
  | zero => obtain rfl : n = 0 := by omega
            exact h
  | succ m ih =>
    by_cases e : n = m + 1
    · subst e; exact h
    · exact (ih (by omega)).succ
theorem PtsAt.nil (w : World) (D : Nat → Prop) (n : Nat) : PtsAt w D n [] (.slice none 0 0) := PtsAt.le (n := 0) ⟨rfl, none, 0, rfl, Nat.zero_le _⟩ (Nat.zero_le _)
theorem PtsAt.shape {w : World} {D : Nat → Prop} {n : Nat} {l : List Pt} {v : Value} (h : PtsAt w D n l v) : ∃ a c, v = .slice a l.length c ∧ l.length ≤ c ∧ c ≤ maxLen := by
  cases n with
  | zero => obtain ⟨rfl, a, c, e, hc⟩ := h; exact ⟨a, c, e, Nat.zero_le _, hc⟩
  | succ n => obtain ⟨a, c, h1, h2, h3, _⟩ := h; exact ⟨a, c, h1, h2, h3⟩

/-- The cells of parts, one behind the other. -/
def cellsL : List Pt → List Value → List Value
  | p :: l, v :: vs => cellsP p v ++ cellsL l vs
  | _, _ => []
theorem cellsL_len : ∀ {l : List Pt} {vs : List Value}, vs.length = l.length → (cellsL l vs).length = l.length * 6
  | [], [], _ => rfl
  | p :: l, v :: vs, h => by
    have := cellsL_len (l := l) (vs := vs) (by simpa using h)
    simp only [cellsL, List.length_append, cellsP_len, this, List.length_cons]; omega
theorem cellsL_append : ∀ {l m : List Pt} {vs us : List Value}, vs.length = l.length → cellsL (l ++ m) (vs ++ us) = cellsL l vs ++ cellsL m us
  | [], m, [], us, _ => rfl
  | p :: l, m, v :: vs, us, h => by
    simp only [List.cons_append, cellsL, cellsL_append (l := l) (vs := vs) (by simpa using h), List.append_assoc]
theorem cellsL_at : ∀ {l : List Pt} {vs : List Value} {i : Nat} (h : vs.length = l.length) (hi : i < l.length) (j : Nat) (u : Value), (cellsP l[i] (vs[i]'(by omega)))[j]? = some u → (cellsL l vs)[i * 6 + j]? = some u
  | p :: l, v :: vs, 0, h, hi, j, u, hu => by
    simp only [List.getElem_cons_zero] at hu
    rw [Nat.zero_mul, Nat.zero_add]
    simp only [cellsL]
    rw [List.getElem?_append_left]
    · exact hu
    · exact (List.getElem?_eq_some_iff.1 hu).1
  | p :: l, v :: vs, i + 1, h, hi, j, u, hu => by
    simp only [List.getElem_cons_succ] at hu
    simp only [cellsL]
    rw [List.getElem?_append_right (by rw [cellsP_len]; omega), cellsP_len, show (i + 1) * 6 + j - 6 = i * 6 + j by omega]
    exact cellsL_at (by simpa using h) (by simpa using hi) j u hu

/-- A slice of parts in a row that the call owns: what is nested is only read, in blocks that D lets, and not in that row. -/
def OwnPts (w : World) (D : Nat → Prop) (v : Value) (raw : List Pt) : Prop :=
  ∃ vs n, vs.length = raw.length ∧ w.ownsRow 0 39 6 v raw.length (cellsL raw vs) ∧
    ∀ i (h : i < raw.length) (h' : i < vs.length), PtsAt w (fun b => D b ∧ v.ownBlock ≠ some b) n raw[i].word vs[i]

theorem OwnPts.nil (w : World) (D : Nat → Prop) : OwnPts w D (.slice none 0 0) [] :=
  ⟨[], 0, rfl, World.ownsRow_nil _ _ _ _, fun i h => absurd h (Nat.not_lt_zero _)⟩
theorem OwnPts.shape {w : World} {D : Nat → Prop} {v : Value} {raw : List Pt} (h : OwnPts w D v raw) : ∃ a c, v = .slice a raw.length c ∧ raw.length ≤ c ∧ c ≤ maxLen := by
  obtain ⟨vs, n, hl, ho, _⟩ := h
  rcases ho.2 with ⟨rfl, h0⟩ | ⟨g, cap, cur, rfl, _, _, h1, h2, _⟩
  · exact ⟨none, 0, by rw [h0], by omega, Nat.zero_le _⟩
  · exact ⟨_, cap, rfl, h1, h2⟩
theorem OwnPts.lt {w : World} {D : Nat → Prop} {v : Value} {raw : List Pt} (h : OwnPts w D v raw) {g : Nat} (hg : v.ownBlock = some g) : g < w.heap.size := by
  obtain ⟨vs, n, hl, ho, _⟩ := h
  exact (ho.lt g hg).2

theorem OwnPts.keep {w w' : World} {D S : Nat → Prop} {v : Value} {raw : List Pt} (h : OwnPts w D v raw) (hk : Keeps S w w') (hD : ∀ b, b < w.heap.size → D b → ¬ S b) (hv : ∀ g, v.ownBlock = some g → ¬ S g) : OwnPts w' D v raw := by
  obtain ⟨vs, n, hl, ho, hn⟩ := h
  refine ⟨vs, n, hl, ⟨ho.1, ?_⟩, fun i h h' => (hn i h h').keep hk fun b hb hd => hD b hb hd.1⟩
  rcases ho.2 with h0 | ⟨g, cap, cur, rfl, hb, hg, rest⟩
  · exact .inl h0
  · exact .inr ⟨g, cap, cur, rfl, hb, (hk.block g (Array.getElem?_eq_some_iff.1 hg).1 (hv g rfl)).trans hg, rest⟩

/-- As it is read by others. -/
theorem OwnPts.reads {w : World} {D : Nat → Prop} {v : Value} {raw : List Pt} (h : OwnPts w D v raw) (hD : ∀ g, v.ownBlock = some g → D g) : ∃ n, PtsAt w D n raw v := by
  have hs := h.shape
  obtain ⟨vs, n, hl, ho, hn⟩ := h
  obtain ⟨a, c, e, h1, h2⟩ := hs
  subst e
  refine ⟨n + 1, a, c, rfl, h1, h2, fun i hi => ?_⟩
  rcases ho.2 with ⟨_, h0⟩ | ⟨g, cap, cur, e, _, hg, _⟩
  · omega
  simp only [Value.slice.injEq] at e
  obtain ⟨rfl, _, rfl⟩ := e
  refine ⟨g, 0, vs[i]'(by omega), rfl, (Array.getElem?_eq_some_iff.1 hg).1, hD g rfl, fun j u hu => ?_, (hn i hi (by omega)).mono fun b _ hb => hb.1⟩
  have hj : j < 6 := (List.getElem?_eq_some_iff.1 hu).1
  rw [ho.cellAt _ (by omega), Nat.zero_add]
  exact cellsL_at hl hi j u hu

/-- The record of a word that is made: one cell, a slice. -/
def WordAt (w : World) (b : Nat) (v : Value) : Prop := ∃ T, w.heap[b]? = some (.cells #[v] T (0, 0))
theorem WordAt.lt {w : World} {b : Nat} {v : Value} (h : WordAt w b v) : b < w.heap.size := by
  obtain ⟨T, h⟩ := h
  exact (Array.getElem?_eq_some_iff.1 h).1
theorem WordAt.cell {w : World} {b : Nat} {v : Value} (h : WordAt w b v) : w.cell? ⟨b, 0, none⟩ = some v ∧ w.frozen? ⟨b, 0, none⟩ = false := by
  obtain ⟨T, h⟩ := h
  refine ⟨?_, ?_⟩ <;> simp [World.cell?, World.frozen?, h]
theorem WordAt.set {w : World} {b : Nat} {v : Value} (h : WordAt w b v) (u : Value) : WordAt (w.setCell ⟨b, 0, none⟩ u) b u := by
  obtain ⟨T, h⟩ := h
  exact ⟨T, by simp [World.setCell, Array.getElem?_modify, h]⟩
theorem WordAt.keep {w w' : World} {b : Nat} {v : Value} {S : Nat → Prop} (h : WordAt w b v) (hk : Keeps S w w') (hb : ¬ S b) : WordAt w' b v := by
  have hl := h.lt
  obtain ⟨T, h⟩ := h
  exact ⟨T, (hk.block b hl hb).trans h⟩

theorem info_part : (Try.prog.info? 39).map (fun i => (i.zero, i.size, i.bytes)) = some (some (.agg #[.int .i64 0, .string ⟨#[]⟩, .string ⟨#[]⟩, .string ⟨#[]⟩, .slice none 0 0, .bool false]), 6, 88) := by kernel_rfl
theorem cells_part : Try.prog.cellsOf 39 = 6 := by kernel_rfl
end Go.Proofs.Ytnndnldpbdhkgaa
