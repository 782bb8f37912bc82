/-
  The expander in memory.
-/
import Derived.Test.YtglppnpllpfaeaaMacC
import Derived.Test.YtglppnpllpfaeaaMacH
import Derived.Lib.FrozenHead
import Derived.Lib.OthersKept
namespace Go.Proofs.Ytglppnpllpfaeaa
open Go.RowKit
set_option linter.unusedVariables false

/-- A record: its cells. -/
def RecAt (w : World) (b : Nat) (l : List Value) : Prop := ∃ T, w.heap[b]? = some (.cells l.toArray T (0, 0))
theorem RecAt.lt {w : World} {b : Nat} {l : List Value} (h : RecAt w b l) : b < w.heap.size := by
  obtain ⟨T, h⟩ := h
  exact (Array.getElem?_eq_some_iff.1 h).1
theorem RecAt.five {w : World} {b : Nat} {a0 a1 a2 a3 a4 : Value} (h : RecAt w b [a0, a1, a2, a3, a4]) :
    (w.cell? ⟨b, 0, none⟩ = some a0 ∧ w.cell? ⟨b, 1, none⟩ = some a1 ∧ w.cell? ⟨b, 2, none⟩ = some a2 ∧ w.cell? ⟨b, 3, none⟩ = some a3 ∧ w.cell? ⟨b, 4, none⟩ = some a4) ∧
    (w.frozen? ⟨b, 2, none⟩ = false ∧ w.frozen? ⟨b, 3, none⟩ = false ∧ w.frozen? ⟨b, 4, none⟩ = false) := by
  obtain ⟨T, h⟩ := h
  refine ⟨⟨?_, ?_, ?_, ?_, ?_⟩, ?_, ?_, ?_⟩ <;> simp [World.cell?, World.frozen?, h]
theorem RecAt.set {w : World} {b : Nat} {l : List Value} (h : RecAt w b l) (k : Nat) (v : Value) : RecAt (w.setCell ⟨b, k, none⟩ v) b (l.set k v) := by
  obtain ⟨T, h⟩ := h
  exact ⟨T, by simp [World.setCell, Array.getElem?_modify, h]⟩
theorem RecAt.keep {w w' : World} {b : Nat} {l : List Value} {S : Nat → Prop} (h : RecAt w b l) (hk : Keeps S w w') (hb : ¬ S b) : RecAt w' b l := by
  have hl := h.lt
  obtain ⟨T, h⟩ := h
  exact ⟨T, (hk.block b hl hb).trans h⟩

/-- What a call on the expander may write. -/
def Foot (xb : Nat) (ov : Value) (b : Nat) : Prop := b = xb ∨ ov.ownBlock = some b
/-- The expander: macros, macros for this once, open names, how deep, how many references. -/
structure XAt (w : World) (xb : Nat) (lv av ov : Value) (l auto : List (Bs × Bs)) (op : List Bs) (deep refs : Nat) : Prop where
  rc : RecAt w xb [lv, av, ov, .int .i64 deep, .int .i64 refs]
  hl : PairsAt w (fun b => b < xb) lv l
  ha : PairsAt w (fun b => b < xb) av auto
  ho : w.ownsRow 0 9 1 ov op.length (op.map strV)
  low : ∀ g, ov.ownBlock = some g → xb < g
  ops : op.length ≤ deep
  deep40 : deep ≤ 40
  refs_le : refs ≤ 10000
  gl : ∃ m : Int, w.cell? ⟨0, 0, none⟩ = some (.int .i64 m)
  pos : 0 < xb
theorem cellx_lt {w : World} {b o : Nat} {v : Value} (h : w.cell? ⟨b, o, none⟩ = some v) : b < w.heap.size := by
  rcases Nat.lt_or_ge b w.heap.size with h2 | h2
  · exact h2
  · exfalso
    unfold World.cell? at h
    rw [Array.getElem?_eq_none h2] at h
    cases h
theorem ownsRow_keep {w w' : World} {B n : Nat} {e : TypeId} {v : Value} {xs : List Value} {S : Nat → Prop} (h : w.ownsRow B e 1 v n xs) (hk : Keeps S w w') (hv : ∀ g, v.ownBlock = some g → ¬ S g) : w'.ownsRow B e 1 v n xs := by
  refine ⟨h.1, ?_⟩
  rcases h.2 with h0 | ⟨g, cap, cur, rfl, hb, hg, rest⟩
  · exact .inl h0
  · exact .inr ⟨g, cap, cur, rfl, hb, (hk.block g (Array.getElem?_eq_some_iff.1 hg).1 (hv g rfl)).trans hg, rest⟩
theorem ownsRow_lt {w : World} {B n : Nat} {e : TypeId} {v : Value} {xs : List Value} (h : w.ownsRow B e 1 v n xs) {g : Nat} (hg : v.ownBlock = some g) : g < w.heap.size := (h.lt g hg).2
section
variable {w w' : World} {xb : Nat} {lv av ov : Value} {l auto : List (Bs × Bs)} {op : List Bs} {deep refs : Nat}
/-- Nothing of the expander is written. -/
theorem XAt.keep {S : Nat → Prop} (h : XAt w xb lv av ov l auto op deep refs) (hk : Keeps S w w') (h1 : ∀ b, b ≤ xb → ¬ S b) (h2 : ∀ g, ov.ownBlock = some g → ¬ S g) : XAt w' xb lv av ov l auto op deep refs :=
  { h with
    rc := h.rc.keep hk (h1 xb (Nat.le_refl _))
    hl := h.hl.keep hk fun b _ hb => h1 b (Nat.le_of_lt hb)
    ha := h.ha.keep hk fun b _ hb => h1 b (Nat.le_of_lt hb)
    ho := ownsRow_keep h.ho hk h2
    gl := by
      obtain ⟨m, hm⟩ := h.gl
      exact ⟨m, by rw [World.cell?_of_block (hk.block 0 (cellx_lt hm) (h1 0 (Nat.zero_le _)))]; exact hm⟩ }
theorem XAt.drewN (h : XAt w xb lv av ov l auto op deep refs) (n : Nat) : XAt (w.drewN n) xb lv av ov l auto op deep refs :=
  h.keep (S := fun _ => False) ((Keeps.refl _ _).drewN n) (fun _ _ x => x) (fun _ _ x => x)
theorem XAt.alloc (h : XAt w xb lv av ov l auto op deep refs) (o : Obj) : XAt (w.alloc o) xb lv av ov l auto op deep refs :=
  h.keep (S := fun _ => False) ((Keeps.refl _ _).alloc o) (fun _ _ x => x) (fun _ _ x => x)
/-- A cell of the record is written. -/
theorem XAt.setDeep (h : XAt w xb lv av ov l auto op deep refs) (d : Nat) (hd : op.length ≤ d) (h40 : d ≤ 40) : XAt (w.setCell ⟨xb, 3, none⟩ (.int .i64 d)) xb lv av ov l auto op d refs := by
  have hk : Keeps (fun b => b = xb) w (w.setCell ⟨xb, 3, none⟩ (.int .i64 d)) := (Keeps.refl _ _).setCell _ _ fun _ => rfl
  have hne : ∀ g, ov.ownBlock = some g → ¬ g = xb := fun g hg e => by have := h.low g hg; omega
  exact { h with
    rc := h.rc.set 3 _
    hl := h.hl.keep hk fun b _ hb e => by omega
    ha := h.ha.keep hk fun b _ hb e => by omega
    ho := ownsRow_keep h.ho hk hne
    ops := hd
    deep40 := h40
    gl := by
      obtain ⟨m, hm⟩ := h.gl
      exact ⟨m, by rw [World.cell?_of_block (hk.block 0 (cellx_lt hm) (fun e => by have := h.pos; omega))]; exact hm⟩ }
theorem XAt.setRefs (h : XAt w xb lv av ov l auto op deep refs) (r : Nat) (hr : r ≤ 10000) : XAt (w.setCell ⟨xb, 4, none⟩ (.int .i64 r)) xb lv av ov l auto op deep r := by
  have hk : Keeps (fun b => b = xb) w (w.setCell ⟨xb, 4, none⟩ (.int .i64 r)) := (Keeps.refl _ _).setCell _ _ fun _ => rfl
  have hne : ∀ g, ov.ownBlock = some g → ¬ g = xb := fun g hg e => by have := h.low g hg; omega
  exact { h with
    rc := h.rc.set 4 _
    hl := h.hl.keep hk fun b _ hb e => by omega
    ha := h.ha.keep hk fun b _ hb e => by omega
    ho := ownsRow_keep h.ho hk hne
    refs_le := hr
    gl := by
      obtain ⟨m, hm⟩ := h.gl
      exact ⟨m, by rw [World.cell?_of_block (hk.block 0 (cellx_lt hm) (fun e => by have := h.pos; omega))]; exact hm⟩ }
end
/-- The row is the old one, or new. -/
def Newer (w : World) (ov ov' : Value) : Prop := ∀ g, ov'.ownBlock = some g → ov.ownBlock = some g ∨ w.heap.size ≤ g
theorem Newer.refl (w : World) (ov : Value) : Newer w ov ov := fun _ h => .inl h
theorem Newer.trans {w w' : World} {a b c : Value} (h : Newer w a b) (k : Newer w' b c) (hw : w.heap.size ≤ w'.heap.size) : Newer w a c := fun g hg => by
  rcases k g hg with h1 | h1
  · exact h g h1
  · exact .inr (Nat.le_trans hw h1)
/-- What a call on the expander hands back. -/
def XPost {α : Type} (w : World) (xb : Nat) (lv av ov : Value) (l auto : List (Bs × Bs)) (op : List Bs) (deep : Nat) (mk : α → Value) (res : Except Nat (α × Nat)) (e : Ending) (w' : World) : Prop := match res with
  | .ok (y, r) => ∃ ov', e = .returned (mk y) ∧ XAt w' xb lv av ov' l auto op deep r ∧ Newer w ov ov' ∧ Keeps (Foot xb ov) w w'
  | .error x => ∃ (ov' : Value) (r' : Nat), e = failed x ∧ RecAt w' xb [lv, av, ov', .int .i64 deep, .int .i64 r'] ∧ Keeps (Foot xb ov) w w'
theorem Foot.trans {w w1 w2 : World} {xb : Nat} {ov ov1 : Value} (h : Keeps (Foot xb ov) w w1) (hn : Newer w ov ov1) (k : Keeps (Foot xb ov1) w1 w2) : Keeps (Foot xb ov) w w2 :=
  h.trans k fun b hb e => by
    rcases e with e | e
    · exact .inl e
    · rcases hn b e with h1 | h1
      · exact .inr h1
      · omega
/-- A name more is open. -/
theorem ownsRow_less {w : World} {B n : Nat} {e : TypeId} {g cap : Nat} {xs : List Value} {x : Value} (h : w.ownsRow B e 1 (.slice (some ⟨g, 0, none⟩) (n + 1) cap) (n + 1) (xs ++ [x])) : w.ownsRow B e 1 (.slice (some ⟨g, 0, none⟩) n cap) n xs := by
  obtain ⟨h1, h2⟩ := h
  have hx : xs.length = n := by simpa using h1
  refine ⟨by rw [hx, Nat.mul_one], .inr ?_⟩
  rcases h2 with ⟨h2, _⟩ | ⟨g', cap', cur, e1, hb, hg, hle, hm, hs, ht⟩
  · cases h2
  · injection e1 with e2 e3 e4
    injection e2 with e2
    injection e2 with e2
    subst e2 e4
    refine ⟨g, cap, cur, rfl, hb, hg, by omega, hm, hs, ?_⟩
    rw [Nat.mul_one] at ht ⊢
    have : (cur.toList.take (n + 1)).take n = (xs ++ [x]).take n := by rw [ht]
    rw [List.take_take, Nat.min_eq_left (by omega)] at this
    rw [this, List.take_append_of_le_length (by omega), List.take_of_length_le (by omega)]
end Go.Proofs.Ytglppnpllpfaeaa
