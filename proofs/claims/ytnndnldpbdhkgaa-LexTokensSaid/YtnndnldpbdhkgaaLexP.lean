/-
  The contract of put: a text behind a word's parts.
-/
import Derived.Test.YtnndnldpbdhkgaaLexE
import Derived.OneCell
namespace Go.Proofs.Ytnndnldpbdhkgaa
open Go.RowKit
set_option linter.unusedVariables false

theorem zero_facts {w : World} {e : TypeId} {g c L : Nat} {xs : List Value} (h : w.ownsRow 0 e 6 (.slice (some ⟨g, 0, none⟩) (L + 1) c) (L + 1) (xs ++ [.int .i64 0, .string ⟨#[]⟩, .string ⟨#[]⟩, .string ⟨#[]⟩, .slice none 0 0, .bool false])) :
    w.cell? ⟨g, L * 6, none⟩ = some (.int .i64 0) ∧ w.cell? ⟨g, L * 6 + 1, none⟩ = some (.string ⟨#[]⟩) ∧ w.cell? ⟨g, L * 6 + 2, none⟩ = some (.string ⟨#[]⟩) ∧ w.cell? ⟨g, L * 6 + 3, none⟩ = some (.string ⟨#[]⟩) ∧
    w.cell? ⟨g, L * 6 + 4, none⟩ = some (.slice none 0 0) ∧ w.cell? ⟨g, L * 6 + 5, none⟩ = some (.bool false) ∧
    w.frozen? ⟨g, L * 6, none⟩ = false ∧ w.frozen? ⟨g, L * 6 + 1, none⟩ = false ∧ w.frozen? ⟨g, L * 6 + 2, none⟩ = false ∧ w.frozen? ⟨g, L * 6 + 3, none⟩ = false ∧ w.frozen? ⟨g, L * 6 + 4, none⟩ = false ∧ w.frozen? ⟨g, L * 6 + 5, none⟩ = false := by
  have hx : xs.length = L * 6 := by have := h.1; simp at this; omega
  have key : ∀ j, j < 6 → w.cell? ⟨g, L * 6 + j, none⟩ = [Value.int .i64 0, .string ⟨#[]⟩, .string ⟨#[]⟩, .string ⟨#[]⟩, .slice none 0 0, .bool false][j]? := fun j hj => by
    rw [h.cellAt _ (by omega), List.getElem?_append_right (by omega), hx, show L * 6 + j - L * 6 = j by omega]
  exact ⟨key 0 (by omega), key 1 (by omega), key 2 (by omega), key 3 (by omega), key 4 (by omega), key 5 (by omega), h.frozenAt _, h.frozenAt _, h.frozenAt _, h.frozenAt _, h.frozenAt _, h.frozenAt _⟩
theorem zero_facts0 {w : World} {e : TypeId} {g c : Nat} {xs : List Value} (h : w.ownsRow 0 e 6 (.slice (some ⟨g, 0, none⟩) (0 + 1) c) (0 + 1) (xs ++ [.int .i64 0, .string ⟨#[]⟩, .string ⟨#[]⟩, .string ⟨#[]⟩, .slice none 0 0, .bool false])) :
    w.cell? ⟨g, 0, none⟩ = some (.int .i64 0) ∧ w.cell? ⟨g, 1, none⟩ = some (.string ⟨#[]⟩) ∧ w.cell? ⟨g, 2, none⟩ = some (.string ⟨#[]⟩) ∧ w.cell? ⟨g, 3, none⟩ = some (.string ⟨#[]⟩) ∧
    w.cell? ⟨g, 4, none⟩ = some (.slice none 0 0) ∧ w.cell? ⟨g, 5, none⟩ = some (.bool false) ∧
    w.frozen? ⟨g, 0, none⟩ = false ∧ w.frozen? ⟨g, 1, none⟩ = false ∧ w.frozen? ⟨g, 2, none⟩ = false ∧ w.frozen? ⟨g, 3, none⟩ = false ∧ w.frozen? ⟨g, 4, none⟩ = false ∧ w.frozen? ⟨g, 5, none⟩ = false := by
  simpa using zero_facts h
theorem word_after {w w1 : World} {o : Obj} {wb : Nat} {u v : Value} (c0 : w.cell? ⟨wb, 0, none⟩ = some u) (f0 : w.frozen? ⟨wb, 0, none⟩ = false) (lw : wb < w.heap.size) (hv : v.ownBlock ≠ some wb) (hg : (w.alloc o).drew.grownBy w1 v.ownBlock) :
    w1.cell? ⟨wb, 0, none⟩ = some u ∧ w1.frozen? ⟨wb, 0, none⟩ = false := by
  have hb : w1.heap[wb]? = w.heap[wb]? := (hg.block wb (by simp [World.drew]; omega) (Ne.symm hv)).trans (Below.heap_alloc _ _ _ lw)
  exact ⟨(World.cell?_of_block (a := ⟨wb, 0, none⟩) hb).trans c0, (World.frozen?_of_block (a := ⟨wb, 0, none⟩) hb).trans f0⟩
theorem row_apart {v : Value} {wb gg H : Nat} (hv : v.ownBlock ≠ some wb) (hat : v.ownBlock = some gg ∨ gg = H + 1) (lw : wb < H) : gg ≠ wb := by
  rcases hat with hat | hat
  · exact fun e => hv (e ▸ hat)
  · omega
/-- What put leaves: one element more. -/
def PutCore (w : World) (wb L : Nat) (v : Value) (xs : List Value) (e : Ending) (w' : World) : Prop :=
  e = .returned (.tuple #[]) ∧ ∃ g cap, WordAt w' wb (.slice (some ⟨g, 0, none⟩) (L + 1) cap) ∧ w'.ownsRow 0 39 6 (.slice (some ⟨g, 0, none⟩) (L + 1) cap) (L + 1) xs ∧
    (v.ownBlock = some g ∨ w.heap.size ≤ g) ∧ g ≠ wb ∧ Keeps (fun b => b = wb ∨ v.ownBlock = some b) w w'

/-- Six cells stored. -/
def set6 (w : World) (g o : Nat) (u0 u1 u2 u3 u4 u5 : Value) : World :=
  (((((w.setCell ⟨g, o, none⟩ u0).setCell ⟨g, o + 1, none⟩ u1).setCell ⟨g, o + 2, none⟩ u2).setCell ⟨g, o + 3, none⟩ u3).setCell ⟨g, o + 4, none⟩ u4).setCell ⟨g, o + 5, none⟩ u5
theorem set_tail {xs ys : List Value} {o j : Nat} (h : xs.length = o) (u : Value) : (xs ++ ys).set (o + j) u = xs ++ ys.set j u := by
  rw [List.set_append_right _ _ (by omega), h, show o + j - o = j by omega]
theorem six_stored {w : World} {e : TypeId} {g c n o : Nat} {xs : List Value} {z0 z1 z2 z3 z4 z5 : Value} (hx : xs.length = o) (h : w.ownsRow 0 e 6 (.slice (some ⟨g, 0, none⟩) n c) n (xs ++ [z0, z1, z2, z3, z4, z5])) (u0 u1 u2 u3 u4 u5 : Value) :
    (set6 w g o u0 u1 u2 u3 u4 u5).ownsRow 0 e 6 (.slice (some ⟨g, 0, none⟩) n c) n (xs ++ [u0, u1, u2, u3, u4, u5]) := by
  have h0 := (h.stored (o + 0) u0).1
  rw [set_tail hx] at h0
  have h1 := (h0.stored (o + 1) u1).1
  rw [set_tail hx] at h1
  have h2 := (h1.stored (o + 2) u2).1
  rw [set_tail hx] at h2
  have h3 := (h2.stored (o + 3) u3).1
  rw [set_tail hx] at h3
  have h4 := (h3.stored (o + 4) u4).1
  rw [set_tail hx] at h4
  have h5 := (h4.stored (o + 5) u5).1
  rw [set_tail hx] at h5
  exact h5
theorem Keeps.set1 {S : Nat → Prop} {a b : World} {g : Nat} (h : Keeps S a b) (o : Nat) (v : Value) (hp : S g) : Keeps S a (b.setCell ⟨g, o, none⟩ v) := h.setCell _ _ fun _ => hp
theorem set6_keeps (w : World) (g o : Nat) (u0 u1 u2 u3 u4 u5 : Value) : Keeps (fun b => b = g) w (set6 w g o u0 u1 u2 u3 u4 u5) := by
  unfold set6
  have h0 := (Keeps.refl (fun b => b = g) w).set1 o u0 rfl
  have h1 := h0.set1 (o + 1) u1 rfl
  have h2 := h1.set1 (o + 2) u2 rfl
  have h3 := h2.set1 (o + 3) u3 rfl
  have h4 := h3.set1 (o + 4) u4 rfl
  exact h4.set1 (o + 5) u5 rfl

theorem put_end {w w1 w2 : World} {o : Obj} {wb g cap L : Nat} {u v : Value} {xs : List Value} {z0 z1 z2 z3 z4 z5 u0 u1 u2 u3 u4 u5 : Value}
    (hown : w1.ownsRow 0 39 6 (.slice (some ⟨g, 0, none⟩) (L + 1) cap) (L + 1) (xs ++ [z0, z1, z2, z3, z4, z5])) (hg : (w.alloc o).drew.grownBy w1 v.ownBlock) (hat : v.ownBlock = some g ∨ g = w.heap.size + 1) (hgw : g ≠ wb) (hw : WordAt w wb u)
    (hv : v.ownBlock ≠ some wb)
    (hc : w2 = set6 (w1.setCell ⟨wb, 0, none⟩ (.slice (some ⟨g, 0, none⟩) (L + 1) cap)) g (L * 6) u0 u1 u2 u3 u4 u5 ∨ w2 = (set6 w1 g (L * 6) u0 u1 u2 u3 u4 u5).setCell ⟨wb, 0, none⟩ (.slice (some ⟨g, 0, none⟩) (L + 1) cap)) :
    PutCore w wb L v (xs ++ [u0, u1, u2, u3, u4, u5]) (.returned (.tuple #[])) w2 := by
  have hx : xs.length = L * 6 := by have := hown.1; simp at this; omega
  have k1 : Keeps (fun b => b = wb ∨ v.ownBlock = some b) w w1 := ((Keeps.refl _ w).alloc o).drew.grown hg fun k hk _ => .inr hk
  have lw := hw.lt
  have hw1 : WordAt w1 wb u := by
    obtain ⟨T, h⟩ := hw
    exact ⟨T, ((hg.block wb (by simp [World.drew]; omega) (Ne.symm hv)).trans (Below.heap_alloc _ _ _ lw)).trans h⟩
  have k2 : ∀ k, k < w.heap.size → k = g → (k = wb ∨ v.ownBlock = some k) := fun k hk e => by
    rcases hat with hat | hat
    · exact .inr (by rw [hat, e])
    · omega
  rcases hc with rfl | rfl
  · refine ⟨rfl, g, cap, ?_, ?_, ?_, hgw, ?_⟩
    · exact (hw1.set _).keep (set6_keeps _ _ _ _ _ _ _ _ _) (Ne.symm hgw)
    · exact six_stored hx (Go.ownsRow_setCell_other hown (by simpa [Value.ownBlock] using hgw) _) _ _ _ _ _ _
    · rcases hat with h | h; exact .inl h; exact .inr (by omega)
    · exact (k1.setCell _ _ fun _ => .inl rfl).trans (set6_keeps _ _ _ _ _ _ _ _ _) fun k hk e => k2 k hk e
  · refine ⟨rfl, g, cap, ?_, ?_, ?_, hgw, ?_⟩
    · exact (hw1.keep (set6_keeps _ _ _ _ _ _ _ _ _) (Ne.symm hgw)).set _
    · exact Go.ownsRow_setCell_other (six_stored hx hown _ _ _ _ _ _) (by simpa [Value.ownBlock] using hgw) _
    · rcases hat with h | h; exact .inl h; exact .inr (by omega)
    · exact (k1.trans (set6_keeps _ _ _ _ _ _ _ _ _) fun k hk e => k2 k hk e).setCell _ _ fun _ => .inl rfl

theorem put_end0a {w w1 : World} {o : Obj} {wb g cap : Nat} {u v : Value} {xs : List Value} {z0 z1 z2 z3 z4 z5 u0 u1 u2 u3 u4 u5 : Value}
    (hown : w1.ownsRow 0 39 6 (.slice (some ⟨g, 0, none⟩) (0 + 1) cap) (0 + 1) (xs ++ [z0, z1, z2, z3, z4, z5])) (hg : (w.alloc o).drew.grownBy w1 v.ownBlock) (hat : v.ownBlock = some g ∨ g = w.heap.size + 1) (hgw : g ≠ wb) (hw : WordAt w wb u)
    (hv : v.ownBlock ≠ some wb) :
    PutCore w wb 0 v (xs ++ [u0, u1, u2, u3, u4, u5]) (.returned (.tuple #[])) (((((((w1.setCell ⟨wb, 0, none⟩ (.slice (some ⟨g, 0, none⟩) 1 cap)).setCell ⟨g, 0, none⟩ u0).setCell ⟨g, 1, none⟩ u1).setCell ⟨g, 2, none⟩ u2).setCell ⟨g, 3, none⟩ u3).setCell ⟨g, 4, none⟩ u4).setCell ⟨g, 5, none⟩ u5) :=
  put_end hown hg hat hgw hw hv (.inl rfl)
theorem put_end0b {w w1 : World} {o : Obj} {wb g cap : Nat} {u v : Value} {xs : List Value} {z0 z1 z2 z3 z4 z5 u0 u1 u2 u3 u4 u5 : Value}
    (hown : w1.ownsRow 0 39 6 (.slice (some ⟨g, 0, none⟩) (0 + 1) cap) (0 + 1) (xs ++ [z0, z1, z2, z3, z4, z5])) (hg : (w.alloc o).drew.grownBy w1 v.ownBlock) (hat : v.ownBlock = some g ∨ g = w.heap.size + 1) (hgw : g ≠ wb) (hw : WordAt w wb u)
    (hv : v.ownBlock ≠ some wb) :
    PutCore w wb 0 v (xs ++ [u0, u1, u2, u3, u4, u5]) (.returned (.tuple #[])) (((((((w1.setCell ⟨g, 0, none⟩ u0).setCell ⟨g, 1, none⟩ u1).setCell ⟨g, 2, none⟩ u2).setCell ⟨g, 3, none⟩ u3).setCell ⟨g, 4, none⟩ u4).setCell ⟨g, 5, none⟩ u5).setCell ⟨wb, 0, none⟩ (.slice (some ⟨g, 0, none⟩) 1 cap)) :=
  put_end hown hg hat hgw hw hv (.inr rfl)

set_option maxRecDepth 100000 in
set_option maxHeartbeats 400000 in
theorem put_nil (wb : Nat) (a : Option Addr) (c : Nat) (k : Int) (xs : List Value) (s : ByteArray) (w : World) (hw : WordAt w wb (.slice a 0 c)) (hown : w.ownsRow 0 39 6 (.slice a 0 c) 0 xs) (hv : (Value.slice a 0 c).ownBlock ≠ some wb) (hk : (k == 1) = true ∧ s.toList.isEmpty = false ∧ (s.toList == []) = false ∨ (k == 1) = false) :
    Calls Try.prog 52 #[.pointer (some ⟨wb, 0, none⟩), .int .i64 k, .string s] w (PutCore w wb 0 (.slice a 0 c) (xs ++ [.int .i64 k, .string s, .string ⟨#[]⟩, .string ⟨#[]⟩, .slice none 0 0, .bool false])) := by
  have lw := hw.lt
  obtain ⟨c0, f0⟩ := hw.cell
  obtain ⟨i0, hi0, hz0, hz1, hz2⟩ := info_parts info_part
  have hc6 := cells_part
  have HW := Lib.hid hw
  clear hw
  rcases hk with ⟨k1, k2, k3⟩ | k1
  all_goals
    go_enter Try.func52, Try.ntmps52
    go_wp2_with fail
    go_region_law
      ((refine step_append_lies _ (by rfl) _ _ _ (by rfl) 0 39 i0 _ 6 88 Try.underlying32 hi0 hz0 hz1 hz2 rfl (by omega) (.slice a 0 c) 0 xs (by rfl) ((hown.alloc _).drew)
          ⟨w.heap.size, 0, none⟩ 1 1 [.int .i64 0, .string ⟨#[]⟩, .string ⟨#[]⟩, .string ⟨#[]⟩, .slice none 0 0, .bool false] (by rfl) (by rfl) (World.news_of_block (cs := #[.int .i64 0, .string ⟨#[]⟩, .string ⟨#[]⟩, .string ⟨#[]⟩, .slice none 0 0, .bool false]) (t := 39) (fr := (0, 0)) (heap_alloc_new w _)) (by simp [Value.oneCell'])
          (by omega) (by unfold maxLen; omega) (by omega) (by simp) (w.heap.size + 1) (by simp) ?_; intro gg cap w1 hown1 hgrow hat hlt
        obtain ⟨t0, t1, t2, t3, t4, t5, z0, z1, z2, z3, z4, z5⟩ := zero_facts0 hown1
        have hgw := row_apart hv hat lw
        obtain ⟨y0, y1⟩ := word_after c0 f0 lw hv hgrow
))
    all_goals (go_end0; first | (with_reducible exact put_end0a hown1 hgrow hat hgw HW.out hv) | (with_reducible exact put_end0b hown1 hgrow hat hgw HW.out hv))
end Go.Proofs.Ytnndnldpbdhkgaa
