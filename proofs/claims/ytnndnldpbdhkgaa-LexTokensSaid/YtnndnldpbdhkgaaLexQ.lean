/-
  The contract of put: a text behind a word's parts, where there are some.
-/
import Derived.Test.YtnndnldpbdhkgaaLexP
namespace Go.Proofs.Ytnndnldpbdhkgaa
open Go.RowKit
set_option linter.unusedVariables false

/-- How the tests come out where put appends. -/
def HeadD (k lk : Int) (s lt : ByteArray) : Prop :=
  ((k == 1) = true ∧ s.toList.isEmpty = false ∧ (s.toList == []) = false ∧ (lk == 2) = false) ∨
  ((k == 1) = true ∧ s.toList.isEmpty = false ∧ (s.toList == []) = false ∧ (lk == 2) = true ∧ lt.toList.isEmpty = false ∧ (lt.toList == []) = false) ∨
  ((k == 1) = true ∧ s.toList.isEmpty = false ∧ (s.toList == []) = false ∧ (lk == 2) = true ∧ lt.toList.isEmpty = true ∧ (lt.toList == []) = true ∧ (k == 2) = false) ∨
  ((k == 1) = false ∧ (lk == 2) = false) ∨
  ((k == 1) = false ∧ (lk == 2) = true ∧ lt.toList.isEmpty = false ∧ (lt.toList == []) = false)

theorem put_enda {w w1 : World} {o : Obj} {wb g cap L : Nat} {u v : Value} {xs : List Value} {z0 z1 z2 z3 z4 z5 u0 u1 u2 u3 u4 u5 : Value}
    (hown : w1.ownsRow 0 39 6 (.slice (some ⟨g, 0, none⟩) (L + 1) cap) (L + 1) (xs ++ [z0, z1, z2, z3, z4, z5])) (hg : (w.alloc o).drew.grownBy w1 v.ownBlock) (hat : v.ownBlock = some g ∨ g = w.heap.size + 1) (hgw : g ≠ wb) (hw : WordAt w wb u)
    (hv : v.ownBlock ≠ some wb) :
    PutCore w wb L v (xs ++ [u0, u1, u2, u3, u4, u5]) (.returned (.tuple #[])) (((((((w1.setCell ⟨wb, 0, none⟩ (.slice (some ⟨g, 0, none⟩) (L + 1) cap)).setCell ⟨g, L * 6, none⟩ u0).setCell ⟨g, L * 6 + 1, none⟩ u1).setCell ⟨g, L * 6 + 2, none⟩ u2).setCell ⟨g, L * 6 + 3, none⟩ u3).setCell ⟨g, L * 6 + 4, none⟩ u4).setCell ⟨g, L * 6 + 5, none⟩ u5) :=
  put_end hown hg hat hgw hw hv (.inl rfl)
theorem put_endb {w w1 : World} {o : Obj} {wb g cap L : Nat} {u v : Value} {xs : List Value} {z0 z1 z2 z3 z4 z5 u0 u1 u2 u3 u4 u5 : Value}
    (hown : w1.ownsRow 0 39 6 (.slice (some ⟨g, 0, none⟩) (L + 1) cap) (L + 1) (xs ++ [z0, z1, z2, z3, z4, z5])) (hg : (w.alloc o).drew.grownBy w1 v.ownBlock) (hat : v.ownBlock = some g ∨ g = w.heap.size + 1) (hgw : g ≠ wb) (hw : WordAt w wb u)
    (hv : v.ownBlock ≠ some wb) :
    PutCore w wb L v (xs ++ [u0, u1, u2, u3, u4, u5]) (.returned (.tuple #[])) (((((((w1.setCell ⟨g, L * 6, none⟩ u0).setCell ⟨g, L * 6 + 1, none⟩ u1).setCell ⟨g, L * 6 + 2, none⟩ u2).setCell ⟨g, L * 6 + 3, none⟩ u3).setCell ⟨g, L * 6 + 4, none⟩ u4).setCell ⟨g, L * 6 + 5, none⟩ u5).setCell ⟨wb, 0, none⟩ (.slice (some ⟨g, 0, none⟩) (L + 1) cap)) :=
  put_end hown hg hat hgw hw hv (.inr rfl)

set_option maxRecDepth 100000 in
set_option maxHeartbeats 2000000 in
theorem put_some (wb g L c : Nat) (k lk : Int) (lt s : ByteArray) (xs : List Value) (w : World) (hw : WordAt w wb (.slice (some ⟨g, 0, none⟩) (L + 1) c)) (hown : w.ownsRow 0 39 6 (.slice (some ⟨g, 0, none⟩) (L + 1) c) (L + 1) xs) (hgw : g ≠ wb) (hL : L ≤ 1000000)
    (hk : xs[L * 6]? = some (.int .i64 lk)) (ht : xs[L * 6 + 1]? = some (.string lt))
    (hd : HeadD k lk s lt) :
    Calls Try.prog 52 #[.pointer (some ⟨wb, 0, none⟩), .int .i64 k, .string s] w (PutCore w wb (L + 1) (.slice (some ⟨g, 0, none⟩) (L + 1) c) (xs ++ [.int .i64 k, .string s, .string ⟨#[]⟩, .string ⟨#[]⟩, .slice none 0 0, .bool false])) := by
  have lw := hw.lt
  obtain ⟨c0, f0⟩ := hw.cell
  obtain ⟨i0, hi0, hz0, hz1, hz2⟩ := info_parts info_part
  have hc6 := cells_part
  have p1 : 0 ≤ (L : Int) + 1 := by omega
  have p2 : (L : Int) < (L : Int) + 1 := by omega
  have q0 : w.cell? ⟨g, L * 6, none⟩ = some (.int .i64 lk) := (hown.cellAt _ (by omega)).trans hk
  have q1 : w.cell? ⟨g, L * 6 + 1, none⟩ = some (.string lt) := (hown.cellAt _ (by omega)).trans ht
  have hv : (Value.slice (some ⟨g, 0, none⟩) (L + 1) c).ownBlock ≠ some wb := by simpa [Value.ownBlock] using hgw
  have HW := Lib.hid hw
  have HK := Lib.hid hk
  have HT := Lib.hid ht
  clear hw hk ht
  unfold HeadD at hd
  rcases hd with ⟨k1, k2, k3, k4⟩ | ⟨k1, k2, k3, k4, k5, k6⟩ | ⟨k1, k2, k3, k4, k5, k6, k7⟩ | ⟨k1, k2⟩ | ⟨k1, k2, k3, k4⟩
  all_goals
    go_enter Try.func52, Try.ntmps52
    go_wp2_with fail
    go_region_law
      ((refine step_append_lies _ (by rfl) _ _ _ (by rfl) 0 39 i0 _ 6 88 Try.underlying32 hi0 hz0 hz1 hz2 rfl (by omega) (.slice (some ⟨g, 0, none⟩) (L + 1) c) (L + 1) xs (by rfl) ((hown.alloc _).drew)
          ⟨w.heap.size, 0, none⟩ 1 1 [.int .i64 0, .string ⟨#[]⟩, .string ⟨#[]⟩, .string ⟨#[]⟩, .slice none 0 0, .bool false] (by rfl) (by rfl) (World.news_of_block (cs := #[.int .i64 0, .string ⟨#[]⟩, .string ⟨#[]⟩, .string ⟨#[]⟩, .slice none 0 0, .bool false]) (t := 39) (fr := (0, 0)) (heap_alloc_new w _)) (by simp [Value.oneCell'])
          (by omega) (by unfold maxLen; omega) (by omega) (by simp) (w.heap.size + 1) (by simp) ?_; intro gg cap w1 hown1 hgrow hat hlt
        obtain ⟨t0, t1, t2, t3, t4, t5, z0, z1, z2, z3, z4, z5⟩ := zero_facts hown1
        obtain ⟨y0, y1⟩ := word_after c0 f0 lw hv hgrow
        have hgw2 := row_apart hv hat lw))
    all_goals (go_end0; first | (with_reducible exact put_enda hown1 hgrow hat hgw2 HW.out hv) | (with_reducible exact put_endb hown1 hgrow hat hgw2 HW.out hv))
end Go.Proofs.Ytnndnldpbdhkgaa
