/-
  LexTwos' walk.
-/
import Derived.Test.YtnndnldpbdhkgaaLexBC
namespace Go.Proofs.Ytnndnldpbdhkgaa
open Go.RowKit
set_option linter.unusedVariables false

theorem Keeps.below0 {S : Nat → Prop} {a b : World} (h : Keeps S a b) (hS : ∀ x, S x → a.heap.size ≤ x) : Below a.heap.size a b := (h.mono fun x _ s => hS x s).below (Nat.le_refl _)
def twoB (s : List UInt8) (k : Nat) (op : List UInt8) : Bool := match tokensF s with
  | .ok l => l.length == k + 2 && (match l[k]? with | some t => t.kind == 2 && t.text == op | none => false)
  | .error _ => false
theorem two_of {w : World} {s op : List UInt8} {k : Nat} {e : Ending} {w' : World} (hp : TokensPost w (tokensF s) e w') (ht : twoB s k op = true) :
    ∃ g o c, e = .returned (.tuple #[.slice (some ⟨g, o, none⟩) (k + 2) c, .int .i64 0]) ∧ w'.cell? ⟨g, o + k * 3, none⟩ = some (.int .i64 2) ∧ w'.cell? ⟨g, o + k * 3 + 1, none⟩ = some (strV op) ∧ Keeps (fun _ => False) w w' := by
  unfold twoB at ht
  cases h : tokensF s with
  | error x => rw [h] at ht; cases ht
  | ok l =>
    rw [h] at ht hp
    dsimp only at ht
    rw [Bool.and_eq_true, beq_iff_eq] at ht
    obtain ⟨hl, ht⟩ := ht
    have hk : k < l.length := by omega
    rw [List.getElem?_eq_getElem hk] at ht
    dsimp only at ht
    rw [Bool.and_eq_true, beq_iff_eq, beq_iff_eq] at ht
    obtain ⟨v, n, he, hv, hkp⟩ := hp
    obtain ⟨a, c, rfl, _, _⟩ := hv.shape
    obtain ⟨g, o, xa, xl, xc, rfl, ⟨q0, q1, q2⟩, hx, hg⟩ := hv.at (Keeps.refl _ _) hk
    rw [ht.1] at q0
    rw [ht.2] at q1
    exact ⟨g, o, c, by rw [he, hl], q0, q1, hkp⟩

theorem three_blocks {w1 w2 : World} {c1 c2 c3 : Array Value} {T1 T2 T3 : TypeId} (hk : Keeps (fun _ => False) (((w1.alloc (.cells c1 T1)).alloc (.cells c2 T2)).alloc (.cells c3 T3)) w2) :
    w2.heap[w1.heap.size]? = some (.cells c1 T1 (0, 0)) ∧ w2.heap[w1.heap.size + 1]? = some (.cells c2 T2 (0, 0)) ∧ w2.heap[w1.heap.size + 1 + 1]? = some (.cells c3 T3 (0, 0)) := by
  have k1 : Keeps (fun _ => False) (w1.alloc (.cells c1 T1)) w2 := (((Keeps.refl _ _).alloc _).alloc _).trans hk (fun _ _ h => h)
  have k2 : Keeps (fun _ => False) ((w1.alloc (.cells c1 T1)).alloc (.cells c2 T2)) w2 := ((Keeps.refl _ _).alloc _).trans hk (fun _ _ h => h)
  have a1 := heap_alloc_new w1 (.cells c1 T1)
  have a2 := heap_alloc_new (w1.alloc (.cells c1 T1)) (.cells c2 T2)
  have a3 := heap_alloc_new ((w1.alloc (.cells c1 T1)).alloc (.cells c2 T2)) (.cells c3 T3)
  rw [show (w1.alloc (.cells c1 T1)).heap.size = w1.heap.size + 1 by simp] at a2
  rw [show ((w1.alloc (.cells c1 T1)).alloc (.cells c2 T2)).heap.size = w1.heap.size + 1 + 1 by simp] at a3
  exact ⟨(k1.block _ (by simp) (fun h => h)).trans a1, (k2.block _ (by simp) (fun h => h)).trans a2, (hk.block _ (by simp) (fun h => h)).trans a3⟩

set_option maxRecDepth 100000 in
set_option maxHeartbeats 4000000 in
theorem lexTwos_walk (a0 : Int) (w : World) (h0 : (Lit.int .i64 a0).wf = true) (hsh : w.ShapedOpen Try.prog) :
    Calls Try.prog 9 #[.int .i64 a0] w fun e w' => e = .returned (.bool true) ∧ Below w.heap.size w w' := by
  have hc3 := cells_token
  by_cases hn : a0 < 0 ∨ 11 ≤ a0
  · rcases hn with hn | hn
    · go_enter Try.func9, Try.ntmps9
      go_wp2_with fail
      refine (alive_any w).mono ?_
      rintro e w1 ⟨rfl, hk⟩
      have HK := Lib.hid hk
      clear hk
      go_wp2_with fail
      go_ret
      exact ⟨rfl, (((HK.out.alloc _).alloc _).alloc _).below0 (fun _ h => h.elim)⟩
    · have hn2 : ¬ a0 < 0 := by omega
      go_enter Try.func9, Try.ntmps9
      go_wp2_with fail
      refine (alive_any w).mono ?_
      rintro e w1 ⟨rfl, hk⟩
      have HK := Lib.hid hk
      clear hk
      go_wp2_with fail
      go_ret
      exact ⟨rfl, (((HK.out.alloc _).alloc _).alloc _).below0 (fun _ h => h.elim)⟩
  · have hn1 : 0 ≤ a0 := by omega
    have hn2 : a0 < 11 := by omega
    clear hn h0
    obtain ⟨k, rfl⟩ : ∃ k : Nat, a0 = k := ⟨a0.toNat, by omega⟩
    have hk : k = 0 ∨ k = 1 ∨ k = 2 ∨ k = 3 ∨ k = 4 ∨ k = 5 ∨ k = 6 ∨ k = 7 ∨ k = 8 ∨ k = 9 ∨ k = 10 := by omega
    clear hn1 hn2
    go_enter Try.func9, Try.ntmps9
    go_wp2_with fail
    refine (alive_any w).mono ?_
    rintro e w1 ⟨rfl, hk1⟩
    have HK := Lib.hid hk1
    clear hk1
    rcases hk with rfl | rfl | rfl | rfl | rfl | rfl | rfl | rfl | rfl | rfl | rfl
    · go_wp2_with fail
      refine (tokens_any ⟨#[50, 62, 102]⟩ _ (by decide)).mono ?_
      intro e w2 hp
      obtain ⟨g, o, c, rfl, t0, t1, hk2⟩ := two_of (k := 0) (op := [50, 62]) hp (by kernel_rfl)
      obtain ⟨_, y1, y2⟩ := three_blocks hk2
      have c1 := cell_of_row _ _ 0 _ _ _ y1
      have c2 := cell_of_row _ _ 0 _ _ _ y2
      simp at c1 c2
      unfold strV at t1
      simp at t0 t1
      have HK2 := Lib.hid ((((HK.out.alloc _).alloc _).alloc _).trans hk2 (fun _ _ h => h))
      clear hp hk2 y1 y2
      go_wp2_with fail
      go_quiet ((go_at_call 16; exact Calls.quiet_of_same (num_any _ _)))
      go_wp2_with fail
      go_ret
      exact ⟨rfl, (HK2.out.drewN _).below0 (fun _ h => h.elim)⟩
    · go_wp2_with fail
      refine (tokens_any ⟨#[97, 32, 50, 62, 102]⟩ _ (by decide)).mono ?_
      intro e w2 hp
      obtain ⟨g, o, c, rfl, t0, t1, hk2⟩ := two_of (k := 1) (op := [50, 62]) hp (by kernel_rfl)
      obtain ⟨_, y1, y2⟩ := three_blocks hk2
      have c1 := cell_of_row _ _ 1 _ _ _ y1
      have c2 := cell_of_row _ _ 1 _ _ _ y2
      simp at c1 c2
      unfold strV at t1
      simp at t0 t1
      have HK2 := Lib.hid ((((HK.out.alloc _).alloc _).alloc _).trans hk2 (fun _ _ h => h))
      clear hp hk2 y1 y2
      go_wp2_with fail
      go_quiet ((go_at_call 16; exact Calls.quiet_of_same (num_any _ _)))
      go_wp2_with fail
      go_ret
      exact ⟨rfl, (HK2.out.drewN _).below0 (fun _ h => h.elim)⟩
    · go_wp2_with fail
      refine (tokens_any ⟨#[97, 50, 62, 102]⟩ _ (by decide)).mono ?_
      intro e w2 hp
      obtain ⟨g, o, c, rfl, t0, t1, hk2⟩ := two_of (k := 1) (op := [62]) hp (by kernel_rfl)
      obtain ⟨_, y1, y2⟩ := three_blocks hk2
      have c1 := cell_of_row _ _ 2 _ _ _ y1
      have c2 := cell_of_row _ _ 2 _ _ _ y2
      simp at c1 c2
      unfold strV at t1
      simp at t0 t1
      have HK2 := Lib.hid ((((HK.out.alloc _).alloc _).alloc _).trans hk2 (fun _ _ h => h))
      clear hp hk2 y1 y2
      go_wp2_with fail
      go_quiet ((go_at_call 16; exact Calls.quiet_of_same (num_any _ _)))
      go_wp2_with fail
      go_ret
      exact ⟨rfl, (HK2.out.drewN _).below0 (fun _ h => h.elim)⟩
    · go_wp2_with fail
      refine (tokens_any ⟨#[50, 32, 62, 102]⟩ _ (by decide)).mono ?_
      intro e w2 hp
      obtain ⟨g, o, c, rfl, t0, t1, hk2⟩ := two_of (k := 1) (op := [62]) hp (by kernel_rfl)
      obtain ⟨_, y1, y2⟩ := three_blocks hk2
      have c1 := cell_of_row _ _ 3 _ _ _ y1
      have c2 := cell_of_row _ _ 3 _ _ _ y2
      simp at c1 c2
      unfold strV at t1
      simp at t0 t1
      have HK2 := Lib.hid ((((HK.out.alloc _).alloc _).alloc _).trans hk2 (fun _ _ h => h))
      clear hp hk2 y1 y2
      go_wp2_with fail
      go_quiet ((go_at_call 16; exact Calls.quiet_of_same (num_any _ _)))
      go_wp2_with fail
      go_ret
      exact ⟨rfl, (HK2.out.drewN _).below0 (fun _ h => h.elim)⟩
    · go_wp2_with fail
      refine (tokens_any ⟨#[50, 62, 62, 102]⟩ _ (by decide)).mono ?_
      intro e w2 hp
      obtain ⟨g, o, c, rfl, t0, t1, hk2⟩ := two_of (k := 0) (op := [50, 62, 62]) hp (by kernel_rfl)
      obtain ⟨_, y1, y2⟩ := three_blocks hk2
      have c1 := cell_of_row _ _ 4 _ _ _ y1
      have c2 := cell_of_row _ _ 4 _ _ _ y2
      simp at c1 c2
      unfold strV at t1
      simp at t0 t1
      have HK2 := Lib.hid ((((HK.out.alloc _).alloc _).alloc _).trans hk2 (fun _ _ h => h))
      clear hp hk2 y1 y2
      go_wp2_with fail
      go_quiet ((go_at_call 16; exact Calls.quiet_of_same (num_any _ _)))
      go_wp2_with fail
      go_ret
      exact ⟨rfl, (HK2.out.drewN _).below0 (fun _ h => h.elim)⟩
    · go_wp2_with fail
      refine (tokens_any ⟨#[97, 32, 50, 62, 62, 102]⟩ _ (by decide)).mono ?_
      intro e w2 hp
      obtain ⟨g, o, c, rfl, t0, t1, hk2⟩ := two_of (k := 1) (op := [50, 62, 62]) hp (by kernel_rfl)
      obtain ⟨_, y1, y2⟩ := three_blocks hk2
      have c1 := cell_of_row _ _ 5 _ _ _ y1
      have c2 := cell_of_row _ _ 5 _ _ _ y2
      simp at c1 c2
      unfold strV at t1
      simp at t0 t1
      have HK2 := Lib.hid ((((HK.out.alloc _).alloc _).alloc _).trans hk2 (fun _ _ h => h))
      clear hp hk2 y1 y2
      go_wp2_with fail
      go_quiet ((go_at_call 16; exact Calls.quiet_of_same (num_any _ _)))
      go_wp2_with fail
      go_ret
      exact ⟨rfl, (HK2.out.drewN _).below0 (fun _ h => h.elim)⟩
    · go_wp2_with fail
      refine (tokens_any ⟨#[34, 50, 34, 62, 102]⟩ _ (by decide)).mono ?_
      intro e w2 hp
      obtain ⟨g, o, c, rfl, t0, t1, hk2⟩ := two_of (k := 1) (op := [62]) hp (by kernel_rfl)
      obtain ⟨_, y1, y2⟩ := three_blocks hk2
      have c1 := cell_of_row _ _ 6 _ _ _ y1
      have c2 := cell_of_row _ _ 6 _ _ _ y2
      simp at c1 c2
      unfold strV at t1
      simp at t0 t1
      have HK2 := Lib.hid ((((HK.out.alloc _).alloc _).alloc _).trans hk2 (fun _ _ h => h))
      clear hp hk2 y1 y2
      go_wp2_with fail
      go_quiet ((go_at_call 16; exact Calls.quiet_of_same (num_any _ _)))
      go_wp2_with fail
      go_ret
      exact ⟨rfl, (HK2.out.drewN _).below0 (fun _ h => h.elim)⟩
    · go_wp2_with fail
      refine (tokens_any ⟨#[49, 50, 62, 102]⟩ _ (by decide)).mono ?_
      intro e w2 hp
      obtain ⟨g, o, c, rfl, t0, t1, hk2⟩ := two_of (k := 1) (op := [62]) hp (by kernel_rfl)
      obtain ⟨_, y1, y2⟩ := three_blocks hk2
      have c1 := cell_of_row _ _ 7 _ _ _ y1
      have c2 := cell_of_row _ _ 7 _ _ _ y2
      simp at c1 c2
      unfold strV at t1
      simp at t0 t1
      have HK2 := Lib.hid ((((HK.out.alloc _).alloc _).alloc _).trans hk2 (fun _ _ h => h))
      clear hp hk2 y1 y2
      go_wp2_with fail
      go_quiet ((go_at_call 16; exact Calls.quiet_of_same (num_any _ _)))
      go_wp2_with fail
      go_ret
      exact ⟨rfl, (HK2.out.drewN _).below0 (fun _ h => h.elim)⟩
    · go_wp2_with fail
      refine (tokens_any ⟨#[51, 62, 102]⟩ _ (by decide)).mono ?_
      intro e w2 hp
      obtain ⟨g, o, c, rfl, t0, t1, hk2⟩ := two_of (k := 1) (op := [62]) hp (by kernel_rfl)
      obtain ⟨_, y1, y2⟩ := three_blocks hk2
      have c1 := cell_of_row _ _ 8 _ _ _ y1
      have c2 := cell_of_row _ _ 8 _ _ _ y2
      simp at c1 c2
      unfold strV at t1
      simp at t0 t1
      have HK2 := Lib.hid ((((HK.out.alloc _).alloc _).alloc _).trans hk2 (fun _ _ h => h))
      clear hp hk2 y1 y2
      go_wp2_with fail
      go_quiet ((go_at_call 16; exact Calls.quiet_of_same (num_any _ _)))
      go_wp2_with fail
      go_ret
      exact ⟨rfl, (HK2.out.drewN _).below0 (fun _ h => h.elim)⟩
    · go_wp2_with fail
      refine (tokens_any ⟨#[50, 60, 102]⟩ _ (by decide)).mono ?_
      intro e w2 hp
      obtain ⟨g, o, c, rfl, t0, t1, hk2⟩ := two_of (k := 1) (op := [60]) hp (by kernel_rfl)
      obtain ⟨_, y1, y2⟩ := three_blocks hk2
      have c1 := cell_of_row _ _ 9 _ _ _ y1
      have c2 := cell_of_row _ _ 9 _ _ _ y2
      simp at c1 c2
      unfold strV at t1
      simp at t0 t1
      have HK2 := Lib.hid ((((HK.out.alloc _).alloc _).alloc _).trans hk2 (fun _ _ h => h))
      clear hp hk2 y1 y2
      go_wp2_with fail
      go_quiet ((go_at_call 16; exact Calls.quiet_of_same (num_any _ _)))
      go_wp2_with fail
      go_ret
      exact ⟨rfl, (HK2.out.drewN _).below0 (fun _ h => h.elim)⟩
    · go_wp2_with fail
      refine (tokens_any ⟨#[36, 120, 50, 62, 102]⟩ _ (by decide)).mono ?_
      intro e w2 hp
      obtain ⟨g, o, c, rfl, t0, t1, hk2⟩ := two_of (k := 1) (op := [62]) hp (by kernel_rfl)
      obtain ⟨_, y1, y2⟩ := three_blocks hk2
      have c1 := cell_of_row _ _ 10 _ _ _ y1
      have c2 := cell_of_row _ _ 10 _ _ _ y2
      simp at c1 c2
      unfold strV at t1
      simp at t0 t1
      have HK2 := Lib.hid ((((HK.out.alloc _).alloc _).alloc _).trans hk2 (fun _ _ h => h))
      clear hp hk2 y1 y2
      go_wp2_with fail
      go_quiet ((go_at_call 16; exact Calls.quiet_of_same (num_any _ _)))
      go_wp2_with fail
      go_ret
      exact ⟨rfl, (HK2.out.drewN _).below0 (fun _ h => h.elim)⟩
end Go.Proofs.Ytnndnldpbdhkgaa
