/-
  What the laws of chapter 19 share; MacroNames' walk.
-/
import Derived.Test.YtglppnpllpfaeaaMacN
namespace Go.Proofs.Ytglppnpllpfaeaa
open Go.RowKit
set_option linter.unusedVariables false

theorem num_any (x : Int) (w : World) : Calls Try.prog 14 #[.int .i64 x] w fun e w' => e = .returned (.int .i64 x) ∧ w' = w := by
  go_enter Try.func14, Try.ntmps14
  go_wp2_with fail
  go_ret
  exact ⟨rfl, rfl⟩
theorem Keeps.below0 {S : Nat → Prop} {a b : World} (h : Keeps S a b) (hS : ∀ x, S x → a.heap.size ≤ x) : Below a.heap.size a b := (h.mono fun x _ s => hS x s).below (Nat.le_refl _)
def cellsPr : List (Bs × Bs) → List Value
  | [] => []
  | p :: l => strV p.1 :: strV p.2 :: cellsPr l
theorem cellsPr_at : ∀ (l : List (Bs × Bs)) (i : Nat) (h : i < l.length), (cellsPr l)[i * 2]? = some (strV l[i].1) ∧ (cellsPr l)[i * 2 + 1]? = some (strV l[i].2)
  | p :: l, 0, _ => ⟨rfl, rfl⟩
  | p :: l, i + 1, h => by
    have ih := cellsPr_at l i (by simpa using h)
    rw [show (i + 1) * 2 = i * 2 + 1 + 1 by omega]
    exact ih
theorem cellsPr_append : ∀ (l m : List (Bs × Bs)), cellsPr (l ++ m) = cellsPr l ++ cellsPr m
  | [], m => rfl
  | p :: l, m => by rw [List.cons_append, cellsPr, cellsPr_append l m]; rfl
theorem cellsPr_len : ∀ l : List (Bs × Bs), (cellsPr l).length = l.length * 2
  | [] => rfl
  | p :: l => by rw [cellsPr, List.length_cons, List.length_cons, cellsPr_len l, List.length_cons]; omega
/-- Pairs that stand in a block. -/
theorem pairs_block {w : World} {b : Nat} {cs : Array Value} {T : TypeId} {fr : Nat × Nat} {l : List (Bs × Bs)} {n c : Nat} (h : w.heap[b]? = some (.cells cs T fr)) (hcs : ∀ (k : Nat) (u : Value), (cellsPr l)[k]? = some u → cs[k]? = some u) (hn : n = l.length) (hl : l.length ≤ 1000000) : PairsAt w (fun _ => True) (.slice (some ⟨b, 0, none⟩) n c) l := by
  subst hn
  have hb := (Array.getElem?_eq_some_iff.1 h).1
  refine ⟨_, c, rfl, by omega, fun i hi => ⟨b, 0, rfl, hb, trivial, ?_, ?_⟩⟩
  · have := hcs _ _ (cellsPr_at l i hi).1
    rw [Nat.zero_add]
    simpa [World.cell?, h] using this
  · have := hcs _ _ (cellsPr_at l i hi).2
    rw [Nat.zero_add]
    simpa [World.cell?, h] using this
theorem pairs_lit {l : List (Bs × Bs)} {cs : Array Value} (h : cs.toList = cellsPr l) : ∀ (k : Nat) (u : Value), (cellsPr l)[k]? = some u → cs[k]? = some u := fun k u hu => by
  rw [← h] at hu
  rw [← Array.getElem?_toList]; exact hu
def Gl (w : World) : Prop := ∃ m : Int, w.cell? ⟨0, 0, none⟩ = some (.int .i64 m)
theorem Gl.keep {w w' : World} (h : Gl w) (hk : Keeps (fun _ => False) w w') : Gl w' := by
  obtain ⟨m, hm⟩ := h
  exact ⟨m, by rw [World.cell?_of_block (hk.block 0 (cellx_lt hm) (fun h => h))]; exact hm⟩
theorem gl_of {w : World} (h : w.ShapedOpen Try.prog) : Gl w := Try.laysM145.s1_3 w h
theorem small_nil : Small [] := fun p hp => by cases hp
theorem small_of {l : List (Bs × Bs)} (h : ∀ p ∈ l, p.2.length ≤ 3000) : Small l := fun p hp => Nat.le_trans (h p hp) (by omega)

set_option maxRecDepth 100000 in
set_option maxHeartbeats 4000000 in
theorem alive_any (w : World) (gl : Gl w) : Calls Try.prog 11 #[] w fun e w' => e = .returned (.bool true) ∧ Keeps (fun _ => False) w w' := by
  have hc2 : Try.prog.cellsOf 35 = 2 := by kernel_rfl
  obtain ⟨W, hW⟩ : ∃ W, W = w.alloc (.cells #[.string ⟨#[97]⟩, .string ⟨#[120, 46, 99, 32, 121]⟩] 35) := ⟨_, rfl⟩
  have hk : Keeps (fun _ => False) w W := by rw [hW]; exact (Keeps.refl _ _).alloc _
  have hp : PairsAt W (fun _ => True) (.slice (some ⟨w.heap.size, 0, none⟩) 1 1) [([97], [120, 46, 99, 32, 121])] := by
    rw [hW]
    exact pairs_block (heap_alloc_new w _) (pairs_lit rfl) rfl (by decide)
  have hx := expand_any ⟨#[36, 40, 97, 58, 46, 99, 61, 46, 111, 41]⟩ (.slice (some ⟨w.heap.size, 0, none⟩) 1 1) (.slice none 0 0) [([97], [120, 46, 99, 32, 121])] [] W (by decide) hp (PairsAt.nil _ _) ⟨small_of (by decide), small_nil⟩ (gl.keep hk)
  rw [show expandF [([97], [120, 46, 99, 32, 121])] [] (⟨#[36, 40, 97, 58, 46, 99, 61, 46, 111, 41]⟩ : ByteArray).data.toList = .ok [120, 46, 111, 32, 121] by kernel_rfl] at hx
  have HX := Lib.hid hx
  have HK := Lib.hid hk
  have HW := Lib.hid hW
  clear hx hk hp hW
  go_enter Try.func11, Try.ntmps11
  go_wp2_with fail
  rw [← HW.out]
  refine HX.out.mono ?_
  rintro e w1 ⟨rfl, hk1⟩
  have HK1 := Lib.hid (HK.out.trans hk1 (fun _ _ h => h))
  clear hk1
  unfold strV
  go_wp2_with fail
  refine (num_any 0 _).mono ?_
  rintro e w2 ⟨rfl, hw2⟩
  rw [hw2]
  clear hw2
  go_wp2_with fail
  go_ret
  exact ⟨rfl, HK1.out⟩
set_option maxRecDepth 100000 in
set_option maxHeartbeats 4000000 in
theorem macroNames_walk (a0 : ByteArray) (w : World) (h0 : a0.size ≤ 140737488351232) (hsh : w.ShapedOpen Try.prog) :
    Calls Try.prog 8 #[.string a0] w fun e w' => e = .returned (.bool true) ∧ Below w.heap.size w w' := by
  have gl := gl_of hsh
  by_cases hl : 200 < a0.size
  · have p1 : (200 : Int) < (a0.size : Int) := by omega
    go_enter Try.func8, Try.ntmps8
    go_wp2_with fail
    refine (alive_any w gl).mono ?_
    rintro e w1 ⟨rfl, hk⟩
    have HK := Lib.hid hk
    clear hk
    go_wp2_with fail
    go_ret
    exact ⟨rfl, HK.out.below0 (fun _ h => h.elim)⟩
  · have p1 : ¬ (200 : Int) < (a0.size : Int) := by omega
    obtain ⟨b, hb⟩ : ∃ b, b = nameF a0.data.toList := ⟨_, rfl⟩
    have HB := Lib.hid hb
    clear hb
    go_enter Try.func8, Try.ntmps8
    go_wp2_with fail
    refine (alive_any w gl).mono ?_
    rintro e w1 ⟨rfl, hk⟩
    have HK := Lib.hid hk
    clear hk
    go_wp2_with fail
    refine (name_any a0 _ (by omega)).mono ?_
    rintro e w2 ⟨rfl, hk2⟩
    have HK2 := Lib.hid (HK.out.trans hk2 (fun _ _ h => h))
    rw [← HB.out]
    clear hk2
    go_wp2_with fail
    refine (refName_any a0 _ (by omega)).mono ?_
    rintro e w3 ⟨rfl, hw3⟩
    rw [hw3, ← HB.out]
    clear hw3
    cases b with
    | false =>
      go_wp2_with fail
      go_ret
      exact ⟨rfl, HK2.out.below0 (fun _ h => h.elim)⟩
    | true =>
      go_wp2_with fail
      go_ret
      exact ⟨rfl, HK2.out.below0 (fun _ h => h.elim)⟩
end Go.Proofs.Ytglppnpllpfaeaa
