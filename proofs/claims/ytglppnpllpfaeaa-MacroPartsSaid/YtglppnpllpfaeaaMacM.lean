/-
  Expand.
-/
import Derived.Test.YtglppnpllpfaeaaMacL
namespace Go.Proofs.Ytglppnpllpfaeaa
open Go.RowKit
set_option linter.unusedVariables false

theorem exp_catch_idle (p q : Addr) (w : World) :
    CallsD Try.prog 21 #[.pointer (some p), .pointer (some q)] .returning w fun e u' w' => e = .returned (.tuple #[]) ∧ u' = .returning ∧ w' = w := by
  refine callsD_of_wpS Try.func21 rfl fun c₀ cs hu => ?_
  apply wpS_seq
  apply wpS_region
  simp [wpOpsS, go_sem, recoverD, hu, Try.ntmps21, Exit.thenS]
  apply wpS_seq
  apply wpS_region
  simp [wpOpsS, go_sem, Exit.thenS]
  refine wpS_cond (t := false) (by simp [Act.eval, Array.replicate]) ?_
  simp only [Bool.false_eq_true, if_false]
  refine wpS_of_wp (wp_skip ?_)
  cases c₀
  simp_all [bodyPostS, results, Try.results21]
set_option maxRecDepth 100000 in
set_option maxHeartbeats 4000000 in
theorem exp_catch (a b : Nat) (x : Nat) (u0 u1 : Value) (older : List PanicEntry) (w : World) (hp : w.cell? ⟨a, 0, none⟩ = some u0) (hq : w.cell? ⟨b, 0, none⟩ = some u1) (hpf : w.frozen? ⟨a, 0, none⟩ = false) (hqf : w.frozen? ⟨b, 0, none⟩ = false) (hpq : a ≠ b) (la : a < w.heap.size) (lb : b < w.heap.size) :
    CallsD Try.prog 21 #[.pointer (some ⟨a, 0, none⟩), .pointer (some ⟨b, 0, none⟩)] (.panicking ({ v := .iface 47 (.agg #[.int .i64 x]), recovered := false } :: older)) w fun e u' w' =>
      e = .returned (.tuple #[]) ∧ u' = .panicking ({ v := .iface 47 (.agg #[.int .i64 x]), recovered := true } :: older) ∧ w' = (((w.setCell ⟨a, 0, none⟩ (.string ⟨#[]⟩)).setCell ⟨b, 0, none⟩ (.int .i64 x)).alloc (.cells #[.int .i64 x] 47)).drew := by
  have ha : ∀ (v : Value) (W : World), (Instr.typeAssert (.iface 47 v) 20 47 true).run Try.prog W = .ok (.tuple #[v, .bool true]) W := fun v W => by kernel_rfl
  refine callsD_of_wpS Try.func21 rfl fun c₀ cs hu => ?_
  apply wpS_seq
  apply wpS_region
  simp [wpOpsS, go_sem, recoverD, hu, Try.ntmps21, Exit.thenS]
  apply wpS_seq
  apply wpS_region
  simp [wpOpsS, go_sem, Exit.thenS]
  refine wpS_cond (t := true) (by simp [Act.eval, Array.replicate]) ?_
  simp only [if_true]
  refine wpS_of_wp ?_
  rw [show (#[Value.pointer (some ⟨a, 0, none⟩), Value.pointer (some ⟨b, 0, none⟩)] ++ ((((Array.replicate 16 undef).setIfInBounds 3 (Value.iface 47 (Value.agg #[Value.int IntKind.i64 (x : Int)]))).setIfInBounds 0 (Value.iface 47 (Value.agg #[Value.int IntKind.i64 (x : Int)]))).setIfInBounds 4 (Value.iface 47 (Value.agg #[Value.int IntKind.i64 (x : Int)]))).setIfInBounds 5 (Value.bool true)) =
    #[Value.pointer (some ⟨a, 0, none⟩), Value.pointer (some ⟨b, 0, none⟩), (Value.iface 47 (Value.agg #[Value.int IntKind.i64 (x : Int)])), undef, undef, (Value.iface 47 (Value.agg #[Value.int IntKind.i64 (x : Int)])), (Value.iface 47 (Value.agg #[Value.int IntKind.i64 (x : Int)])), Value.bool true, undef, undef, undef, undef, undef, undef, undef, undef, undef, undef] from rfl]
  go_wp2_with fail
  go_region
  go_wp2_with fail
  cases c₀
  simp_all [bodyPostS, results, Try.results21]
/-- What Expand hands back. -/
def ExpPost (w : World) (res : Except Nat Bs) (e : Ending) (w' : World) : Prop := match res with
  | .ok y => e = .returned (.tuple #[strV y, .int .i64 0]) ∧ Keeps (fun _ => False) w w'
  | .error x => e = .returned (.tuple #[.string ⟨#[]⟩, .int .i64 x]) ∧ Keeps (fun _ => False) w w'
/-- The two results' variables, as they stand at the door. -/
def Res2 (w : World) (R : Nat) : Prop := ∃ T T', w.heap[R]? = some (.cells #[.string ⟨#[]⟩] T (0, 0)) ∧ w.heap[R + 1]? = some (.cells #[.int .i64 0] T' (0, 0))
theorem Res2.keep {w w' : World} {R : Nat} {S : Nat → Prop} (h : Res2 w R) (hk : Keeps S w w') (h0 : ¬ S R) (h1 : ¬ S (R + 1)) : Res2 w' R := by
  obtain ⟨T, T', a, b⟩ := h
  exact ⟨T, T', (hk.block R (Array.getElem?_eq_some_iff.1 a).1 h0).trans a, (hk.block (R + 1) (Array.getElem?_eq_some_iff.1 b).1 h1).trans b⟩
theorem Res2.cells {w : World} {R : Nat} (h : Res2 w R) : w.cell? ⟨R, 0, none⟩ = some (.string ⟨#[]⟩) ∧ w.cell? ⟨R + 1, 0, none⟩ = some (.int .i64 0) ∧ w.frozen? ⟨R, 0, none⟩ = false ∧ w.frozen? ⟨R + 1, 0, none⟩ = false ∧ R + 1 < w.heap.size := by
  obtain ⟨T, T', a, b⟩ := h
  refine ⟨?_, ?_, ?_, ?_, (Array.getElem?_eq_some_iff.1 b).1⟩ <;> simp [World.cell?, World.frozen?, a, b]
theorem res2_set {w : World} {R : Nat} (u v : Value) (h : Res2 w R) : ((w.setCell ⟨R, 0, none⟩ u).setCell ⟨R + 1, 0, none⟩ v).cell? ⟨R, 0, none⟩ = some u ∧ ((w.setCell ⟨R, 0, none⟩ u).setCell ⟨R + 1, 0, none⟩ v).cell? ⟨R + 1, 0, none⟩ = some v ∧ Keeps (fun b => b = R ∨ b = R + 1) w ((w.setCell ⟨R, 0, none⟩ u).setCell ⟨R + 1, 0, none⟩ v) := by
  obtain ⟨T, T', a, b⟩ := h
  refine ⟨?_, ?_, ((Keeps.refl _ _).setCell _ _ fun _ => .inl rfl).setCell _ _ fun _ => .inr rfl⟩
  · rw [World.cell?_setCell_other _ _ _ _ (by simp)]
    exact World.cell?_setCell_same _ _ _ (u := .string ⟨#[]⟩) (by simp [World.cell?, a])
  · refine World.cell?_setCell_same _ _ _ (u := .int .i64 0) ?_
    rw [World.cell?_setCell_other _ _ _ _ (by simp)]
    simp [World.cell?, b]
end Go.Proofs.Ytglppnpllpfaeaa
