/-
  A slice of pairs of texts that came in: what a proof's frame knows of it.
-/
import Derived.Test.YtglppnpllpfaeaaMacQ
import Derived.Deep.SlicePairs
import Derived.SizedLaws
namespace Go.Proofs.Ytglppnpllpfaeaa
open Go.RowKit
set_option linter.unusedVariables false

/-- Pairs that came in; each text is within the form's own reach. -/
def IsPairs (w : World) (a : Option Addr) (n c : Nat) (l : List (Bs × Bs)) : Prop :=
  PairsAt w (fun _ => True) (.slice a n c) l ∧ n = l.length ∧ ∀ p ∈ l, p.1.length ≤ 140737488351232 ∧ p.2.length ≤ 140737488351232
def strOfV : Value → ByteArray | .string s => s | _ => ByteArray.empty
theorem weightsAll_of {H : Type} {P : Program} {e : TypeId} {x : Nat} : ∀ {l : List (DataW H)} {d : DataW H}, d ∈ l → x ∈ DataW.weights P e d → x ∈ DataW.weightsAll P e l
  | y :: l, d, h, hx => by
    show _ ∈ (DataW.weights P e y ++ DataW.weightsAll P e l)
    rcases List.mem_cons.1 h with rfl | h'
    · exact List.mem_append_left _ hx
    · exact List.mem_append_right _ (weightsAll_of h' hx)
theorem isPairs_of {H : Type} {enc : TypeId × Value → H} {P : Program} {w : World} {base : Nat} {spare : Nat → Bool} {held : Bool} {t e : TypeId} {f0 f1 : Field} {fuel : Nat} {a : Option Addr} {n c : Nat} {d : DataW H} {pl : List MemPlace} {ts : List TypeId} {ds : List (DataW H)} {j : Nat}
    (ht : P.underlying t = some (.slice e)) (he : P.underlying e = some (.struct #[f0, f1])) (ce : P.cellsOf e = 2) (o0 : f0.offset = 0) (o1 : f1.offset = 1) (c0 : P.cellsOf f0.type = 1) (c1 : P.cellsOf f1.type = 1)
    (u0 : P.underlying f0.type = some .string) (u1 : P.underlying f1.type = some .string)
    (hf : DataW.trod enc P w base spare held fuel t [.slice a n c] = some (d, pl)) (hsz : (DataW.weightsEach P ts ds).all (· ≤ reachBytes) = true) (hts : ts[j]? = some t) (hds : ds[j]? = some d) : ∃ l, IsPairs w a n c l := by
  rcases Go.Deep.open_slice_pairs ht he ce o0 o1 c0 c1 hf with ⟨hcs, _⟩ | ⟨x, len, cap, m, k, V0, V1, D0, D1, P0, P1, hcs, _, hle, hmx, hm, hx, HC⟩
  · simp at hcs
    obtain ⟨rfl, rfl, rfl⟩ := hcs
    exact ⟨[], PairsAt.nil _ _, rfl, fun p hp => by cases hp⟩
  · simp at hcs
    obtain ⟨rfl, rfl, rfl⟩ := hcs
    have hlm : n ≤ m := by rw [hm]; split <;> omega
    have key : ∀ i, i < n → ∃ A B : ByteArray, V0 i = .string A ∧ V1 i = .string B ∧ D0 i = .lit (.string A.data.toList) ∧ D1 i = .lit (.string B.data.toList) := fun i hi => by
      obtain ⟨_, _, h3, h4⟩ := HC i (by omega)
      obtain ⟨A, hA, hA2, _⟩ := DataW.trod_string u0 h3
      obtain ⟨B, hB, hB2, _⟩ := DataW.trod_string u1 h4
      exact ⟨A, B, (List.cons.inj hA).1, (List.cons.inj hB).1, (Prod.mk.inj hA2).1, (Prod.mk.inj hB2).1⟩
    refine ⟨(List.range n).map fun i => ((strOfV (V0 i)).data.toList, (strOfV (V1 i)).data.toList), ⟨some x, c, by simp, by simp; unfold maxLen at hmx; omega, fun i hi => ?_⟩, by simp, fun p hp => ?_⟩
    · simp at hi
      obtain ⟨A, B, e1, e2, _, _⟩ := key i hi
      obtain ⟨h1, h2, _, _⟩ := HC i (by omega)
      obtain ⟨b, off, spot⟩ := x
      have hspot : spot = none := by simpa [Addr.add] using World.cell?_spot (HC 0 (by omega)).1
      subst hspot
      rw [Go.WideShapes.add_plain] at h1 h2
      refine ⟨b, off, rfl, cellx_lt h1, trivial, ?_, ?_⟩
      · rw [h1, e1]
        simp [e1, strOfV, strV]
      · rw [show off + i * 2 + 1 = off + (i * 2 + 1) by omega, h2, e2]
        simp [e2, strOfV, strV]
    · obtain ⟨i, hi, rfl⟩ := List.mem_map.1 hp
      rw [List.mem_range] at hi
      obtain ⟨A, B, e1, e2, e3, e4⟩ := key i hi
      have hdx : d = .slice ((List.range n).map fun i => .agg [D0 i, D1 i]) ((List.range (m - n)).map fun j => .agg [D0 (n + j), D1 (n + j)]) := (Prod.mk.inj hx).1
      have hw : ∀ y, y ∈ DataW.weights P e (.agg [D0 i, D1 i] : DataW H) → y ≤ 140737488351232 := fun y hy => by
        have hm2 : y ∈ DataW.weights P t d := by
          rw [hdx]
          simp only [DataW.weights, ht]
          exact List.mem_cons_of_mem _ (List.mem_append_left _ (weightsAll_of (List.mem_map.2 ⟨i, List.mem_range.2 hi, rfl⟩) hy))
        exact of_decide_eq_true (List.all_eq_true.1 hsz _ (DataW.weights_mem_each hts hds _ hm2))
      have hq : DataW.weights P e (.agg [D0 i, D1 i] : DataW H) = [A.data.toList.length, B.data.toList.length] := by
        rw [e3, e4]
        simp [DataW.weights, he, DataW.weightsEach]
      rw [hq] at hw
      refine ⟨?_, ?_⟩
      · show (strOfV (V0 i)).data.toList.length ≤ _
        rw [e1]
        exact hw _ (List.mem_cons_self ..)
      · show (strOfV (V1 i)).data.toList.length ≤ _
        rw [e2]
        exact hw _ (List.mem_cons_of_mem _ (List.mem_cons_self ..))
end Go.Proofs.Ytglppnpllpfaeaa
