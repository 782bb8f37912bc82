/-
  Slices of texts and of numbers that are only read: what a walk is told of them.
-/
import Derived.Test.YtglppnpllpfaeaaProg
import Derived.WalkKit
import Derived.ProofKit
import Derived.SliceStrings
import Derived.Lib.Hide
import Derived.Lib.Strings
import Derived.SizedLaws
import Derived.Deep.QuietTactic
namespace Go.Proofs.Ytglppnpllpfaeaa
open Go.RowKit

/-- What a proof's frame knows of a slice of texts that came in: all texts up to the capacity. -/
def IsStrs (w : World) (a : Option Addr) (len cap : Nat) (zs : List ByteArray) : Prop :=
  (a = none ∧ len = 0 ∧ cap = 0 ∧ zs = []) ∨
  ∃ x, a = some x ∧ len ≤ cap ∧ cap ≤ maxLen ∧ zs.length = cap ∧ (∀ i, i < zs.length → w.cell? (x.add i) = some (.string (zs.getD i ByteArray.empty))) ∧ ∀ s ∈ zs, s.size ≤ 140737488351232

/-- The same of a slice of integers. -/
def IsRow (k : IntKind) (w : World) (a : Option Addr) (len cap : Nat) (zs : List Int) : Prop :=
  (a = none ∧ len = 0 ∧ cap = 0 ∧ zs = []) ∨
  ∃ x, a = some x ∧ len ≤ cap ∧ cap ≤ maxLen ∧ zs.length = cap ∧ (∀ i, i < zs.length → w.cell? (x.add i) = some (.int k (zs.getD i 0))) ∧ ∀ n ∈ zs, (Lit.int k n).wf = true

/-- The slice's elements, one cell each, are these values. -/
def Reads (w : World) (a : Option Addr) (n : Nat) (z : Nat → Value) : Prop :=
  ∀ k, k < n → ∃ b off, a = some ⟨b, off, none⟩ ∧ b < w.heap.size ∧ w.cell? ⟨b, off + k, none⟩ = some (z k)

theorem cell_lt {w : World} {b o : Nat} {v : Value} (h : w.cell? ⟨b, o, none⟩ = some v) : b < w.heap.size := by
  rcases Nat.lt_or_ge b w.heap.size with x | x
  · exact x
  · exfalso
    simp [World.cell?, Array.getElem?_eq_none x] at h

theorem reads_below {w w' : World} {a : Option Addr} {n : Nat} {z : Nat → Value} (h : Reads w a n z) (hb : Below w.heap.size w w') : Reads w' a n z := by
  intro k hk
  obtain ⟨b, off, e, hlt, hc⟩ := h k hk
  exact ⟨b, off, e, Nat.lt_of_lt_of_le hlt hb.size, (hb.cell (p := ⟨b, off + k, none⟩) hlt).trans hc⟩

theorem reads_drewN {w : World} {a : Option Addr} {n m : Nat} {z : Nat → Value} (h : Reads w a n z) : Reads (w.drewN m) a n z := by
  intro k hk
  obtain ⟨b, off, e, hlt, hc⟩ := h k hk
  exact ⟨b, off, e, by simpa using hlt, by simpa using hc⟩

theorem reads_mono {w : World} {a : Option Addr} {n m : Nat} {z : Nat → Value} (h : Reads w a n z) (hm : m ≤ n) : Reads w a m z := fun k hk => h k (by omega)

theorem isStrs_reads {w : World} {a : Option Addr} {n c : Nat} {zs : List ByteArray} (h : IsStrs w a n c zs) : Reads w a n (fun k => .string (zs.getD k ByteArray.empty)) := by
  intro k hk
  rcases h with ⟨_, h, _⟩ | ⟨⟨b, off, spot⟩, rfl, hl, _, hz, hc, _⟩
  · omega
  · have h0 := hc k (by omega)
    have hspot : spot = none := by simpa [Addr.add] using World.cell?_spot (hc 0 (by omega))
    subst hspot
    rw [Go.WideShapes.add_plain] at h0
    exact ⟨b, off, rfl, cell_lt h0, h0⟩

theorem isRow_reads {w : World} {a : Option Addr} {n c : Nat} {k : IntKind} {zs : List Int} (h : IsRow k w a n c zs) : Reads w a n (fun j => .int k (zs.getD j 0)) := by
  intro j hj
  rcases h with ⟨_, h, _⟩ | ⟨⟨b, off, spot⟩, rfl, hl, _, hz, hc, _⟩
  · omega
  · have h0 := hc j (by omega)
    have hspot : spot = none := by simpa [Addr.add] using World.cell?_spot (hc 0 (by omega))
    subst hspot
    rw [Go.WideShapes.add_plain] at h0
    exact ⟨b, off, rfl, cell_lt h0, h0⟩

theorem isStrs_size {w : World} {a : Option Addr} {n c : Nat} {zs : List ByteArray} (h : IsStrs w a n c zs) (k : Nat) : (zs.getD k ByteArray.empty).size ≤ 140737488351232 := by
  rcases h with ⟨_, _, _, rfl⟩ | ⟨x, _, _, _, _, _, hs⟩
  · simp
  · rcases Nat.lt_or_ge k zs.length with y | y
    · have := hs _ (List.getElem_mem y)
      rw [List.getD_eq_getElem?_getD, List.getElem?_eq_getElem y]
      simpa using this
    · rw [List.getD_eq_getElem?_getD, List.getElem?_eq_none y]; simp

theorem isStrs_cap {w : World} {a : Option Addr} {n c : Nat} {zs : List ByteArray} (h : IsStrs w a n c zs) : n ≤ zs.length ∧ n ≤ c ∧ c ≤ 9223372036854775807 := by
  rcases h with ⟨_, rfl, rfl, rfl⟩ | ⟨x, _, h1, h2, h3, _⟩
  · simp
  · unfold maxLen at h2; omega

theorem isRow_cap {w : World} {a : Option Addr} {n c : Nat} {k : IntKind} {zs : List Int} (h : IsRow k w a n c zs) : n ≤ zs.length ∧ n ≤ c ∧ c ≤ 9223372036854775807 := by
  rcases h with ⟨_, rfl, rfl, rfl⟩ | ⟨x, _, h1, h2, h3, _⟩
  · simp
  · unfold maxLen at h2; omega

theorem weightsAll_mem {H : Type} {P : Program} {e : TypeId} : ∀ {ss : List ByteArray} {s : ByteArray}, s ∈ ss → s.data.toList.length ∈ DataW.weightsAll P e (Go.ChangeShapes.strs (H := H) ss)
  | x :: ss, s, h => by
    show _ ∈ (DataW.weights P e (.lit (.string x.data.toList)) ++ DataW.weightsAll P e (Go.ChangeShapes.strs (H := H) ss))
    rcases List.mem_cons.1 h with rfl | h'
    · exact List.mem_append_left _ (by simp [DataW.weights])
    · exact List.mem_append_right _ (weightsAll_mem h')

/-- Each text of a slice that came in is within the form's own reach. -/
theorem sized_strs {H : Type} {P : Program} {ts : List TypeId} {ds : List (DataW H)} (h : (DataW.weightsEach P ts ds).all (· ≤ reachBytes) = true) {j n : Nat} {t e : TypeId} {zs : List ByteArray} (ht : ts[j]? = some t)
    (hd : ds[j]? = some (.slice (Go.ChangeShapes.strs (zs.take n)) (Go.ChangeShapes.strs (zs.drop n)))) (hu : P.underlying t = some (.slice e)) : ∀ s ∈ zs, s.size ≤ 140737488351232 := by
  intro s hs
  rw [← List.take_append_drop n zs] at hs
  have hm : s.data.toList.length ∈ DataW.weights P t (.slice (Go.ChangeShapes.strs (zs.take n)) (Go.ChangeShapes.strs (zs.drop n)) : DataW H) := by
    simp only [DataW.weights, hu]
    refine List.mem_cons_of_mem _ ?_
    rcases List.mem_append.1 hs with hs | hs
    · exact List.mem_append_left _ (weightsAll_mem hs)
    · exact List.mem_append_right _ (weightsAll_mem hs)
  have := of_decide_eq_true (List.all_eq_true.1 h _ (DataW.weights_mem_each ht hd _ hm))
  rw [Lib.size_eq]
  exact this

end Go.Proofs.Ytglppnpllpfaeaa
