/-
  Pairs in memory; small contracts of package macro.
-/
import Derived.Test.YtglppnpllpfaeaaMacB
import Derived.Test.YtglppnpllpfaeaaMacD
import Derived.Deep.AppendLies
namespace Go.Proofs.Ytglppnpllpfaeaa
open Go.RowKit
set_option linter.unusedVariables false

def strV (l : List UInt8) : Value := .string ⟨l.toArray⟩
theorem strV_of {s : ByteArray} {l : List UInt8} (h : s.data.toList = l) : strV l = .string s := by
  unfold strV; rw [← h]
theorem u8_eq (a b : UInt8) : ((a.toNat : Int) == (b.toNat : Int)) = (a == b) := by
  by_cases h : a = b
  · subst h; simp
  · rw [beq_eq_false_iff_ne.2 h, beq_eq_false_iff_ne]
    intro h2
    exact h (UInt8.toNat_inj.1 (by omega))
theorem test_no {c k : UInt8} (h : c ≠ k) : ((c.toNat : Int) == (k.toNat : Int)) = false := by rw [u8_eq]; exact beq_eq_false_iff_ne.2 h
theorem test_yes {c k : UInt8} (h : c = k) : ((c.toNat : Int) == (k.toNat : Int)) = true := by rw [u8_eq]; exact beq_iff_eq.2 h

/-- A slice of pairs that reads as l, in blocks that D lets. -/
def PairsAt (w : World) (D : Nat → Prop) (v : Value) (l : List (Bs × Bs)) : Prop :=
  ∃ a c, v = .slice a l.length c ∧ l.length ≤ 9223372036854775807 ∧ ∀ i (h : i < l.length), ∃ b off, a = some ⟨b, off, none⟩ ∧ b < w.heap.size ∧ D b ∧ w.cell? ⟨b, off + i * 2, none⟩ = some (strV l[i].1) ∧ w.cell? ⟨b, off + i * 2 + 1, none⟩ = some (strV l[i].2)
theorem PairsAt.keep {w w' : World} {D S : Nat → Prop} {v : Value} {l : List (Bs × Bs)} (h : PairsAt w D v l) (hk : Keeps S w w') (hD : ∀ b, b < w.heap.size → D b → ¬ S b) : PairsAt w' D v l := by
  obtain ⟨a, c, e, hl, H⟩ := h
  refine ⟨a, c, e, hl, fun i hi => ?_⟩
  obtain ⟨b, off, ea, hb, hd, h1, h2⟩ := H i hi
  refine ⟨b, off, ea, Nat.lt_of_lt_of_le hb hk.size, hd, ?_, ?_⟩
  · rw [World.cell?_of_block (hk.block b hb (hD b hb hd))]; exact h1
  · rw [World.cell?_of_block (hk.block b hb (hD b hb hd))]; exact h2
theorem PairsAt.nil (w : World) (D : Nat → Prop) : PairsAt w D (.slice none 0 0) [] := ⟨none, 0, rfl, Nat.zero_le _, fun i hi => absurd hi (Nat.not_lt_zero _)⟩

theorem lastF_some {l : List (Bs × Bs)} {name : Bs} {i : Nat} (hi : i < l.length) (he : l[i].1 = name) (hno : ∀ j (h : j < l.length), i < j → l[j].1 ≠ name) : lastF l name = some l[i].2 := by
  unfold lastF
  have hl : l = l.take i ++ l[i] :: l.drop (i + 1) := by
    rw [← List.drop_eq_getElem_cons hi, List.take_append_drop]
  have hd : (l.drop (i + 1)).reverse.find? (fun p => p.1 == name) = none := by
    rw [List.find?_eq_none]
    intro p hp
    obtain ⟨j, hj, rfl⟩ := List.mem_iff_getElem.1 (List.mem_reverse.1 hp)
    rw [List.getElem_drop]
    rw [List.length_drop] at hj
    simpa using hno (i + 1 + j) (by omega) (by omega)
  have h : (l.take i ++ l[i] :: l.drop (i + 1)).reverse.find? (fun p => p.1 == name) = some l[i] := by
    rw [List.reverse_append, List.reverse_cons, List.append_assoc, List.find?_append, hd, Option.none_or, List.singleton_append, List.find?_cons_of_pos (by simpa using he)]
  rw [← hl] at h
  rw [h]
  rfl
theorem lastF_none {l : List (Bs × Bs)} {name : Bs} (hno : ∀ j (h : j < l.length), l[j].1 ≠ name) : lastF l name = none := by
  unfold lastF
  have : l.reverse.find? (fun p => p.1 == name) = none := by
    rw [List.find?_eq_none]
    intro p hp
    obtain ⟨j, hj, rfl⟩ := List.mem_iff_getElem.1 (List.mem_reverse.1 hp)
    simpa using hno j hj
  rw [this]; rfl
def lastV (o : Option Bs) : Value := match o with
  | some v => .tuple #[strV v, .bool true]
  | none => .tuple #[.string ⟨#[]⟩, .bool false]
end Go.Proofs.Ytglppnpllpfaeaa
