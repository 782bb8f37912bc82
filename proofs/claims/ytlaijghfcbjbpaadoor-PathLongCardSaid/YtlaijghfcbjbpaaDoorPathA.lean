/-
  The contracts of Split, and of path.Parts.
-/
import Derived.Test.YtlaijghfcbjbpaaDoorPathP
import Derived.Test.YtlaijghfcbjbpaaDoorSame
import Derived.Test.YtlaijghfcbjbpaaDoorShelf
import Derived.Deep.AppendLies
import Derived.Maps.AppendAt
import Derived.WalkSmall
namespace Go.Proofs.YtlaijghfcbjbpaaDoor
open Go.RowKit

theorem infoStr : (Tryd.prog.info? 9).map (fun i => (i.zero, i.size, i.bytes)) = some (some (.string ⟨#[]⟩), 1, 16) := by kernel_rfl

theorem own_forms {w : World} {B n : Nat} {v : Value} {xs : List Value} (h : w.ownsRow B 9 1 v n xs) : (v = .slice none 0 0 ∧ n = 0) ∨ ∃ g cap, v = .slice (some ⟨g, 0, none⟩) n cap :=
  Joins.ownsRow_forms h

theorem hasPrefix_any (s p : ByteArray) (w : World) :
    Calls Tryd.prog 46 #[.string s, .string p] w fun e w' => e = .returned (.bool (Lib.hasPrefix s.data.toList p.data.toList)) ∧ w = w' :=
  (Tryd.strings_HasPrefix s p w).mono fun _ _ ⟨h, k⟩ => ⟨h, k.symm⟩

/-- A slice of names that the call made (or nil). -/
def RetOwnL (B : Nat) (l : List Bytes) (w : World) (e : Ending) (w' : World) : Prop :=
  ∃ v, e = .returned v ∧ w'.ownsRow B 9 1 v l.length (strs l) ∧ Below B w w'

theorem split_any (s : ByteArray) (m : Int) (w : World) (hs : s.size ≤ 4000000000) (hm : w.cell? ⟨0, 0, none⟩ = some (.int .i64 m)) :
    Calls Tryd.prog 45 #[.string s, .string ⟨#[47]⟩] w fun e w' => ∃ g cap, e = .returned (.slice (some ⟨g, 0, none⟩) (splitL s.data.toList).length cap) ∧
      w'.ownsRow w.heap.size 9 1 (.slice (some ⟨g, 0, none⟩) (splitL s.data.toList).length cap) (splitL s.data.toList).length (strs (splitL s.data.toList)) ∧ Below w.heap.size w w' := by
  have hl := splitL_length s.data.toList
  rw [← Lib.size_eq] at hl
  refine (Tryd.strings_Split s ⟨#[47]⟩ m w (by omega) hm (by decide)).mono ?_
  rintro e w' ⟨rfl, rfl⟩
  rw [splitB_L, splitB_len]
  refine ⟨_, _, rfl, ?_, (Below.refl _ _).alloc (Nat.le_refl _) _⟩
  have h := World.ownsRow_lit (base := w.heap.size) (e := 9) (size := 1) w (strs (splitL s.data.toList)).toArray (splitL s.data.toList).length (Nat.le_refl _) (by unfold maxLen; omega) (by simp [strs_length])
  simpa using h

theorem own_cell {w : World} {B g cap n : Nat} {l : List Bytes} {k : Nat} (h : w.ownsRow B 9 1 (.slice (some ⟨g, 0, none⟩) n cap) n (strs l)) (hn : n = l.length) (hk : k < l.length) :
    w.cell? ⟨g, k, none⟩ = some (.string ⟨(l.getD k []).toArray⟩) := by
  subst hn
  rw [h.cellAt k (by omega), strs_at hk]

/-- What 'l[:len(l)-1]' leaves. -/
theorem own_pop {w : World} {B g cap n : Nat} {l : List Bytes} (h : w.ownsRow B 9 1 (.slice (some ⟨g, 0, none⟩) n cap) n (strs l)) (hn : n = l.length) :
    w.ownsRow B 9 1 (.slice (some ⟨g, 0, none⟩) (n - 1) cap) (n - 1) (strs l.dropLast) := by
  subst hn
  obtain ⟨h1, h2⟩ := h
  rcases h2 with ⟨h', _⟩ | ⟨g', cap', cur, hv, hb, hg, hc, hm, hs, ht⟩
  · simp at h'
  · simp only [Value.slice.injEq, Option.some.injEq, Addr.mk.injEq, and_true, true_and] at hv
    obtain ⟨rfl, rfl⟩ := hv
    refine ⟨by rw [strs_length, List.length_dropLast]; omega, .inr ⟨g, cap, cur, rfl, hb, hg, by omega, hm, hs, ?_⟩⟩
    rw [strs_dropLast, ← ht, List.dropLast_eq_take, List.take_take]
    have hcl : cur.toList.length = cap := by rw [Array.length_toList, hs, Nat.mul_one]
    refine congrArg (fun k => List.take k cur.toList) ?_
    rw [List.length_take, hcl]
    omega

end Go.Proofs.YtlaijghfcbjbpaaDoor
