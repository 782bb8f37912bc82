/-
  The contracts of Write, join, ContainsFunc at path.Abs's closure, and of Abs, Dir, Base, Within and their references.
-/
import Derived.Test.YtlaijghfcbjbpaaDoorPathC
namespace Go.Proofs.YtlaijghfcbjbpaaDoor
open Go.RowKit

/-- The slice's elements are these names. -/
def ReadsL (w : World) (a : Option Addr) (n : Nat) (L : List Bytes) : Prop := n = L.length ∧ Reads w a n (fun k => .string ⟨(L.getD k []).toArray⟩)

theorem readsL_own {w : World} {B n : Nat} {v : Value} {L : List Bytes} (h : w.ownsRow B 9 1 v n (strs L)) (hn : n = L.length) : ∃ a c, v = .slice a n c ∧ n ≤ c ∧ c ≤ 9223372036854775807 ∧ ReadsL w a n L := by
  rcases own_forms h with ⟨rfl, rfl⟩ | ⟨g, cap, rfl⟩
  · exact ⟨none, 0, rfl, Nat.le_refl _, by omega, hn, fun k hk => absurd hk (Nat.not_lt_zero k)⟩
  · refine ⟨_, _, rfl, (own_ncap h).1, (own_ncap h).2, hn, fun k hk => ?_⟩
    have hc := own_cell (l := L) (k := k) h hn (by omega)
    exact ⟨g, 0, rfl, cell_lt hc, by rw [Nat.zero_add]; exact hc⟩

theorem ReadsL.below {w w' : World} {a : Option Addr} {n : Nat} {L : List Bytes} (h : ReadsL w a n L) (hb : Below w.heap.size w w') : ReadsL w' a n L := ⟨h.1, reads_below h.2 hb⟩
theorem ReadsL.drewN {w : World} {a : Option Addr} {n m : Nat} {L : List Bytes} (h : ReadsL w a n L) : ReadsL (w.drewN m) a n L := ⟨h.1, reads_drewN h.2⟩
theorem ReadsL.take {w : World} {a : Option Addr} {n m : Nat} {L : List Bytes} (h : ReadsL w a n L) (hm : m ≤ n) : ReadsL w a m (L.take m) :=
  ⟨by rw [List.length_take, ← h.1]; omega, fun k hk => by
    obtain ⟨b, off, e, hlt, hc⟩ := h.2 k (by omega)
    refine ⟨b, off, e, hlt, ?_⟩
    rw [hc]
    simp [hk]⟩

theorem flat_take {L : List Bytes} {k : Nat} (h : k < L.length) : flat (L.take (k + 1)) = flat (L.take k) ++ 47 :: L.getD k [] := by
  rw [List.take_succ_eq_append_getElem h]
  unfold flat
  rw [List.map_append, List.flatten_append]
  congr 1
  simp [h]

theorem lens_take (L : List Bytes) (k : Nat) : lens (L.take k) ≤ lens L := by
  have := lens_append (L.take k) (L.drop k)
  rw [List.take_append_drop] at this
  omega

theorem lens_get (L : List Bytes) (k : Nat) : (L.getD k []).length ≤ lens L := by
  rcases Nat.lt_or_ge k L.length with h | h
  · have := lens_append (L.take (k + 1)) (L.drop (k + 1))
    rw [List.take_append_drop, List.take_succ_eq_append_getElem h, lens_append] at this
    simp [lens] at this
    simp [h]
    simp [lens]
    omega
  · simp [List.getElem?_eq_none h]

set_option maxHeartbeats 400000 in
theorem write_any (a : Option Addr) (n c : Nat) (L : List Bytes) (w : World) (hr : ReadsL w a n L) (hl : n ≤ 100000000) (hz : lens L ≤ 100000000) :
    Calls Tryd.prog 23 #[.slice a n c] w fun e w' => e = .returned (.string ⟨(writeL L).toArray⟩) ∧ w = w' := by
  have HR := Lib.hid hr.2; have HN := Lib.hid hr.1; clear hr
  go_enter Tryd.func23, Tryd.ntmps23
  go_wp2
  go_loop [3, 4] (fun s i => ∃ (k : Nat) (S : ByteArray), k ≤ n ∧ i = .int .i64 k ∧ s = .string S ∧ S.size ≤ 200000000 ∧ S.data.toList = flat (L.take k)) (fun _ i => n - (intOf i).toNat)
  case atStart => exact ⟨0, ByteArray.empty, Nat.zero_le _, rfl, rfl, by decide, rfl⟩
  case round =>
    obtain ⟨k, S, hk, rfl, rfl, hS, hSd⟩ := hrel
    have HS := Lib.hid hSd; clear hSd
    by_cases hlt : k < n
    · obtain ⟨b, off, rfl, _, hc0⟩ := HR.out k hlt
      obtain ⟨X, hX⟩ : ∃ X : ByteArray, X = ⟨(L.getD k []).toArray⟩ := ⟨_, rfl⟩
      have hc : w.cell? ⟨b, off + k, none⟩ = some (.string X) := by rw [hX]; exact hc0
      have hXd : X.data.toList = L.getD k [] := by rw [hX]
      have hXs : X.size ≤ 100000000 := by rw [Lib.size_eq, hXd]; have := lens_get L k; omega
      have HX := Lib.hid hXd
      clear hc0 hX hXd
      go_wp2
      go_round
      case rel =>
        have hft := flat_take (L := L) (k := k) (by rw [← HN.out]; exact hlt)
        have hd : (S ++ ⟨#[47]⟩ ++ X).data.toList = flat (L.take (k + 1)) := by
          rw [hft, ← HX.out, ← HS.out]; simp
        refine ⟨k + 1, S ++ ⟨#[47]⟩ ++ X, by omega, by go_num, rfl, ?_, hd⟩
        rw [Lib.size_eq, hd, flat_length, List.length_take]
        have := lens_take L (k + 1)
        omega
      case measure => simp [intOf]; omega
    · obtain rfl : k = n := by omega
      have hfl : S.data.toList = flat L := by rw [HS.out, HN.out, List.take_length]
      by_cases h0 : L = []
      · have e0 : S.toList.isEmpty = true := by rw [Lib.toList_data, hfl, h0]; rfl
        have HL := Lib.hid h0; clear hfl h0
        go_wp2
        go_ret
        exact ⟨ret_str (by rw [HL.out]; rfl), rfl⟩
      · have e0 : S.toList.isEmpty = false := by
          rw [Lib.toList_data, hfl]
          cases hf : flat L with
          | nil => exact absurd hf (flat_ne h0)
          | cons x y => rfl
        have HL := Lib.hid h0; have HF := Lib.hid hfl; clear hfl h0
        go_wp2
        go_ret
        exact ⟨ret_str (by show S.data.toList = writeL L; rw [HF.out, writeL, if_neg HL.out]), rfl⟩

end Go.Proofs.YtlaijghfcbjbpaaDoor
