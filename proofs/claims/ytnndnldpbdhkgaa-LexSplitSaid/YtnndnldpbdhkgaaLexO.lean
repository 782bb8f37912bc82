/-
  The contracts of ops, op, operators, operator: which operator is next, taken.
-/
import Derived.Test.YtnndnldpbdhkgaaLexN
namespace Go.Proofs.Ytnndnldpbdhkgaa
open Go.RowKit
set_option linter.unusedVariables false

theorem hasPrefix_starts : ∀ (p r : List UInt8), Lib.hasPrefix r p = startsF p r := by
  intro p
  induction p with
  | nil => intro r; cases r <;> rfl
  | cons a p ih =>
    intro r
    cases r with
    | nil => rfl
    | cons b r =>
      show _ = (a == b && startsF p r)
      rw [← ih r]
      simp [Lib.hasPrefix]
      try (constructor <;> (rintro ⟨h1, h2⟩; exact ⟨h1.symm, h2⟩))
theorem findF_at : ∀ {l : List (List UInt8)} {r : List UInt8} {k : Nat}, (∀ j, j < k → startsF (l.getD j []) r = false) → k < l.length → startsF (l.getD k []) r = true → findF l r = l.getD k []
  | [], _, _, _, hk, _ => absurd hk (Nat.not_lt_zero _)
  | o :: l, r, 0, _, _, h => by
    simp at h
    simp [findF, h]
  | o :: l, r, k + 1, hn, hk, h => by
    have h0 := hn 0 (by omega)
    simp at h0
    have ih := findF_at (l := l) (r := r) (k := k) (fun j hj => by simpa using hn (j + 1) (by omega)) (by simpa using hk) (by simpa using h)
    simp only [findF, List.find?_cons, h0]
    simpa [findF] using ih
theorem findF_none {l : List (List UInt8)} {r : List UInt8} (h : ∀ j, j < l.length → startsF (l.getD j []) r = false) : findF l r = [] := by
  unfold findF
  rw [List.find?_eq_none.2 (fun o ho => by
    obtain ⟨j, hj, rfl⟩ := List.mem_iff_getElem.1 ho
    have := h j hj
    rw [List.getD_eq_getElem?_getD, List.getElem?_eq_getElem hj] at this
    simpa using this)]
  rfl

def OpPost2 (w : World) (b : Nat) (s : ByteArray) (o : List UInt8) (i : Nat) (d : Int) (e : Ending) (w' : World) : Prop :=
  ∃ r : ByteArray, e = .returned (.string r) ∧ r.data.toList = o ∧ ScanAt w' b s ((i + o.length : Nat) : Int) d ∧ Keeps (fun k => k = b) w w'
theorem hid_step {l : List (List UInt8)} {r : List UInt8} {k : Nat} (h : ∀ j, j < k → startsF (l.getD j []) r = false) (hk : startsF (l.getD k []) r = false) : ∀ j, j < k + 1 → startsF (l.getD j []) r = false := fun j hj => by
  by_cases e : j = k
  · subst e; exact hk
  · exact h j (by omega)


def opC : Array Value := #[.string ⟨#[58, 45]⟩, .string ⟨#[58, 61]⟩, .string ⟨#[58, 63]⟩, .string ⟨#[58, 43]⟩, .string ⟨#[37, 37]⟩, .string ⟨#[35, 35]⟩, .string ⟨#[45]⟩, .string ⟨#[61]⟩, .string ⟨#[63]⟩, .string ⟨#[43]⟩, .string ⟨#[37]⟩, .string ⟨#[35]⟩]
theorem opC_at (k : Nat) (hk : k < 12) : opC[k]? = some (strV (opsL.getD k [])) := by
  obtain rfl | rfl | rfl | rfl | rfl | rfl | rfl | rfl | rfl | rfl | rfl | rfl : k = 0 ∨ k = 1 ∨ k = 2 ∨ k = 3 ∨ k = 4 ∨ k = 5 ∨ k = 6 ∨ k = 7 ∨ k = 8 ∨ k = 9 ∨ k = 10 ∨ k = 11 := by omega
  all_goals rfl
theorem opL_len (k : Nat) (hk : k < 12) : (opsL.getD k []).length ≤ 3 := by
  have : ∀ k : Fin 12, (opsL.getD k.val []).length ≤ 3 := by decide +kernel
  exact this ⟨k, hk⟩
theorem ops_any (w : World) :
    Calls Try.prog 81 #[] w fun e w' => e = .returned (.slice (some ⟨w.heap.size, 0, none⟩) 12 12) ∧ w' = w.alloc (.cells opC 9) := by
  go_enter Try.func81, Try.ntmps81
  go_wp2
  go_ret
  exact ⟨rfl, rfl⟩

set_option maxHeartbeats 1000000 in
theorem op_any (b : Nat) (s : ByteArray) (i : Nat) (d : Int) (w : World) (h : ScanAt w b s i d) (hs : s.size ≤ 140737488351232) (hi : i ≤ s.size) :
    Calls Try.prog 76 #[.pointer (some ⟨b, 0, none⟩)] w (OpPost2 w b s (opF (rest s i)) i d) := by
  have lb := h.lt
  go_enter Try.func76, Try.ntmps76
  go_wp2_with fail
  refine (ops_any _).mono ?_
  rintro e w1 ⟨rfl, hw1⟩
  have hsc : ScanAt w1 b s i d := by rw [hw1]; exact h.alloc _
  have hkp : Keeps (fun k => k = b) w w1 := by rw [hw1]; exact (Keeps.refl _ _).alloc _
  have hblk : w1.heap[w.heap.size]? = some (.cells opC 9 (0, 0)) := by rw [hw1]; exact heap_alloc_new w _
  generalize w.heap.size = B at lb hblk ⊢
  clear hw1
  have HB := Lib.hid hblk; clear hblk
  have HKP := Lib.hid hkp; clear hkp
  go_wp2_with fail
  go_loopw [7] (fun k' wr => ∃ k q : Nat, k' = .int .i64 k ∧ k ≤ 12 ∧ wr = w1.drewN q ∧ Hid (∀ j, j < k → startsF (opsL.getD j []) (rest s i) = false)) (fun k' _ => 12 - (intOf k').toNat)
  case atStart => exact ⟨0, 0, rfl, by omega, rfl, Lib.hid (fun j hj => absurd hj (Nat.not_lt_zero _))⟩
  case round =>
    obtain ⟨k, q, rfl, hk, rfl, HN⟩ := hrel
    by_cases hlt : k < 12
    · have hc : w1.cell? ⟨B, k, none⟩ = some (strV (opsL.getD k [])) := by
        rw [cell_of_row w1 B k _ _ _ HB.out]
        exact opC_at k hlt
      have hlen := opL_len k hlt
      have p1 : (k : Int) < 12 := by omega
      unfold strV at hc
      cases hst : startsF (opsL.getD k []) (rest s i)
      · have HS := Lib.hid hst; clear hst
        have hn2 := hid_step HN.out HS.out
        have HN2 := Lib.hid hn2; clear hn2
        generalize opsL.getD k [] = t at hc HS hlen
        go_wp2_with fail
        refine (is_no b s _ i d _ (hsc.drewN q) hi (by rw [hasPrefix_starts]; exact HS.out)).mono ?_
        rintro e w2 ⟨rfl, q2, rfl⟩
        go_wp2_with fail
        go_roundw
        case rel => exact ⟨k + 1, _, by go_num, by omega, rfl, HN2⟩
        case measure => simp [intOf]; omega
      · have hf := findF_at HN.out (show k < opsL.length from hlt) hst
        have HF := Lib.hid hf; clear hf
        have HS := Lib.hid hst; clear hst
        generalize opsL.getD k [] = t at hc HS hlen HF
        go_wp2_with fail
        refine (is_yes b s _ i d _ (hsc.drewN q) hs hi (by rw [Lib.size_eq]; simp; omega) (by rw [hasPrefix_starts]; exact HS.out)).mono ?_
        rintro e w2 ⟨rfl, hsc2, hk2⟩
        have HSC := Lib.hid hsc2; clear hsc2
        have HK2 := Lib.hid hk2; clear hk2
        go_wp2_with fail
        go_ret
        refine ⟨_, rfl, ?_, ?_, ?_⟩
        · rw [show opF (rest s i) = findF opsL (rest s i) from rfl, HF.out]
        · rw [show opF (rest s i) = findF opsL (rest s i) from rfl, HF.out]
          have := HSC.out
          rw [Lib.size_eq] at this
          exact this
        · exact (HKP.out.drewN q).trans HK2.out (fun x _ hx => hx)
    · obtain rfl : k = 12 := by omega
      have hf := findF_none (l := opsL) HN.out
      have HF := Lib.hid hf; clear hf
      go_wp2_with fail
      go_ret
      refine ⟨_, rfl, ?_, ?_, ?_⟩
      · rw [show opF (rest s i) = findF opsL (rest s i) from rfl, HF.out]
      · rw [show opF (rest s i) = findF opsL (rest s i) from rfl, HF.out]
        exact hsc.drewN q
      · exact HKP.out.drewN q


def operatorC : Array Value := #[.string ⟨#[50, 62, 62]⟩, .string ⟨#[50, 62]⟩, .string ⟨#[59, 59]⟩, .string ⟨#[38, 38]⟩, .string ⟨#[124, 124]⟩, .string ⟨#[62, 62]⟩, .string ⟨#[59]⟩, .string ⟨#[124]⟩, .string ⟨#[40]⟩, .string ⟨#[41]⟩, .string ⟨#[60]⟩, .string ⟨#[62]⟩, .string ⟨#[10]⟩]
theorem operatorC_at (k : Nat) (hk : k < 13) : operatorC[k]? = some (strV (operL.getD k [])) := by
  obtain rfl | rfl | rfl | rfl | rfl | rfl | rfl | rfl | rfl | rfl | rfl | rfl | rfl : k = 0 ∨ k = 1 ∨ k = 2 ∨ k = 3 ∨ k = 4 ∨ k = 5 ∨ k = 6 ∨ k = 7 ∨ k = 8 ∨ k = 9 ∨ k = 10 ∨ k = 11 ∨ k = 12 := by omega
  all_goals rfl
theorem operatorL_len (k : Nat) (hk : k < 13) : (operL.getD k []).length ≤ 3 := by
  have : ∀ k : Fin 13, (operL.getD k.val []).length ≤ 3 := by decide +kernel
  exact this ⟨k, hk⟩
theorem operators_any (w : World) :
    Calls Try.prog 58 #[] w fun e w' => e = .returned (.slice (some ⟨w.heap.size, 0, none⟩) 13 13) ∧ w' = w.alloc (.cells operatorC 9) := by
  go_enter Try.func58, Try.ntmps58
  go_wp2
  go_ret
  exact ⟨rfl, rfl⟩

set_option maxHeartbeats 1000000 in
theorem operator_any (b : Nat) (s : ByteArray) (i : Nat) (d : Int) (w : World) (h : ScanAt w b s i d) (hs : s.size ≤ 140737488351232) (hi : i ≤ s.size) :
    Calls Try.prog 43 #[.pointer (some ⟨b, 0, none⟩)] w (OpPost2 w b s (operF (rest s i)) i d) := by
  have lb := h.lt
  go_enter Try.func43, Try.ntmps43
  go_wp2_with fail
  refine (operators_any _).mono ?_
  rintro e w1 ⟨rfl, hw1⟩
  have hsc : ScanAt w1 b s i d := by rw [hw1]; exact h.alloc _
  have hkp : Keeps (fun k => k = b) w w1 := by rw [hw1]; exact (Keeps.refl _ _).alloc _
  have hblk : w1.heap[w.heap.size]? = some (.cells operatorC 9 (0, 0)) := by rw [hw1]; exact heap_alloc_new w _
  generalize w.heap.size = B at lb hblk ⊢
  clear hw1
  have HB := Lib.hid hblk; clear hblk
  have HKP := Lib.hid hkp; clear hkp
  go_wp2_with fail
  go_loopw [7] (fun k' wr => ∃ k q : Nat, k' = .int .i64 k ∧ k ≤ 13 ∧ wr = w1.drewN q ∧ Hid (∀ j, j < k → startsF (operL.getD j []) (rest s i) = false)) (fun k' _ => 13 - (intOf k').toNat)
  case atStart => exact ⟨0, 0, rfl, by omega, rfl, Lib.hid (fun j hj => absurd hj (Nat.not_lt_zero _))⟩
  case round =>
    obtain ⟨k, q, rfl, hk, rfl, HN⟩ := hrel
    by_cases hlt : k < 13
    · have hc : w1.cell? ⟨B, k, none⟩ = some (strV (operL.getD k [])) := by
        rw [cell_of_row w1 B k _ _ _ HB.out]
        exact operatorC_at k hlt
      have hlen := operatorL_len k hlt
      have p1 : (k : Int) < 13 := by omega
      unfold strV at hc
      cases hst : startsF (operL.getD k []) (rest s i)
      · have HS := Lib.hid hst; clear hst
        have hn2 := hid_step HN.out HS.out
        have HN2 := Lib.hid hn2; clear hn2
        generalize operL.getD k [] = t at hc HS hlen
        go_wp2_with fail
        refine (is_no b s _ i d _ (hsc.drewN q) hi (by rw [hasPrefix_starts]; exact HS.out)).mono ?_
        rintro e w2 ⟨rfl, q2, rfl⟩
        go_wp2_with fail
        go_roundw
        case rel => exact ⟨k + 1, _, by go_num, by omega, rfl, HN2⟩
        case measure => simp [intOf]; omega
      · have hf := findF_at HN.out (show k < operL.length from hlt) hst
        have HF := Lib.hid hf; clear hf
        have HS := Lib.hid hst; clear hst
        generalize operL.getD k [] = t at hc HS hlen HF
        go_wp2_with fail
        refine (is_yes b s _ i d _ (hsc.drewN q) hs hi (by rw [Lib.size_eq]; simp; omega) (by rw [hasPrefix_starts]; exact HS.out)).mono ?_
        rintro e w2 ⟨rfl, hsc2, hk2⟩
        have HSC := Lib.hid hsc2; clear hsc2
        have HK2 := Lib.hid hk2; clear hk2
        go_wp2_with fail
        go_ret
        refine ⟨_, rfl, ?_, ?_, ?_⟩
        · rw [show operF (rest s i) = findF operL (rest s i) from rfl, HF.out]
        · rw [show operF (rest s i) = findF operL (rest s i) from rfl, HF.out]
          have := HSC.out
          rw [Lib.size_eq] at this
          exact this
        · exact (HKP.out.drewN q).trans HK2.out (fun x _ hx => hx)
    · obtain rfl : k = 13 := by omega
      have hf := findF_none (l := operL) HN.out
      have HF := Lib.hid hf; clear hf
      go_wp2_with fail
      go_ret
      refine ⟨_, rfl, ?_, ?_, ?_⟩
      · rw [show operF (rest s i) = findF operL (rest s i) from rfl, HF.out]
      · rw [show operF (rest s i) = findF operL (rest s i) from rfl, HF.out]
        exact hsc.drewN q
      · exact HKP.out.drewN q

end Go.Proofs.Ytnndnldpbdhkgaa
