/-
  Plain: the words of a text, as Go parts them rune by rune, and byte by byte.
-/
import Derived.Test.YtglppnpllpfaeaaMacD
import Derived.Lib.FieldsP
import Derived.Lib.Join
namespace Go.Proofs.Ytglppnpllpfaeaa
set_option linter.unusedVariables false

def blankR (x : Nat) : Bool := x == 32 || x == 9 || x == 10
theorem decode_blank (n b0 b1 b2 b3 : Nat) (hn : 1 ≤ n) : 1 ≤ (Lib.decodeN n b0 b1 b2 b3).2 ∧ (Lib.decodeN n b0 b1 b2 b3).2 ≤ n ∧ (Lib.decodeN n b0 b1 b2 b3).2 ≤ 4 ∧
    (blankR (Lib.decodeN n b0 b1 b2 b3).1 = true → blankR b0 = true ∧ (Lib.decodeN n b0 b1 b2 b3).2 = 1) ∧ (blankR (Lib.decodeN n b0 b1 b2 b3).1 = false → blankR b0 = false) ∧
    (1 < (Lib.decodeN n b0 b1 b2 b3).2 → 128 ≤ b1) ∧ (2 < (Lib.decodeN n b0 b1 b2 b3).2 → 128 ≤ b2) ∧ (3 < (Lib.decodeN n b0 b1 b2 b3).2 → 128 ≤ b3) := by
  have h : (blankR (Lib.decodeN n b0 b1 b2 b3).1 = true → (Lib.decodeN n b0 b1 b2 b3).1 < 128) := by
    unfold blankR
    intro h
    simp only [Bool.or_eq_true, beq_iff_eq] at h
    omega
  have hb : blankR b0 = true → b0 < 128 := by
    unfold blankR
    intro h
    simp only [Bool.or_eq_true, beq_iff_eq] at h
    omega
  have key : 1 ≤ (Lib.decodeN n b0 b1 b2 b3).2 ∧ (Lib.decodeN n b0 b1 b2 b3).2 ≤ n ∧ (Lib.decodeN n b0 b1 b2 b3).2 ≤ 4 ∧ (b0 < 128 ∧ Lib.decodeN n b0 b1 b2 b3 = (b0, 1) ∨ 128 ≤ b0 ∧ 128 ≤ (Lib.decodeN n b0 b1 b2 b3).1) ∧
      (1 < (Lib.decodeN n b0 b1 b2 b3).2 → 128 ≤ b1) ∧ (2 < (Lib.decodeN n b0 b1 b2 b3).2 → 128 ≤ b2) ∧ (3 < (Lib.decodeN n b0 b1 b2 b3).2 → 128 ≤ b3) := by
    unfold Lib.decodeN
    repeat' split
    all_goals simp only
    all_goals (refine ⟨by omega, by omega, by omega, ?_, by omega, by omega, by omega⟩)
    all_goals first | (left; exact ⟨by assumption, trivial⟩) | (right; omega) | (left; exact ⟨by omega, rfl⟩)
  obtain ⟨h1, h2, h3, h4, h5, h6, h7⟩ := key
  refine ⟨h1, h2, h3, fun hx => ?_, fun hx => ?_, h5, h6, h7⟩
  · rcases h4 with ⟨_, e⟩ | ⟨_, e⟩
    · rw [e] at hx ⊢; exact ⟨hx, rfl⟩
    · have := h hx; omega
  · rcases h4 with ⟨_, e⟩ | ⟨e, _⟩
    · rw [e] at hx; exact hx
    · cases hq : blankR b0 with
      | false => rfl
      | true => have := hb hq; omega
theorem blank_byte (c : UInt8) : blankB c = blankR c.toNat := by
  unfold blankB blankR
  have h : ∀ k : UInt8, (c == k) = (c.toNat == k.toNat) := fun k => by
    by_cases e : c = k
    · subst e; simp
    · rw [beq_eq_false_iff_ne.2 e]
      exact (beq_eq_false_iff_ne.2 fun e2 => e (UInt8.toNat_inj.1 e2)).symm
  rw [h 32, h 9, h 10]
  rfl
theorem get_list (s : ByteArray) (i : Nat) : s.get! i = s.data.toList.getD i 0 := by
  rw [List.getD_eq_getElem?_getD, Array.getElem?_toList]
  show s.data[i]! = _
  rw [getElem!_def]
  cases s.data[i]? <;> rfl
theorem wordsG_run : ∀ (run w r : Bs), (∀ c ∈ run, blankB c = false) → wordsG w (run ++ r) = wordsG (w ++ run) r
  | [], w, r, _ => by rw [List.nil_append, List.append_nil]
  | c :: t, w, r, h => by
    rw [List.cons_append]
    conv => lhs; unfold wordsG
    rw [h c (List.mem_cons_self ..), if_neg (by simp), wordsG_run t (w ++ [c]) r (fun x hx => h x (List.mem_cons_of_mem _ hx)), List.append_assoc]
    rfl
theorem wordsG_nil (w : Bs) : wordsG w [] = if w = [] then [] else [w] := by
  unfold wordsG
  cases w <;> rfl
theorem wordsG_blank (w t : Bs) (c : UInt8) (h : blankB c = true) : wordsG w (c :: t) = if w = [] then wordsG [] t else w :: wordsG [] t := by
  conv => lhs; unfold wordsG
  rw [h, if_pos rfl]
  cases w <;> rfl
theorem spans_words (s : ByteArray) : ∀ (f pos : Nat) (st : Option Nat) (acc : List (Nat × Nat)), s.size ≤ pos + f → pos ≤ s.size → (∀ a, st = some a → a < pos) →
    acc.map (fun p => Lib.pieceU s.data.toList p.1 p.2) ++ wordsG (Lib.openPiece s.data.toList st pos) (s.data.toList.drop pos) = (Lib.closeSpans s (Lib.spansFromP blankR s f pos st acc)).map (fun p => Lib.pieceU s.data.toList p.1 p.2) := by
  have hend : ∀ (f pos : Nat) (st : Option Nat) (acc : List (Nat × Nat)), pos = s.size → (∀ a, st = some a → a < pos) →
      acc.map (fun p => Lib.pieceU s.data.toList p.1 p.2) ++ wordsG (Lib.openPiece s.data.toList st pos) (s.data.toList.drop pos) = (Lib.closeSpans s (Lib.spansFromP blankR s f pos st acc)).map (fun p => Lib.pieceU s.data.toList p.1 p.2) := by
    intro f pos st acc hp hst
    subst hp
    have hd : s.data.toList.drop s.size = [] := List.drop_eq_nil_of_le (by rw [← Lib.size_eq]; exact Nat.le_refl _)
    rw [hd, wordsG_nil, Lib.spansFromP_end _ s _ _ _ _ (Nat.lt_irrefl _)]
    cases st with
    | none => simp [Lib.closeSpans, Lib.openPiece]
    | some a =>
      have := Lib.pieceU_ne s.data.toList a s.size (hst a rfl) (by rw [← Lib.size_eq]; exact Nat.le_refl _)
      simp [Lib.closeSpans, Lib.openPiece, this]
  intro f
  induction f with
  | zero => intro pos st acc h hp hst; exact hend 0 pos st acc (by omega) hst
  | succ f ih =>
    intro pos st acc h hp hst
    by_cases hlt : pos < s.size
    · obtain ⟨L, hL⟩ : ∃ L, L = s.data.toList := ⟨_, rfl⟩
      have hsz : s.size = L.length := by rw [hL, Lib.size_eq]
      have hgt := fun i => get_list s i
      rw [← hL] at hgt ih ⊢
      obtain ⟨k1, k2, k3, k4, k5, k6, k7, k8⟩ := decode_blank (s.size - pos) (s.get! pos).toNat (s.get! (pos + 1)).toNat (s.get! (pos + 2)).toNat (s.get! (pos + 3)).toNat (by omega)
      rw [← Lib.decode_at] at k1 k2 k3 k4 k5 k6 k7 k8
      simp only [Lib.spansFromP, if_pos hlt]
      obtain ⟨x, k, hxk⟩ : ∃ x k, Utf8.decode s pos = (x, k) := ⟨_, _, rfl⟩
      rw [hxk] at k1 k2 k3 k4 k5 k6 k7 k8 ⊢
      dsimp only at k1 k2 k3 k4 k5 k6 k7 k8 ⊢
      rw [hgt] at k4 k5 k6 k7 k8
      have hL' : pos < L.length := by omega
      have hd0 : L.drop pos = L.getD pos 0 :: L.drop (pos + 1) := by
        rw [List.drop_eq_getElem_cons hL', List.getD_eq_getElem?_getD, List.getElem?_eq_getElem hL']; rfl
      cases hsp : blankR x with
      | true =>
        obtain ⟨k9, rfl⟩ := k4 hsp
        simp only [if_true]
        rw [hd0, wordsG_blank _ _ _ (by rw [blank_byte]; exact k9)]
        cases st with
        | none =>
          have := ih (pos + 1) none acc (by omega) (by omega) (fun a h => by cases h)
          simpa [Lib.openPiece] using this
        | some a =>
          have hpn := Lib.pieceU_ne L a pos (hst a rfl) (by omega)
          have := ih (pos + 1) none (acc ++ [(a, pos)]) (by omega) (by omega) (fun a h => by cases h)
          simpa [Lib.openPiece, hpn] using this
      | false =>
        simp only [Bool.false_eq_true, if_false]
        have hrun : ∀ c ∈ (L.drop pos).take k, blankB c = false := by
          intro c hc
          obtain ⟨j, hj⟩ := List.mem_iff_getElem?.1 hc
          have hjk : j < k := by
            have := (List.getElem?_eq_some_iff.1 hj).1
            rw [List.length_take] at this; omega
          rw [List.getElem?_take_of_lt hjk, List.getElem?_drop] at hj
          have hcj : L.getD (pos + j) 0 = c := by rw [List.getD_eq_getElem?_getD, hj]; rfl
          rw [blank_byte]
          have hbig : 128 ≤ c.toNat → blankR c.toNat = false := fun hc => by
            unfold blankR
            rw [Bool.or_eq_false_iff, Bool.or_eq_false_iff]
            exact ⟨⟨beq_eq_false_iff_ne.2 (by omega), beq_eq_false_iff_ne.2 (by omega)⟩, beq_eq_false_iff_ne.2 (by omega)⟩
          have hj4 : j = 0 ∨ j = 1 ∨ j = 2 ∨ j = 3 := by omega
          rcases hj4 with rfl | rfl | rfl | rfl
          · have := k5 hsp
            rw [Nat.add_zero] at hcj
            rw [hcj] at this; exact this
          · exact hbig (by have := k6 (by omega); rw [hcj] at this; exact this)
          · exact hbig (by have := k7 (by omega); rw [hcj] at this; exact this)
          · exact hbig (by have := k8 (by omega); rw [hcj] at this; exact this)
        have hsplit : L.drop pos = (L.drop pos).take k ++ L.drop (pos + k) := by
          rw [← List.drop_drop, List.take_append_drop]
        rw [hsplit, wordsG_run _ _ _ hrun]
        cases st with
        | none =>
          have := ih (pos + k) (some pos) acc (by omega) (by omega) (fun a h => by cases h; omega)
          rw [← this]
          simp only [Lib.openPiece, Lib.pieceU, List.nil_append, Nat.add_sub_cancel_left]
        | some a =>
          have := ih (pos + k) (some a) acc (by omega) (by omega) (fun b h => by cases h; have := hst a rfl; omega)
          rw [← this]
          simp only [Lib.openPiece]
          rw [Lib.pieceU_grow _ _ _ _ (Nat.le_of_lt (hst a rfl))]
    · exact hend _ pos st acc (by omega) hst
theorem words_go (s : ByteArray) : (Lib.goFieldsP blankR s).map (·.data.toList) = wordsF s.data.toList := by
  have h := spans_words s s.size 0 none [] (by omega) (Nat.zero_le _) (fun a h => by cases h)
  unfold Lib.goFieldsP Lib.spansOfP wordsF
  rw [List.map_map]
  rw [List.map_nil, List.nil_append] at h
  rw [show wordsG [] s.data.toList = wordsG (Lib.openPiece s.data.toList none 0) (s.data.toList.drop 0) from rfl, h]
  refine List.map_congr_left fun p _ => ?_
  show (s.extract p.1 p.2).data.toList = _
  rw [Lib.extract_data]
  rfl
theorem join_go : ∀ l : List Bs, Lib.join l [32] = joinF l
  | [] => rfl
  | [x] => Lib.join_one x _
  | x :: y :: l => by
    have ih := join_go (y :: l)
    show _ = x ++ 32 :: joinF (y :: l)
    rw [← ih, Lib.join_cons, Lib.join_cons]
    rfl
end Go.Proofs.Ytglppnpllpfaeaa
