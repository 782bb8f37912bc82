/-
  The reference's loop over the bytes of a path, plainly.
-/
import Derived.Test.YtlaijghfcbjbpaaDoorPathP
namespace Go.Proofs.YtlaijghfcbjbpaaDoor

/-- Where the loop stands: at k, a name from f on, the names so far L. -/
def NInv (l0 : List Bytes) (p : Bytes) (f k : Nat) (L : List Bytes) : Prop :=
  L.length ≤ l0.length + k ∧ ((k ≤ p.length ∧ f ≤ k ∧ (47 : UInt8) ∉ (p.drop f).take (k - f) ∧ namesL l0 p = namesL L (p.drop f)) ∨ (k = p.length + 1 ∧ namesL l0 p = L))

theorem NInv.start (l0 : List Bytes) (p : Bytes) : NInv l0 p 0 0 l0 := ⟨by omega, Or.inl ⟨by omega, by omega, by simp, by simp⟩⟩

theorem NInv.from_le {l0 : List Bytes} {p : Bytes} {f k : Nat} {L : List Bytes} (h : NInv l0 p f k L) (hk : k ≤ p.length) : f ≤ k := by
  rcases h.2 with h | h
  · exact h.2.1
  · omega

theorem NInv.done {l0 : List Bytes} {p : Bytes} {f k : Nat} {L : List Bytes} (h : NInv l0 p f k L) (hk : p.length < k) : namesL l0 p = L := by
  rcases h.2 with h | h
  · omega
  · exact h.2

theorem NInv.skip {l0 : List Bytes} {p : Bytes} {f k : Nat} {L : List Bytes} (h : NInv l0 p f k L) (hk : k < p.length) (hc : p[k] ≠ 47) : NInv l0 p f (k + 1) L := by
  refine ⟨by have := h.1; omega, ?_⟩
  rcases h.2 with ⟨_, h2, h3, h4⟩ | h'
  · refine Or.inl ⟨by omega, by omega, ?_, h4⟩
    rw [show k + 1 - f = (k - f) + 1 by omega, List.take_succ_eq_append_getElem (by rw [List.length_drop]; omega)]
    intro hm
    rcases List.mem_append.1 hm with hm | hm
    · exact h3 hm
    · have := List.mem_singleton.1 hm
      rw [List.getElem_drop] at this
      have e : f + (k - f) = k := by omega
      simp only [e] at this
      exact hc this.symm
  · omega

theorem NInv.cut {l0 : List Bytes} {p : Bytes} {f k : Nat} {L : List Bytes} (h : NInv l0 p f k L) (hk : k < p.length) (hc : p[k] = 47) :
    NInv l0 p (k + 1) (k + 1) (seg L ((p.drop f).take (k - f))) := by
  have hl := seg_length L ((p.drop f).take (k - f))
  refine ⟨by have := h.1; omega, ?_⟩
  rcases h.2 with ⟨_, h2, h3, h4⟩ | h'
  · refine Or.inl ⟨by omega, by omega, by simp, ?_⟩
    have e : p.drop f = (p.drop f).take (k - f) ++ 47 :: p.drop (k + 1) := by
      rw [← hc, List.getElem_cons_drop]
      conv => lhs; rw [← List.take_append_drop (k - f) (p.drop f)]
      rw [List.drop_drop, show f + (k - f) = k by omega]
    rw [h4]
    conv => lhs; rw [e]
    rw [namesL_slash]
    congr 1
    unfold namesL
    rw [splitL_plain _ h3]; rfl
  · omega

theorem NInv.last {l0 : List Bytes} {p : Bytes} {f : Nat} {L : List Bytes} (h : NInv l0 p f p.length L) :
    NInv l0 p (p.length + 1) (p.length + 1) (seg L ((p.drop f).take (p.length - f))) := by
  have hl := seg_length L ((p.drop f).take (p.length - f))
  refine ⟨by have := h.1; omega, Or.inr ⟨rfl, ?_⟩⟩
  rcases h.2 with ⟨_, h2, h3, h4⟩ | h'
  · have e : (p.drop f).take (p.length - f) = p.drop f := List.take_of_length_le (by rw [List.length_drop]; omega)
    rw [e] at h3 ⊢
    rw [h4]
    unfold namesL
    rw [splitL_plain _ h3]; rfl
  · omega
end Go.Proofs.YtlaijghfcbjbpaaDoor
