/-
  One part more in the bag, of any kind but a text or a quote.
-/
import Derived.Test.YtnndnldpbdhkgaaLexK
namespace Go.Proofs.Ytnndnldpbdhkgaa
open Go.RowKit
set_option linter.unusedVariables false

theorem grow_pts2 {w w' : World} {v v' : Value} {B wb : Nat} {raw : List Pt} {x : Pt} {vs : List Value} {n : Nat} {wv : Value} (hx : PtsAt w (fun b => (B ≤ b ∧ b ≠ wb) ∧ v.ownBlock ≠ some b) n x.word wv) (hl : vs.length = raw.length)
    (hnest : ∀ i (h : i < raw.length) (h' : i < vs.length), PtsAt w (fun b => (B ≤ b ∧ b ≠ wb) ∧ v.ownBlock ≠ some b) n raw[i].word vs[i])
    (hown : w'.ownsRow 0 39 6 v' (raw.length + 1) (cellsL raw vs ++ cellsP x wv)) (hk : Keeps (fun b => b = wb ∨ v.ownBlock = some b) w w')
    (hg : ∀ y, v'.ownBlock = some y → v.ownBlock = some y ∨ w.heap.size ≤ y) :
    OwnPts w' (fun b => B ≤ b ∧ b ≠ wb) v' (raw ++ [x]) := by
  have key : ∀ (l : List Pt) (u : Value), PtsAt w (fun b => (B ≤ b ∧ b ≠ wb) ∧ v.ownBlock ≠ some b) n l u → PtsAt w' (fun b => (B ≤ b ∧ b ≠ wb) ∧ v'.ownBlock ≠ some b) n l u := fun l u h => by
    have h2 : PtsAt w (fun b => ((B ≤ b ∧ b ≠ wb) ∧ v.ownBlock ≠ some b) ∧ b < w.heap.size) n l u := h.mono fun b hb hd => ⟨hd, hb⟩
    refine (h2.keep hk (fun b _ hd s => by rcases s with s | s; exact hd.1.1.2 s; exact hd.1.2 s)).mono fun b _ hd => ⟨hd.1.1, fun e => ?_⟩
    rcases hg b e with h3 | h3
    · exact hd.1.2 h3
    · have := hd.2; omega
  refine ⟨vs ++ [wv], n, by simp [hl], ?_, fun i h h' => ?_⟩
  · rw [cellsL_append hl]
    simpa [cellsL] using hown
  · by_cases hi : i < raw.length
    · rw [List.getElem_append_left hi, List.getElem_append_left (by omega)]
      exact key _ _ (hnest i hi (by omega))
    · have hi2 : i = raw.length := by simp at h; omega
      subst hi2
      rw [List.getElem_append_right (Nat.le_refl _), List.getElem_append_right (by omega)]
      simp only [hl, Nat.sub_self, List.getElem_cons_zero]
      exact key _ _ hx

theorem bag_more2 {w : World} {B cs wb : Nat} {v : Value} {raw : List Pt} {vs : List Value} {n m : Nat} {x : Pt} {wv : Value} {N : List Pt × Bool} {e : Ending} {w' : World} (ho : v.ownBlock ≠ some cs) (hcw : cs < B ∧ B ≤ wb) (hl : vs.length = raw.length)
    (lcs : cs < w.heap.size) (hxw : PtsAt w (fun b => (B ≤ b ∧ b ≠ wb) ∧ v.ownBlock ≠ some b) n x.word wv)
    (hnest : ∀ i (h : i < raw.length) (h' : i < vs.length), PtsAt w (fun b => (B ≤ b ∧ b ≠ wb) ∧ v.ownBlock ≠ some b) n raw[i].word vs[i])
    (hok : RawOK raw) (hN : normF raw = N) (hm : wtF raw ≤ m) (hk1 : x.kind ≠ 1) (hk2 : x.kind ≠ 2) (hp : PutCore w wb raw.length v (cellsL raw vs ++ cellsP x wv) e w') :
    PutPost w B cs wb v.ownBlock (stepN N x) (m + x.text.length + 1) e w' := by
  obtain ⟨he, g, cap, h1, h2, h3, h4, h5⟩ := hp
  refine ⟨he, some g, ⟨_, raw ++ [x], h1, grow_pts2 (v := v) hxw hl hnest h2 h5 (fun y hy => ?_), rfl, fun e => h4 (Option.some.inj e), ?_, hcw, ?_, hok.append (fun p hp hk => ?_), ?_⟩, ?_, h5⟩
  · obtain rfl : g = y := Option.some.inj hy
    exact h3
  · intro e
    obtain rfl : g = cs := Option.some.inj e
    rcases h3 with h3 | h3
    · exact ho h3
    · omega
  · rw [normF_append, hN]; rfl
  · obtain rfl := List.mem_singleton.1 hp
    rcases hk with hk | hk
    · exact absurd hk hk1
    · exact absurd hk hk2
  · rw [wtF_append]
    simp only [wtF]
    omega
  · rcases h3 with h3 | h3
    · exact .inl h3.symm
    · exact .inr ⟨g, rfl, h3⟩

/-- A bag, and a part that is made: what goes behind. -/
def Made (w : World) (B cs wb pb : Nat) (s : ByteArray) (d : Nat) (g : Option Nat) (N : List Pt × Bool) (m : Nat) (res : Res) : Prop :=
  ∃ (i' k : Nat) (x : Pt) (v : Value), res = .ok ([x], rest s i') ∧ i' ≤ s.size ∧ m + x.text.length + 1 ≤ 2 * i' ∧ x.kind ≠ 1 ∧ x.kind ≠ 2 ∧ ScanAt w cs s i' d ∧ Bag w B cs wb g N m ∧
    RecAt w pb (cellsP x v) ∧ PtsAt w (fun b => (B ≤ b ∧ b ≠ wb) ∧ g ≠ some b) k x.word v
end Go.Proofs.Ytnndnldpbdhkgaa
