/-
  What each of the functions that call each other leaves, in the words of the plain lexer.
-/
import Derived.Test.YtnndnldpbdhkgaaLexY
import Derived.Test.YtnndnldpbdhkgaaLexZ
import Derived.StillTailTactics
namespace Go.Proofs.Ytnndnldpbdhkgaa
open Go.RowKit
set_option linter.unusedVariables false

/-- What a reader of parts leaves: its parts in the bag, or why not. -/
def ThingPost (w : World) (B cs wb : Nat) (s : ByteArray) (d : Nat) (g : Option Nat) (N : List Pt × Bool) (res : Res) (e : Ending) (w' : World) : Prop :=
  match res with
  | .ok (l, r) => e = .returned (.tuple #[]) ∧ ∃ (i' : Nat) (g' : Option Nat), i' ≤ s.size ∧ rest s i' = r ∧ ScanAt w' cs s i' d ∧ Bag w' B cs wb g' (l.foldl stepN N) (2 * i') ∧ Newer w g g' ∧ Keeps (Fp cs wb g) w w'
  | .error x => e = failed x ∧ Keeps (Fp cs wb g) w w'

/-- The record of a part that is made. -/
def PartAt (w : World) (b : Nat) (p : Pt) (v : Value) : Prop := ∃ T, w.heap[b]? = some (.cells (cellsP p v).toArray T (0, 0))
/-- What braces leaves: the part, or why not. -/
def BracePost (w : World) (cs pb : Nat) (s : ByteArray) (d : Nat) (res : Res) (e : Ending) (w' : World) : Prop :=
  match res with
  | .ok (l, r) => e = .returned (.tuple #[]) ∧ ∃ (i' n : Nat) (x : Pt) (v : Value), i' ≤ s.size ∧ rest s i' = r ∧ l = [x] ∧ x.kind = 3 ∧ x.text = [] ∧ ScanAt w' cs s i' d ∧ PartAt w' pb x v ∧ PtsAt w' (fun b => w.heap.size ≤ b) n x.word v ∧ Keeps (fun b => b = cs ∨ b = pb) w w'
  | .error x => e = failed x ∧ Keeps (fun b => b = cs ∨ b = pb) w w'
/-- What inner leaves: a word, or why not. -/
def InnerPost (w : World) (cs : Nat) (s : ByteArray) (d : Nat) (res : Res) (e : Ending) (w' : World) : Prop :=
  match res with
  | .ok (l, r) => ∃ (i' n : Nat) (v : Value), e = .returned v ∧ i' ≤ s.size ∧ rest s i' = r ∧ ScanAt w' cs s i' d ∧ PtsAt w' (fun b => w.heap.size ≤ b) n (tidyF l) v ∧ Keeps (fun b => b = cs) w w'
  | .error x => e = failed x ∧ Keeps (fun b => b = cs) w w'

/-- What holds at each fuel. -/
structure Does (n : Nat) : Prop where
  out : ∀ (B cs wb : Nat) (s : ByteArray) (i d : Nat) (g : Option Nat) (N : List Pt × Bool) (w : World), ScanAt w cs s i d → i < s.size → d ≤ 40 → s.size ≤ 20000 → Bag w B cs wb g N (2 * i) → 2 * (s.size - i) ≤ n →
    Calls Try.prog 36 #[.pointer (some ⟨cs, 0, none⟩), .pointer (some ⟨wb, 0, none⟩)] w (ThingPost w B cs wb s d g N (lexD n (.one false) d (rest s i)))
  inn : ∀ (B cs wb : Nat) (s : ByteArray) (i d : Nat) (g : Option Nat) (N : List Pt × Bool) (w : World), ScanAt w cs s i d → i < s.size → byteAt s i ≠ 34 → d ≤ 40 → s.size ≤ 20000 → Bag w B cs wb g N (2 * i) → 2 * (s.size - i) ≤ n →
    Calls Try.prog 64 #[.pointer (some ⟨cs, 0, none⟩), .pointer (some ⟨wb, 0, none⟩)] w (ThingPost w B cs wb s d g N (lexD n (.one true) d (rest s i)))
  dq : ∀ (B cs wb : Nat) (s : ByteArray) (i d m : Nat) (g : Option Nat) (N : List Pt × Bool) (w : World), ScanAt w cs s i d → i ≤ s.size → d ≤ 40 → s.size ≤ 20000 → Bag w B cs wb g N m → m + 1 ≤ 2 * i → 2 * (s.size - i) + 1 ≤ n →
    Calls Try.prog 54 #[.pointer (some ⟨cs, 0, none⟩), .pointer (some ⟨wb, 0, none⟩)] w (ThingPost w B cs wb s d g N ((lexD n .dq d (rest s i)).ahead [quoP []]))
  dol : ∀ (q : Bool) (B cs wb : Nat) (s : ByteArray) (i d m : Nat) (g : Option Nat) (N : List Pt × Bool) (w : World), ScanAt w cs s i d → i ≤ s.size → d ≤ 40 → s.size ≤ 20000 → Bag w B cs wb g N m → m + 2 ≤ 2 * i → 2 * (s.size - i) + 1 ≤ n →
    Calls Try.prog 55 #[.pointer (some ⟨cs, 0, none⟩), .pointer (some ⟨wb, 0, none⟩), .bool q] w (ThingPost w B cs wb s d g N (lexD n (.dol q) d (rest s i)))
  brace : ∀ (q : Bool) (cs pb : Nat) (s : ByteArray) (i d : Nat) (w : World), ScanAt w cs s i d → i ≤ s.size → d ≤ 40 → s.size ≤ 20000 → cs ≠ pb → PartAt w pb (.mk 0 [] [] [] [] q) (.slice none 0 0) → 2 * (s.size - i) + 1 ≤ n →
    Calls Try.prog 65 #[.pointer (some ⟨cs, 0, none⟩), .pointer (some ⟨pb, 0, none⟩)] w (BracePost w cs pb s d (lexD n (.brace q) d (rest s i)))
  br : ∀ (q : Bool) (cs : Nat) (s : ByteArray) (i d : Nat) (w : World), ScanAt w cs s i d → i ≤ s.size → d ≤ 40 → s.size ≤ 20000 → 2 * (s.size - i) + 1 ≤ n →
    Calls Try.prog 77 #[.pointer (some ⟨cs, 0, none⟩), .bool q] w (InnerPost w cs s d (lexD n (.br q) d (rest s i)))

theorem Bag.le {w : World} {B cs wb : Nat} {g : Option Nat} {N : List Pt × Bool} {m : Nat} (h : Bag w B cs wb g N m) : cs < B ∧ B ≤ wb ∧ wb < w.heap.size := by
  have hl := h.wlt
  obtain ⟨v, raw, _, _, _, _, _, h3, _⟩ := h
  exact ⟨h3.1, h3.2, hl⟩

theorem FailPost.thing {w w1 : World} {B cs wb : Nat} {s : ByteArray} {d : Nat} {g : Option Nat} {N : List Pt × Bool} {x : Nat} {e : Ending} {w' : World} (he : e = failed x) (h1 : Keeps (fun b => b = cs) w w1) (h2 : Keeps (fun b => b = cs) w1 w') : ThingPost w B cs wb s d g N (.error x) e w' :=
  ⟨he, (h1.trans h2 (fun _ _ h => h)).mono fun _ _ h => .inl h⟩

/-- A put behind a move of the scanner. -/
theorem PutPost.thing {w w1 : World} {B cs wb i : Nat} {s : ByteArray} {d : Nat} {g : Option Nat} {N N' : List Pt × Bool} {m : Nat} {l : List Pt} {r : List UInt8} {e : Ending} {w' : World} (h : PutPost w1 B cs wb g N' m e w') (hs : ScanAt w1 cs s i d) (hcs : cs ≠ wb) (hg : g ≠ some cs) (h1 : Keeps (fun b => b = cs) w w1)
    (hi : i ≤ s.size) (hr : rest s i = r) (hN : l.foldl stepN N = N') (hm : m ≤ 2 * i) : True := trivial
end Go.Proofs.Ytnndnldpbdhkgaa
