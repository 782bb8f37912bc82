/-
  Words for a reader's own memory: the record of three cells; what is kept; small contracts.
-/
import Derived.Test.YtnndnldpbdhkgaaProg
import Derived.WalkKit
import Derived.WalkSpells
import Derived.WalkLawsBesides
import Derived.WalkArith
import Derived.Lib.Strings
import Derived.Lib.Bytealg
import Derived.Lib.IndexLaws
import Derived.Lib.Hide
import Derived.Outline
import Derived.Deep.QuietTactic
import Derived.BigQuiet
import Derived.IntWalk
import Derived.Test.YtnndnldpbdhkgaaShelf
namespace Go.Proofs.Ytnndnldpbdhkgaa
open Go.RowKit
set_option linter.unusedVariables false

/-- Blocks outside S are as they were; the streams too. -/
structure Keeps (S : Nat → Prop) (w w' : World) : Prop where
  os : w'.os = w.os
  tape : w'.tape = w.tape
  output : w'.output = w.output
  size : w.heap.size ≤ w'.heap.size
  block : ∀ k, k < w.heap.size → ¬ S k → w'.heap[k]? = w.heap[k]?

theorem Keeps.refl (S : Nat → Prop) (w : World) : Keeps S w w := ⟨rfl, rfl, rfl, Nat.le_refl _, fun _ _ _ => rfl⟩
theorem Keeps.trans {S T : Nat → Prop} {a b c : World} (h : Keeps S a b) (k : Keeps T b c) (hT : ∀ x, x < a.heap.size → T x → S x) : Keeps S a c :=
  ⟨k.os.trans h.os, k.tape.trans h.tape, k.output.trans h.output, Nat.le_trans h.size k.size, fun x hx hs => (k.block x (Nat.lt_of_lt_of_le hx h.size) (fun t => hs (hT x hx t))).trans (h.block x hx hs)⟩
theorem Keeps.mono {S T : Nat → Prop} {a b : World} (h : Keeps S a b) (hT : ∀ x, x < a.heap.size → S x → T x) : Keeps T a b :=
  ⟨h.os, h.tape, h.output, h.size, fun x hx hs => h.block x hx (fun s => hs (hT x hx s))⟩
theorem Keeps.drewN {S : Nat → Prop} {a b : World} (h : Keeps S a b) (n : Nat) : Keeps S a (b.drewN n) := by
  induction n with
  | zero => exact h
  | succ n ih => exact ⟨ih.os, ih.tape, ih.output, ih.size, ih.block⟩
theorem Keeps.drew {S : Nat → Prop} {a b : World} (h : Keeps S a b) : Keeps S a b.drew := ⟨h.os, h.tape, h.output, h.size, h.block⟩
theorem Keeps.alloc {S : Nat → Prop} {a b : World} (h : Keeps S a b) (o : Obj) : Keeps S a (b.alloc o) :=
  ⟨h.os, h.tape, h.output, Nat.le_trans h.size (by simp), fun x hx hs => (Below.heap_alloc _ _ _ (Nat.lt_of_lt_of_le hx h.size)).trans (h.block x hx hs)⟩
theorem Keeps.setCell {S : Nat → Prop} {a b : World} (h : Keeps S a b) (p : Addr) (v : Value) (hp : p.block < a.heap.size → S p.block) : Keeps S a (b.setCell p v) :=
  ⟨h.os, h.tape, h.output, Nat.le_trans h.size (by simp [World.setCell]), fun x hx hs => (Below.heap_setCell _ _ _ _ (fun e => hs (by rw [e]; exact hp (by rw [← e]; exact hx)))).trans (h.block x hx hs)⟩
theorem Keeps.grown {S : Nat → Prop} {a b c : World} {row : Option Nat} (h : Keeps S a b) (hg : b.grownBy c row) (hr : ∀ k, row = some k → k < a.heap.size → S k) : Keeps S a c :=
  ⟨hg.os.trans h.os, hg.tape.trans h.tape, hg.output.trans h.output, Nat.le_trans h.size hg.size, fun x hx hs => (hg.block x (Nat.lt_of_lt_of_le hx h.size) (fun e => hs (hr x e.symm hx))).trans (h.block x hx hs)⟩
theorem Keeps.below {a b : World} {B : Nat} (h : Keeps (fun k => B ≤ k) a b) (hB : B ≤ a.heap.size) : Below B a b :=
  ⟨h.os, h.tape, h.output, h.size, fun k hk => h.block k (by omega) (by omega)⟩
theorem Keeps.of_below {a b : World} (h : Below a.heap.size a b) (S : Nat → Prop) : Keeps S a b :=
  ⟨h.os, h.tape, h.output, h.size, fun k hk _ => h.block k hk⟩

/-- A record of three cells: a text, two numbers. -/
def ScanAt (w : World) (b : Nat) (s : ByteArray) (i d : Int) : Prop := ∃ T, w.heap[b]? = some (.cells #[.string s, .int .i64 i, .int .i64 d] T (0, 0))
theorem ScanAt.lt {w : World} {b : Nat} {s : ByteArray} {i d : Int} (h : ScanAt w b s i d) : b < w.heap.size := by
  obtain ⟨T, h⟩ := h
  exact (Array.getElem?_eq_some_iff.1 h).1
theorem ScanAt.cells {w : World} {b : Nat} {s : ByteArray} {i d : Int} (h : ScanAt w b s i d) :
    w.cell? ⟨b, 0, none⟩ = some (.string s) ∧ w.cell? ⟨b, 1, none⟩ = some (.int .i64 i) ∧ w.cell? ⟨b, 2, none⟩ = some (.int .i64 d) ∧
    w.frozen? ⟨b, 1, none⟩ = false ∧ w.frozen? ⟨b, 2, none⟩ = false := by
  obtain ⟨T, h⟩ := h
  refine ⟨?_, ?_, ?_, ?_, ?_⟩ <;> simp [World.cell?, World.frozen?, h]
theorem ScanAt.set1 {w : World} {b : Nat} {s : ByteArray} {i d : Int} (h : ScanAt w b s i d) (j : Int) : ScanAt (w.setCell ⟨b, 1, none⟩ (.int .i64 j)) b s j d := by
  obtain ⟨T, h⟩ := h
  exact ⟨T, by simp [World.setCell, Array.getElem?_modify, h]⟩
theorem ScanAt.set2 {w : World} {b : Nat} {s : ByteArray} {i d : Int} (h : ScanAt w b s i d) (j : Int) : ScanAt (w.setCell ⟨b, 2, none⟩ (.int .i64 j)) b s i j := by
  obtain ⟨T, h⟩ := h
  exact ⟨T, by simp [World.setCell, Array.getElem?_modify, h]⟩
theorem ScanAt.keep {w w' : World} {b : Nat} {s : ByteArray} {i d : Int} {S : Nat → Prop} (h : ScanAt w b s i d) (hk : Keeps S w w') (hb : ¬ S b) : ScanAt w' b s i d := by
  have hl := h.lt
  obtain ⟨T, h⟩ := h
  exact ⟨T, (hk.block b hl hb).trans h⟩
theorem ScanAt.drewN {w : World} {b : Nat} {s : ByteArray} {i d : Int} (h : ScanAt w b s i d) (n : Nat) : ScanAt (w.drewN n) b s i d :=
  h.keep (S := fun _ => False) ((Keeps.refl _ _).drewN n) (fun x => x)
theorem ScanAt.alloc {w : World} {b : Nat} {s : ByteArray} {i d : Int} (h : ScanAt w b s i d) (o : Obj) : ScanAt (w.alloc o) b s i d :=
  h.keep (S := fun _ => False) ((Keeps.refl _ _).alloc o) (fun x => x)
theorem ScanAt.new (w : World) (s : ByteArray) (i d : Int) (T : TypeId) : ScanAt (w.alloc (.cells #[.string s, .int .i64 i, .int .i64 d] T)) w.heap.size s i d := ⟨T, heap_alloc_new w _⟩

/-- The byte at a place; 0: there is none. -/
def byteAt (s : ByteArray) (k : Nat) : UInt8 := s.data.toList.getD k 0
theorem byteAt_in {s : ByteArray} {k : Nat} (h : k < s.size) : s[k] = byteAt s k := by
  unfold byteAt
  have h' : k < s.data.toList.length := by simpa using h
  rw [List.getD_eq_getElem?_getD, List.getElem?_eq_getElem h']
  simp
  rfl

def Drawn (w w' : World) : Prop := ∃ q, w' = w.drewN q
theorem drawn2 (w : World) (a b : Nat) : Drawn w ((w.drewN a).drewN b) := ⟨_, World.drewN_drewN ..⟩

theorem at_any (b : Nat) (s : ByteArray) (i k : Nat) (d : Int) (w : World) (h : ScanAt w b s i d) (hs : s.size ≤ 140737488351232) (hi : i ≤ 140737488351232) (hk : k ≤ 140737488351232) :
    Calls Try.prog 42 #[.pointer (some ⟨b, 0, none⟩), .int .i64 k] w fun e w' => e = .returned (.int .u8 (byteAt s (i + k)).toNat) ∧ Drawn w w' := by
  obtain ⟨c0, c1, _, _, _⟩ := h.cells
  by_cases hlt : i + k < s.size
  · have e := byteAt_in hlt
    generalize byteAt s (i + k) = x at e
    have E := Lib.hid e
    clear e
    have ew : IntKind.i64.wrap ((i : Int) + (k : Int)) = (i : Int) + (k : Int) := IntWalk.i64_in _ (by omega)
    have e0 : 0 ≤ (i : Int) + (k : Int) := by omega
    have e1 : (i : Int) + (k : Int) < (s.size : Int) := by omega
    have e2 : ((i : Int) + (k : Int)).toNat = i + k := by omega
    go_enter Try.func42, Try.ntmps42
    go_wp2_with fail
    go_quiet (fail)
    go_wp2_with fail
    go_quiet (fail)
    go_wp2_with fail
    go_ret
    exact ⟨by rw [← E.out]; rfl, drawn2 _ _ _⟩
  · have e : byteAt s (i + k) = 0 := by
      unfold byteAt
      rw [List.getD_eq_getElem?_getD, List.getElem?_eq_none (by rw [← Lib.size_eq]; omega)]; rfl
    rw [e]
    clear e
    go_enter Try.func42, Try.ntmps42
    go_wp2_with fail
    go_quiet (fail)
    go_wp2_with fail
    go_ret
    exact ⟨rfl, _, rfl⟩

theorem end_any (b : Nat) (s : ByteArray) (i : Nat) (d : Int) (w : World) (h : ScanAt w b s i d) :
    Calls Try.prog 27 #[.pointer (some ⟨b, 0, none⟩)] w fun e w' => e = .returned (.bool (decide (s.size ≤ i))) ∧ Drawn w w' := by
  obtain ⟨c0, c1, _, _, _⟩ := h.cells
  go_enter Try.func27, Try.ntmps27
  go_wp2_with fail
  go_quiet (fail)
  go_wp2_with fail
  go_ret
  exact ⟨by simp, _, rfl⟩

/-- What is left of a text from a place on. -/
def rest (s : ByteArray) (i : Nat) : List UInt8 := s.data.toList.drop i

theorem rest_take (s : ByteArray) (i : Nat) : List.take (s.size - i) (List.drop i s.data.toList) = rest s i := by
  unfold rest
  rw [List.take_of_length_le (by rw [List.length_drop, ← Lib.size_eq]; omega)]

theorem is_no (b : Nat) (s t : ByteArray) (i : Nat) (d : Int) (w : World) (h : ScanAt w b s i d) (hi : i ≤ s.size) (hp : Lib.hasPrefix (rest s i) t.data.toList = false) :
    Calls Try.prog 41 #[.pointer (some ⟨b, 0, none⟩), .string t] w fun e w' => e = .returned (.bool false) ∧ Drawn w w' := by
  obtain ⟨c0, c1, _, _, _⟩ := h.cells
  rw [← rest_take] at hp
  go_enter Try.func41, Try.ntmps41
  go_wp2_with fail
  go_quiet ((go_at_call 57; exact Calls.quiet_of_same (Try.strings_HasPrefix _ _ _)))
  go_wp2_with fail
  go_ret
  exact ⟨rfl, _, rfl⟩

def IsYes (w : World) (b : Nat) (s : ByteArray) (j d : Int) (e : Ending) (w' : World) : Prop :=
  e = .returned (.bool true) ∧ ScanAt w' b s j d ∧ Keeps (fun k => k = b) w w'

theorem is_yes (b : Nat) (s t : ByteArray) (i : Nat) (d : Int) (w : World) (h : ScanAt w b s i d) (hs : s.size ≤ 140737488351232) (hi : i ≤ s.size) (ht : t.size ≤ 100) (hp : Lib.hasPrefix (rest s i) t.data.toList = true) :
    Calls Try.prog 41 #[.pointer (some ⟨b, 0, none⟩), .string t] w (IsYes w b s ((i + t.size : Nat) : Int) d) := by
  obtain ⟨c0, c1, c2, f1, f2⟩ := h.cells
  rw [← rest_take] at hp
  go_enter Try.func41, Try.ntmps41
  go_wp2_with fail
  go_quiet ((go_at_call 57; exact Calls.quiet_of_same (Try.strings_HasPrefix _ _ _)))
  go_wp2_with fail
  go_ret
  exact ⟨rfl, by simpa using (h.drewN nq).set1 _, ((Keeps.refl _ _).drewN nq).setCell _ _ (fun _ => rfl)⟩

theorem among_end (b : Nat) (s t : ByteArray) (i : Nat) (d : Int) (w : World) (h : ScanAt w b s i d) (hi : s.size ≤ i) :
    Calls Try.prog 40 #[.pointer (some ⟨b, 0, none⟩), .string t] w fun e w' => e = .returned (.bool false) ∧ Drawn w w' := by
  have e : decide (s.size ≤ i) = true := decide_eq_true hi
  have E := Lib.hid e; clear e
  go_enter Try.func40, Try.ntmps40
  go_wp2_with fail
  go_quiet ((go_at_call 27; exact Calls.quiet_of ((end_any b s i d _ (h.drewN _)).mono (fun e w' hh => by rw [E.out] at hh; exact hh))))
  go_wp2_with fail
  go_ret
  exact ⟨rfl, _, rfl⟩

/-- Is a byte among some? -/
def amid (t : ByteArray) (c : UInt8) : Bool := decide (0 ≤ Lib.indexByte t.data.toList c)
theorem among_in (b : Nat) (s t : ByteArray) (i : Nat) (d : Int) (w : World) (h : ScanAt w b s i d) (hs : s.size ≤ 140737488351232) (hi : i < s.size) (r : Bool) (hr : amid t (byteAt s i) = r) :
    Calls Try.prog 40 #[.pointer (some ⟨b, 0, none⟩), .string t] w fun e w' => e = .returned (.bool r) ∧ Drawn w w' := by
  have e : decide (s.size ≤ i) = false := decide_eq_false (by omega)
  have E := Lib.hid e; clear e
  obtain ⟨c0, c1, _, _, _⟩ := h.cells
  have ei := byteAt_in hi
  rw [← ei] at hr
  have HR := Lib.hid hr
  clear ei hr
  have e1 : (i : Int) < (s.size : Int) := by omega
  go_enter Try.func40, Try.ntmps40
  go_wp2_with fail
  go_quiet ((first | (go_at_call 27; exact Calls.quiet_of ((end_any b s i d _ (h.drewN _)).mono (fun e w' hh => by rw [E.out] at hh; exact hh))) | (go_at_call 39; exact Calls.quiet_of_same (Try.strings_IndexByte _ _ _))))
  go_wp2_with fail
  go_ret
  refine ⟨?_, _, rfl⟩
  rw [← HR.out]
  unfold amid
  simp

@[reducible] def failed (x : Nat) : Ending := .panicked [{ v := .iface 74 (.agg #[.int .i64 x]), recovered := false }]
theorem fail_any (x : Nat) (w : World) :
    Calls Try.prog 44 #[.int .i64 x] w fun e w' => e = failed x ∧ w = w' := by
  go_enter Try.func44, Try.ntmps44
  go_wp2_with fail
  exact ⟨rfl, rfl, rfl⟩
end Go.Proofs.Ytnndnldpbdhkgaa
