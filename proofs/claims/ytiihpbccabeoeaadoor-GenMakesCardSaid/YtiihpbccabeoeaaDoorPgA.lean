/-
  What the texts on gen import.
  The contracts of strings.Builder at this dump.
  The contracts of the two lots: New, Next.
  The contracts of gen's inner functions: dec, need, line.
  The contract of gen.Makefile.
-/
import Derived.Test.YtiihpbccabeoeaaDoorProg
import Derived.WalkKit
import Derived.WalkSpells
import Derived.WalkLawsBesides
import Derived.Lib.Strings
import Derived.Lib.Bytealg
import Derived.Lib.IndexLaws
import Derived.Lib.Hide
import Derived.Outline
import Derived.Deep.QuietTactic
import Derived.BigQuiet
import Derived.Test.YtiihpbccabeoeaaDoorShelf
import Derived.Shelf.Strings.Builder1
import Derived.WalkArith
import Derived.Lib.SmallJoins

namespace Go.Proofs.YtiihpbccabeoeaaDoor
open Go.RowKit

def renWS : Go.Shelf.Ren := ⟨fun | 166 => 11 | 240 => 22 | 276 => 26 | n => n, fun | 20 => 20 | 37 => 31 | 70 => 30 | 72 => 33 | 75 => 35 | 164 => 55 | 5 => 5 | 80 => 38 | n => n, fun | n => n⟩
theorem lays166 : Go.Proofs.Lays.n166 Tryd.prog renWS := {
  mixed := by kernel_rfl
  f166 := Tryd.func11.trans (congrArg some (by kernel_rfl))
  f240 := Tryd.func22.trans (congrArg some (by kernel_rfl))
  f276 := Tryd.func26.trans (congrArg some (by kernel_rfl))
  t0 := Tryd.underlying0
  a0 := Tryd.isAgg0
  z0 := Tryd.sizeOf0
  v0 := Tryd.zeroValue0
  t3 := Tryd.underlying3
  a3 := Tryd.isAgg3
  z3 := Tryd.sizeOf3
  v3 := Tryd.zeroValue3
  t4 := Tryd.underlying4
  a4 := Tryd.isAgg4
  z4 := Tryd.sizeOf4
  v4 := Tryd.zeroValue4
  t9 := Tryd.underlying9
  a9 := Tryd.isAgg9
  z9 := Tryd.sizeOf9
  v9 := Tryd.zeroValue9
  t20 := Tryd.underlying20
  a20 := Tryd.isAgg20
  z20 := Tryd.sizeOf20
  v20 := Tryd.zeroValue20
  t37 := Tryd.underlying31
  a37 := Tryd.isAgg31
  z37 := Tryd.sizeOf31
  v37 := Tryd.zeroValue31
  t70 := Tryd.underlying30
  a70 := Tryd.isAgg30
  z70 := Tryd.sizeOf30
  v70 := Tryd.zeroValue30
  t72 := Tryd.underlying33
  a72 := Tryd.isAgg33
  z72 := Tryd.sizeOf33
  v72 := Tryd.zeroValue33
  t75 := Tryd.underlying35
  a75 := Tryd.isAgg35
  z75 := Tryd.sizeOf35
  v75 := Tryd.zeroValue35
  t164 := Tryd.underlying55
  a164 := Tryd.isAgg55
  z164 := Tryd.sizeOf55
  v164 := Tryd.zeroValue55 }
theorem extraWS : Builder.Extra Tryd.prog renWS := {
  sizeBuilder := by kernel_rfl
  liesBuilder := by kernel_rfl
  t5 := Tryd.underlying5
  a5 := Tryd.isAgg5
  z5 := Tryd.sizeOf5
  v5 := Tryd.zeroValue5
  infoByte := by kernel_rfl
  cellsByte := by kernel_rfl
  sizeByte := by kernel_rfl
  neB5 := by decide }
theorem write_str (B b : Nat) (l : List UInt8) (s : ByteArray) (w : World) (h : Lib.IsBuilder 33 5 B b (Lib.byteCells l) w) (hlen : l.length + s.size ≤ 140737488355328) (hBw : B ≤ w.heap.size) :
    Calls Tryd.prog 11 #[.pointer (some ⟨b, 0, none⟩), .string s] w fun e w' => e = .returned (.tuple #[.int .i64 s.size, .nilIface]) ∧ Lib.IsBuilder 33 5 B b (Lib.byteCells (l ++ s.data.toList)) w' ∧ Below B w w' := by
  refine (Any.Builder_WriteString lays166 extraWS B b (Lib.byteCells l) s w h (by rw [Lib.byteCells_length]; exact hlen) hBw).mono ?_
  rintro e w' ⟨rfl, h1, h2⟩
  rw [Lib.strCells_eq, ← Lib.byteCells_append] at h1
  exact ⟨rfl, Or.inr h1, h2⟩
end Go.Proofs.YtiihpbccabeoeaaDoor
namespace Go.Proofs.YtiihpbccabeoeaaDoor
open Go.RowKit Go.Joins

/-- The low 32 bits. -/
def low (s : Int) : Int := bits .and .i64 s 4294967295
theorem low_bd (x : Int) : 0 ≤ low x ∧ low x ≤ 4294967295 := by
  unfold low
  simp only [bits, BitVec.toNat_and]
  have h : (BitVec.ofInt IntKind.i64.bits x).toNat &&& (BitVec.ofInt IntKind.i64.bits 4294967295).toNat ≤ 4294967295 := Nat.le_trans Nat.and_le_right (by decide)
  generalize (BitVec.ofInt IntKind.i64.bits x).toNat &&& (BitVec.ofInt IntKind.i64.bits 4294967295).toNat = n at *
  rw [IntKind.wrap_i64]
  omega

/-- The state behind a state. -/
def nextS (s : Int) : Int := low (wrap64 (wrap64 (s * 1664525) + 1013904223))
theorem nextS_bd (x : Int) : 0 ≤ nextS x ∧ nextS x ≤ 4294967295 := low_bd _
/-- The number below n that a state tells. -/
def nextV (s n : Int) : Int := if n < 1 then 0 else (nextS s / 256).tmod n
theorem nextV_bd (s n : Int) (hn : 1 ≤ n) : 0 ≤ nextV s n ∧ nextV s n < n := by
  unfold nextV
  rw [if_neg (by omega)]
  have h := nextS_bd s
  have h0 : 0 ≤ nextS s / 256 := by omega
  rw [Int.tmod_eq_emod_of_nonneg h0]
  exact ⟨Int.emod_nonneg _ (by omega), Int.emod_lt_of_pos _ (by omega)⟩

/-- A lot in block b. -/
def LotAt (w : World) (b : Nat) (s : Int) : Prop := ∃ T, w.heap[b]? = some (.cells #[.int .i64 s] T (0, 0))
theorem LotAt.cell {w : World} {b : Nat} {s : Int} (h : LotAt w b s) : w.cell? ⟨b, 0, none⟩ = some (.int .i64 s) := by
  obtain ⟨T, h⟩ := h
  simp [World.cell?, h]
theorem LotAt.frozen {w : World} {b : Nat} {s : Int} (h : LotAt w b s) : w.frozen? ⟨b, 0, none⟩ = false := by
  obtain ⟨T, h⟩ := h
  simp [World.frozen?, h]
theorem LotAt.lt {w : World} {b : Nat} {s : Int} (h : LotAt w b s) : b < w.heap.size := by
  obtain ⟨T, h⟩ := h
  exact (Array.getElem?_eq_some_iff.1 h).1
theorem LotAt.set {w : World} {b : Nat} {s : Int} (h : LotAt w b s) (t : Int) : LotAt (w.setCell ⟨b, 0, none⟩ (.int .i64 t)) b t := by
  obtain ⟨T, h⟩ := h
  refine ⟨T, ?_⟩
  simp [World.setCell, Array.getElem?_modify, h]
theorem LotAt.other {w : World} {b c : Nat} {s : Int} (h : LotAt w b s) (hne : b ≠ c) (v : Value) : LotAt (w.setCell ⟨c, 0, none⟩ v) b s := by
  obtain ⟨T, h⟩ := h
  exact ⟨T, (Below.heap_setCell _ _ _ _ (fun e => hne e)).trans h⟩
theorem LotAt.below {w w' : World} {B b : Nat} {s : Int} (h : LotAt w b s) (hb : Below B w w') (hlt : b < B) : LotAt w' b s := by
  obtain ⟨T, h⟩ := h
  exact ⟨T, (hb.block b hlt).trans h⟩
theorem LotAt.new (w : World) (s : Int) (T : TypeId) : LotAt (w.alloc (.cells #[.int .i64 s] T)) w.heap.size s := ⟨T, heap_alloc_new w _⟩
theorem LotAt.alloc {w : World} {b : Nat} {s : Int} (h : LotAt w b s) (o : Obj) : LotAt (w.alloc o) b s := by
  have hl := h.lt
  obtain ⟨T, h⟩ := h
  exact ⟨T, (heap_alloc_old w o hl).trans h⟩

def NextPost (w : World) (b : Nat) (s n : Int) (e : Ending) (w' : World) : Prop := e = .returned (.int .i64 (nextV s n)) ∧ w' = w.setCell ⟨b, 0, none⟩ (.int .i64 (nextS s))

theorem next_any (b : Nat) (s n : Int) (w : World) (h : LotAt w b s) :
    Calls Tryd.prog 16 #[.pointer (some ⟨b, 0, none⟩), .int .i64 n] w (NextPost w b s n) := by
  have hc := h.cell
  have hf := h.frozen
  clear h
  by_cases hn : n < 1
  · go_enter Tryd.func16, Tryd.ntmps16
    go_wp2
    go_ret
    exact ⟨by rw [nextV, if_pos hn]; rfl, rfl⟩
  · go_enter Tryd.func16, Tryd.ntmps16
    go_wp2
    go_ret
    exact ⟨by rw [nextV, if_neg (by omega)]; rfl, rfl⟩
theorem rnext_any (b : Nat) (s n : Int) (w : World) (h : LotAt w b s) :
    Calls Tryd.prog 21 #[.pointer (some ⟨b, 0, none⟩), .int .i64 n] w (NextPost w b s n) := by
  have hc := h.cell
  have hf := h.frozen
  clear h
  by_cases hn : n < 1
  · go_enter Tryd.func21, Tryd.ntmps21
    go_wp2
    go_ret
    exact ⟨by rw [nextV, if_pos hn]; rfl, rfl⟩
  · go_enter Tryd.func21, Tryd.ntmps21
    go_wp2
    go_ret
    exact ⟨by rw [nextV, if_neg (by omega)]; rfl, rfl⟩
def NewPost (w : World) (s : Int) (e : Ending) (w' : World) : Prop := e = .returned (.pointer (some ⟨w.heap.size, 0, none⟩)) ∧ ∃ T, w' = w.alloc (.cells #[.int .i64 (low s)] T)
theorem new_any (s : Int) (w : World) : Calls Tryd.prog 10 #[.int .i64 s] w (NewPost w s) := by
  go_enter Tryd.func10, Tryd.ntmps10
  go_wp2
  go_ret
  exact ⟨rfl, _, rfl⟩
theorem rnew_any (s : Int) (w : World) : Calls Tryd.prog 19 #[.int .i64 s] w (NewPost w s) := by
  go_enter Tryd.func19, Tryd.ntmps19
  go_wp2
  go_ret
  exact ⟨rfl, _, rfl⟩
end Go.Proofs.YtiihpbccabeoeaaDoor
namespace Go.Proofs.YtiihpbccabeoeaaDoor
open Go.RowKit Go.Joins

theorem dec_len (i : Nat) (hi : i < 100) : (Lib.decDigits i).length ≤ 2 := by
  rw [Lib.decDigits]
  split
  · simp
  · rw [Lib.decDigits, dif_pos (by omega)]
    simp

theorem dec_any (i : Nat) (hi : i < 100) (w : World) :
    Calls Tryd.prog 15 #[.int .i64 i] w fun e w' => (∃ D : ByteArray, e = .returned (.string D) ∧ D.data.toList = Lib.decDigits i ∧ D.size ≤ 2) ∧ w = w' := by
  have hl := dec_len i hi
  go_enter Tryd.func15, Tryd.ntmps15
  go_wp2_with (go_at_call 25; refine (Tryd.strconv_Itoa_small i hi _).mono ?_; rintro e w1 ⟨rfl, hw⟩; subst hw)
  go_ret
  exact ⟨⟨_, rfl, rfl, by simpa [ByteArray.size] using hl⟩, rfl⟩

theorem nextV3 (s : Int) : ∃ v : Nat, nextV s 3 = v ∧ v < 3 := by
  have h := nextV_bd s 3 (by decide)
  exact ⟨(nextV s 3).toNat, by omega, by omega⟩
theorem nextV4 (s : Int) : ∃ v : Nat, nextV s 4 = v ∧ v < 4 := by
  have h := nextV_bd s 4 (by decide)
  exact ⟨(nextV s 4).toNat, by omega, by omega⟩
theorem nextV6 (s : Int) : ∃ v : Nat, nextV s 6 = v ∧ v < 6 := by
  have h := nextV_bd s 6 (by decide)
  exact ⟨(nextV s 6).toNat, by omega, by omega⟩

/-- One need: its bytes and the state behind it. -/
def needF (i n : Nat) (s : Int) : List UInt8 × Int :=
  if i + 1 + (nextV s 3).toNat < n then ([32, 116] ++ Lib.decDigits (i + 1 + (nextV s 3).toNat), nextS s)
  else ([32, 115] ++ Lib.decDigits (nextV (nextS s) 3).toNat, nextS (nextS s))

theorem gtrans {a b c : World} {r : Option Nat} (h : a.grownBy b r) (k : b.grownBy c r) : a.grownBy c r :=
  ⟨k.1.trans h.1, k.2.trans h.2, k.3.trans h.3, Nat.le_trans h.4 k.4, fun x hx hne => (k.5 x (Nat.lt_of_lt_of_le hx h.4) hne).trans (h.5 x hx hne)⟩
theorem gset (w : World) (b : Nat) (v : Value) : w.grownBy (w.setCell ⟨b, 0, none⟩ v) (some b) :=
  ⟨rfl, rfl, rfl, by simp [World.setCell], fun k _ hk => Below.heap_setCell _ _ _ _ (fun e => hk (by simp [e]))⟩
theorem gdraw (w : World) (q : Nat) (r : Option Nat) : w.grownBy (w.drewN q) r := ⟨rfl, rfl, rfl, Nat.le_refl _, fun _ _ _ => rfl⟩
theorem LotAt.draw {w : World} {b : Nat} {s : Int} (h : LotAt w b s) (q : Nat) : LotAt (w.drewN q) b s := h
theorem LotAt.grown {w w' : World} {b : Nat} {s : Int} {r : Option Nat} (h : LotAt w b s) (g : w.grownBy w' r) (hne : some b ≠ r) : LotAt w' b s := by
  have hl := h.lt
  obtain ⟨T, h⟩ := h
  exact ⟨T, (g.block b hl hne).trans h⟩

theorem next_lot (b : Nat) (s n : Int) (w : World) (h : LotAt w b s) :
    Calls Tryd.prog 16 #[.pointer (some ⟨b, 0, none⟩), .int .i64 n] w fun e w' => e = .returned (.int .i64 (nextV s n)) ∧ LotAt w' b (nextS s) ∧ w.grownBy w' (some b) := by
  refine (next_any b s n w h).mono ?_
  rintro e w' ⟨rfl, rfl⟩
  exact ⟨rfl, h.set _, gset _ _ _⟩
theorem rnext_lot (b : Nat) (s n : Int) (w : World) (h : LotAt w b s) :
    Calls Tryd.prog 21 #[.pointer (some ⟨b, 0, none⟩), .int .i64 n] w fun e w' => e = .returned (.int .i64 (nextV s n)) ∧ LotAt w' b (nextS s) ∧ w.grownBy w' (some b) := by
  refine (rnext_any b s n w h).mono ?_
  rintro e w' ⟨rfl, rfl⟩
  exact ⟨rfl, h.set _, gset _ _ _⟩

theorem need_any (b i n : Nat) (s : Int) (w : World) (h : LotAt w b s) (hi : i < 50) (hn : n ≤ 50) :
    Calls Tryd.prog 17 #[.pointer (some ⟨b, 0, none⟩), .int .i64 i, .int .i64 n] w fun e w' => (∃ S : ByteArray, e = .returned (.string S) ∧ S.data.toList = (needF i n s).1) ∧ LotAt w' b (needF i n s).2 ∧ w.grownBy w' (some b) := by
  obtain ⟨v, hv, hv3⟩ := nextV3 s
  obtain ⟨u, hu, hu3⟩ := nextV3 (nextS s)
  by_cases hlt : i + 1 + v < n
  · have hF : needF i n s = ([32, 116] ++ Lib.decDigits (i + 1 + v), nextS s) := by
      unfold needF; rw [hv]; exact if_pos hlt
    have HF := Lib.hid hF; have HL := Lib.hid h; have HV := Lib.hid hv
    clear hF h hv hu
    go_enter Tryd.func17, Tryd.ntmps17
    go_wp2_with fail
    refine (next_lot b s 3 _ HL.out).mono ?_
    rintro e w1 ⟨rfl, hl1, hg1⟩
    rw [HV.out]
    have HL1 := Lib.hid hl1; have HG1 := Lib.hid hg1; clear hl1 hg1
    have e1 : (i : Int) + 1 + v = ((i + 1 + v : Nat) : Int) := by omega
    have E1 := Lib.hid e1; clear e1
    go_wp2_with (go_at_call 15; rw [E1.out]; refine (dec_any _ (by omega) _).mono ?_; rintro e w2 ⟨⟨D, rfl, hD, hDl⟩, rfl⟩; have HD := Lib.hid hD; clear hD)
    go_ret
    refine ⟨⟨_, rfl, ?_⟩, ?_⟩
    · rw [HF.out]; simp [HD.out]
    · rw [HF.out]; exact ⟨HL1.out, HG1.out⟩
  · have hF : needF i n s = ([32, 115] ++ Lib.decDigits u, nextS (nextS s)) := by
      unfold needF; rw [hv, hu]; exact if_neg hlt
    have HF := Lib.hid hF; have HL := Lib.hid h; have HV := Lib.hid hv; have HU := Lib.hid hu
    clear hF h hv hu
    go_enter Tryd.func17, Tryd.ntmps17
    go_wp2_with fail
    refine (next_lot b s 3 _ HL.out).mono ?_
    rintro e w1 ⟨rfl, hl1, hg1⟩
    rw [HV.out]
    have HL1 := Lib.hid hl1; have HG1 := Lib.hid hg1; clear hl1 hg1
    go_wp2_with fail
    refine (next_lot b _ 3 _ HL1.out).mono ?_
    rintro e w2 ⟨rfl, hl1, hg1⟩
    rw [HU.out]
    have HL2 := Lib.hid hl1; have HG2 := Lib.hid (gtrans HG1.out hg1); clear hl1 hg1
    go_wp2_with (go_at_call 15; refine (dec_any _ (by omega) _).mono ?_; rintro e w2 ⟨⟨D, rfl, hD, hDl⟩, rfl⟩; have HD := Lib.hid hD; clear hD)
    go_ret
    refine ⟨⟨_, rfl, ?_⟩, ?_⟩
    · rw [HF.out]; simp [HD.out]
    · rw [HF.out]; exact ⟨HL2.out, HG2.out⟩
end Go.Proofs.YtiihpbccabeoeaaDoor
namespace Go.Proofs.YtiihpbccabeoeaaDoor
open Go.RowKit Go.Joins

def needsF (i n : Nat) : Nat → Int → List UInt8 × Int
  | 0, s => ([], s)
  | k + 1, s => ((needsF i n k s).1 ++ (needF i n (needsF i n k s).2).1, (needF i n (needsF i n k s).2).2)
def tailF (i k : Nat) : List UInt8 :=
  if 0 < k then [10, 9, 99, 97, 116, 32, 36, 94, 32, 62, 32, 36, 64, 10] else [10, 9, 101, 99, 104, 111, 32] ++ Lib.decDigits i ++ [32, 62, 32, 36, 64, 10]
def headF (i : Nat) : List UInt8 := [116] ++ Lib.decDigits i ++ [58]
def tgtF (i n : Nat) (s : Int) : List UInt8 × Int :=
  (headF i ++ (needsF i n (nextV s 3).toNat (nextS s)).1 ++ tailF i (nextV s 3).toNat, (needsF i n (nextV s 3).toNat (nextS s)).2)
def makeF (n : Nat) : Nat → Int → List UInt8 × Int
  | 0, s => ([], s)
  | i + 1, s => ((makeF n i s).1 ++ (tgtF i n (makeF n i s).2).1, (tgtF i n (makeF n i s).2).2)

theorem needF_len (i n : Nat) (s : Int) (_ : i < 50) (hn : n ≤ 50) : (needF i n s).1.length ≤ 4 := by
  obtain ⟨u, hu, hu3⟩ := nextV3 (nextS s)
  unfold needF
  split
  · simp; have := dec_len (i + 1 + (nextV s 3).toNat) (by omega); omega
  · simp; have := dec_len (nextV (nextS s) 3).toNat (by rw [hu]; simp; omega); omega
theorem needsF_len (i n k : Nat) (s : Int) (hi : i < 50) (hn : n ≤ 50) : (needsF i n k s).1.length ≤ 4 * k := by
  induction k with
  | zero => simp [needsF]
  | succ k ih =>
    have := needF_len i n (needsF i n k s).2 hi hn
    simp only [needsF, List.length_append]; omega
theorem headF_len (i : Nat) (hi : i < 50) : (headF i).length ≤ 4 := by
  have := dec_len i (by omega)
  simp [headF]; omega
theorem tailF_len (i k : Nat) (hi : i < 50) : (tailF i k).length ≤ 20 := by
  have := dec_len i (by omega)
  unfold tailF
  split <;> simp <;> omega
theorem tgtF_len (i n : Nat) (s : Int) (hi : i < 50) (hn : n ≤ 50) : (tgtF i n s).1.length ≤ 40 := by
  obtain ⟨u, hu, hu3⟩ := nextV3 s
  have h1 := headF_len i hi
  have h2 := needsF_len i n (nextV s 3).toNat (nextS s) hi hn
  have h3 := tailF_len i (nextV s 3).toNat hi
  have : (nextV s 3).toNat = u := by rw [hu]; simp
  simp only [tgtF, List.length_append]; omega
theorem makeF_len (n i : Nat) (s : Int) (hi : i ≤ 50) (hn : n ≤ 50) : (makeF n i s).1.length ≤ 40 * i := by
  induction i with
  | zero => simp [makeF]
  | succ k ih =>
    have := tgtF_len k n (makeF n k s).2 (by omega) hn
    have := ih (by omega)
    simp only [makeF, List.length_append]; omega

def clamp (n : Int) (m : Nat) : Nat := min n.toNat m
theorem clamp_eq (n : Int) (m : Nat) : min (max 0 n) (m : Int) = (clamp n m : Int) := by
  unfold clamp; omega
theorem clamp_le (n : Int) (m : Nat) : clamp n m ≤ m := Nat.min_le_right _ _

/-- A builder that holds l, in blocks from B on. -/
def BuildAt (B : Nat) (l : List UInt8) (w : World) : Prop := Lib.IsBuilder 33 5 B B (Lib.byteCells l) w
theorem BuildAt.lt {B : Nat} {l : List UInt8} {w : World} (h : BuildAt B l w) : B < w.heap.size := by
  rcases h with h | h <;> exact h.lt
theorem BuildAt.grown {B L : Nat} {l : List UInt8} {w w' : World} (h : BuildAt B l w) (g : w.grownBy w' (some L)) (hL : L < B) : BuildAt B l w' := by
  have key : ∀ p, Lib.BuilderAt 33 5 B B p (Lib.byteCells l) w → Lib.BuilderAt 33 5 B B p (Lib.byteCells l) w' := by
    rintro p ⟨h1, v, h2, h3, h4⟩
    refine ⟨h1, v, (g.block B (Array.getElem?_eq_some_iff.1 h2).1 (by simp; omega)).trans h2, h3.kept g ?_, h4⟩
    cases hv : v.ownBlock with
    | none => exact Or.inl rfl
    | some x =>
      have := h3.lt x hv
      exact Or.inr (by simp; omega)
  rcases h with h | h
  · exact Or.inl (key _ h)
  · exact Or.inr (key _ h)
theorem BuildAt.new (w : World) : BuildAt w.heap.size [] (w.alloc (.cells #[.pointer none, .slice none 0 0] 33)) := Lib.fresh_isBuilder _ _ w
theorem write_build (B : Nat) (l : List UInt8) (s : ByteArray) (w : World) (h : BuildAt B l w) (hlen : l.length + s.size ≤ 140737488355328) :
    Calls Tryd.prog 11 #[.pointer (some ⟨B, 0, none⟩), .string s] w fun e w' => e = .returned (.tuple #[.int .i64 s.size, .nilIface]) ∧ BuildAt B (l ++ s.data.toList) w' ∧ Below B w w' :=
  write_str B B l s w h hlen (Nat.le_of_lt h.lt)
theorem string_build (B : Nat) (l : List UInt8) (w : World) (h : BuildAt B l w) :
    Calls Tryd.prog 13 #[.pointer (some ⟨B, 0, none⟩)] w fun e w' => e = .returned (.string ⟨l.toArray⟩) ∧ Below B w w' :=
  Tryd.Builder_String_any B B l w h (Nat.le_of_lt h.lt)

theorem makefile_any (s n : Int) (w : World) :
    Calls Tryd.prog 7 #[.int .i64 s, .int .i64 n] w fun e w' => e = .returned (.string ⟨(makeF (clamp n 50) (clamp n 50) (low s)).1.toArray⟩) ∧ Below w.heap.size w w' := by
  obtain ⟨z, hz⟩ : ∃ z, z = clamp n 50 := ⟨_, rfl⟩
  have hz50 : z ≤ 50 := by rw [hz]; exact clamp_le _ _
  have hzi : min (max 0 n) 50 = (z : Int) := by rw [hz]; exact clamp_eq n 50
  rw [← hz]
  have HZ := Lib.hid hzi; clear hz hzi
  obtain ⟨s0, hs0⟩ : ∃ s0, s0 = low s := ⟨_, rfl⟩
  go_enter Tryd.func7, Tryd.ntmps7
  go_wp2_with fail
  refine (new_any s _).mono ?_
  rintro e w1 ⟨rfl, T, rfl⟩
  rw [← hs0]
  have HS0 := Lib.hid hs0; clear hs0
  go_wp2_with fail
  rw [HZ.out]
  have hl0 := (LotAt.new w s0 T).alloc (.cells #[.pointer none, .slice none 0 0] 33)
  have hb0 := BuildAt.new (w.alloc (.cells #[.int .i64 s0] T))
  have hbel0 := below_alloc2 w (.cells #[.int .i64 s0] T) (.cells #[.pointer none, .slice none 0 0] 33)
  rw [show (w.alloc (.cells #[.int .i64 s0] T)).heap.size = w.heap.size + 1 by simp] at hb0
  obtain ⟨w2, hw2⟩ : ∃ w2, w2 = (w.alloc (.cells #[.int .i64 s0] T)).alloc (.cells #[.pointer none, .slice none 0 0] 33) := ⟨_, rfl⟩
  rw [← hw2] at hl0 hb0 hbel0 ⊢
  clear hw2
  have HL0 := Lib.hid hl0; have HB0 := Lib.hid hb0; have HBE0 := Lib.hid hbel0
  clear hl0 hb0 hbel0
  obtain ⟨L, hL⟩ : ∃ L, L = w.heap.size := ⟨_, rfl⟩
  rw [← hL] at HL0 HB0 HBE0 ⊢
  have HLW := Lib.hid hL; clear hL
  go_loopw [15] (fun i wr => ∃ k : Nat, k ≤ z ∧ i = .int .i64 k ∧ BuildAt (L + 1) (makeF z k s0).1 wr ∧ LotAt wr L (makeF z k s0).2 ∧ Below L w wr) (fun i _ => z - (intOf i).toNat)
  case atStart => exact ⟨0, Nat.zero_le _, rfl, HB0.out, HL0.out, HBE0.out⟩
  case round =>
    obtain ⟨k, hk, rfl, hb, hl, hbel⟩ := hrel
    clear HB0 HL0 HBE0
    by_cases hlt : k < z
    · have hml := makeF_len z k s0 (by omega) hz50
      obtain ⟨acc, hacc⟩ : ∃ acc, acc = (makeF z k s0).1 := ⟨_, rfl⟩
      obtain ⟨s1, hs1⟩ : ∃ s1, s1 = (makeF z k s0).2 := ⟨_, rfl⟩
      rw [← hacc] at hb hml
      rw [← hs1] at hl
      have HACC := Lib.hid hacc; have HS1 := Lib.hid hs1
      have HB := Lib.hid hb; have HL := Lib.hid hl; have HBE := Lib.hid hbel
      clear hacc hs1 hb hl hbel
      go_wp2_with fail
      refine (dec_any k (by omega) _).mono ?_
      rintro e w3 ⟨⟨D, rfl, hD, hDl⟩, rfl⟩
      have HD := Lib.hid hD; clear hD
      go_wp2_with fail
      refine (write_build (L + 1) acc _ _ HB.out (by simp [ByteArray.size_append, show (⟨#[116]⟩ : ByteArray).size = 1 from rfl, show (⟨#[58]⟩ : ByteArray).size = 1 from rfl]; omega)).mono ?_
      rintro e w4 ⟨rfl, hb, hbel⟩
      have hx : acc ++ (({ data := #[116] } : ByteArray) ++ D ++ { data := #[58] }).data.toList = acc ++ headF k := by simp [headF, HD.out]
      rw [hx] at hb
      have hl := HL.out.below hbel (by omega)
      replace HB := Lib.hid hb; replace HL := Lib.hid hl; replace HBE := Lib.hid (HBE.out.trans (hbel.mono (by omega)))
      clear hb hl hbel hx
      go_wp2_with fail
      refine (next_lot L s1 3 _ HL.out).mono ?_
      rintro e w5 ⟨rfl, hl, hg⟩
      obtain ⟨v, hv, hv3⟩ := nextV3 s1
      rw [hv]
      have HV := Lib.hid hv; clear hv
      replace HB := Lib.hid (HB.out.grown hg (by omega)); have hLt := HL.out.lt
      replace HL := Lib.hid hl
      replace HBE := Lib.hid (HBE.out.grown hg (by omega) (by simp))
      clear hl hg hLt
      have hF : tgtF k z s1 = (headF k ++ (needsF k z v (nextS s1)).1 ++ tailF k v, (needsF k z v (nextS s1)).2) := by
        unfold tgtF; rw [HV.out]; simp
      have HF := Lib.hid hF; clear hF
      obtain ⟨s2, hs2⟩ : ∃ s2, s2 = nextS s1 := ⟨_, rfl⟩
      rw [← hs2] at HF HL
      clear hs2
      go_wp2_with fail
      go_loopw [26] (fun i wr => ∃ j : Nat, j ≤ v ∧ i = .int .i64 j ∧ BuildAt (L + 1) (acc ++ headF k ++ (needsF k z j s2).1) wr ∧ LotAt wr L (needsF k z j s2).2 ∧ Below L w wr) (fun i _ => v - (intOf i).toNat)
      case atStart => exact ⟨0, Nat.zero_le _, rfl, by simpa [needsF] using HB.out, HL.out, HBE.out⟩
      case round =>
        obtain ⟨j, hj, rfl, hb, hl, hbel⟩ := hrel
        clear HB HL HBE
        have hnl := needsF_len k z j s2 (by omega) hz50
        have hhl := headF_len k (by omega)
        by_cases hlt2 : j < v
        · obtain ⟨acc2, hacc2⟩ : ∃ acc2, acc2 = (needsF k z j s2).1 := ⟨_, rfl⟩
          obtain ⟨s3, hs3⟩ : ∃ s3, s3 = (needsF k z j s2).2 := ⟨_, rfl⟩
          rw [← hacc2] at hb hnl
          rw [← hs3] at hl
          have hfl := needF_len k z s3 (by omega) hz50
          have HACC2 := Lib.hid hacc2; have HS3 := Lib.hid hs3
          have HB := Lib.hid hb; have HL := Lib.hid hl; have HBE := Lib.hid hbel
          clear hacc2 hs3 hb hl hbel
          go_wp2_with fail
          refine (need_any L k z s3 _ HL.out (by omega) hz50).mono ?_
          rintro e w6 ⟨⟨S, rfl, hS⟩, hl, hg⟩
          have hLt := HL.out.lt
          have hSl : S.size ≤ 4 := by rw [Lib.size_eq, hS]; exact hfl
          have HS := Lib.hid hS; clear hS
          replace HL := Lib.hid hl
          replace HB := Lib.hid (HB.out.grown hg (by omega))
          replace HBE := Lib.hid (HBE.out.grown hg (by omega) (by simp))
          clear hl hg hLt
          go_wp2_with fail
          refine (write_build (L + 1) _ _ _ HB.out (by simp; omega)).mono ?_
          rintro e w7 ⟨rfl, hb, hbel⟩
          have hl := HL.out.below hbel (by omega)
          replace HB := Lib.hid hb; replace HL := Lib.hid hl; replace HBE := Lib.hid (HBE.out.trans (hbel.mono (by omega)))
          clear hb hl hbel
          go_wp2_with fail
          go_roundw
          case rel => exact ⟨j + 1, by omega, by go_num, by simp only [needsF]; rw [← HACC2.out, ← HS3.out, ← HS.out, ← List.append_assoc]; exact HB.out, by simp only [needsF]; rw [← HS3.out]; exact HL.out, HBE.out⟩
          case measure => simp [intOf]; omega
        · obtain rfl : j = v := by omega
          have HB := Lib.hid hb; have HL := Lib.hid hl; have HBE := Lib.hid hbel
          clear hb hl hbel
          by_cases hv0 : 0 < j
          · have hT : tailF k j = [10, 9, 99, 97, 116, 32, 36, 94, 32, 62, 32, 36, 64, 10] := by unfold tailF; rw [if_pos hv0]
            have HT := Lib.hid hT; clear hT
            go_wp2_with fail
            refine (write_build (L + 1) _ _ _ HB.out (by simp; (try simp [ByteArray.size]); omega)).mono ?_
            rintro e w7 ⟨rfl, hb, hbel⟩
            have hl := HL.out.below hbel (by omega)
            replace HB := Lib.hid hb; replace HL := Lib.hid hl; replace HBE := Lib.hid (HBE.out.trans (hbel.mono (by omega)))
            clear hb hl hbel
            go_wp2_with fail
            go_roundw
            case rel => exact ⟨k + 1, by omega, by go_num, by simp only [makeF]; rw [← HACC.out, ← HS1.out, HF.out, HT.out, ← List.append_assoc, ← List.append_assoc]; exact HB.out, by simp only [makeF]; rw [← HS1.out, HF.out]; exact HL.out, HBE.out⟩
            case measure => simp [intOf]; omega
          · have hT : tailF k j = [10, 9, 101, 99, 104, 111, 32] ++ Lib.decDigits k ++ [32, 62, 32, 36, 64, 10] := by unfold tailF; rw [if_neg hv0]
            have HT := Lib.hid hT; clear hT
            go_wp2_with fail
            refine (dec_any k (by omega) _).mono ?_
            rintro e w7 ⟨⟨D2, rfl, hD2, hD2l⟩, rfl⟩
            have HD2 := Lib.hid hD2; clear hD2
            go_wp2_with fail
            refine (write_build (L + 1) _ _ _ HB.out (by simp [ByteArray.size_append, show (⟨#[10, 9, 101, 99, 104, 111, 32]⟩ : ByteArray).size = 7 from rfl, show (⟨#[32, 62, 32, 36, 64, 10]⟩ : ByteArray).size = 6 from rfl]; omega)).mono ?_
            rintro e w7 ⟨rfl, hb, hbel⟩
            have hl := HL.out.below hbel (by omega)
            replace HB := Lib.hid hb; replace HL := Lib.hid hl; replace HBE := Lib.hid (HBE.out.trans (hbel.mono (by omega)))
            clear hb hl hbel
            go_wp2_with fail
            go_roundw
            case rel => exact ⟨k + 1, by omega, by go_num, by simp only [makeF]; rw [← HACC.out, ← HS1.out, HF.out, HT.out, ← List.append_assoc, ← List.append_assoc]; simpa [HD2.out] using HB.out, by simp only [makeF]; rw [← HS1.out, HF.out]; exact HL.out, HBE.out⟩
            case measure => simp [intOf]; omega
    · obtain rfl : k = z := by omega
      have HB := Lib.hid hb; have HBE := Lib.hid hbel
      clear hb hl hbel
      go_wp2_with fail
      refine (string_build (L + 1) _ _ HB.out).mono ?_
      rintro e w8 ⟨rfl, hbel⟩
      replace HBE := Lib.hid (HBE.out.trans (hbel.mono (by omega)))
      clear hbel
      go_wp2_with fail
      go_ret
      exact ⟨by rw [← HS0.out]; rfl, by rw [← HLW.out]; exact HBE.out⟩
end Go.Proofs.YtiihpbccabeoeaaDoor
