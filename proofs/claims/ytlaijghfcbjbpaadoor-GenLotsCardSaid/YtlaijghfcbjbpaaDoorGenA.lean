/-
  The contracts of the two lots: New, Next.
-/
import Derived.Test.YtlaijghfcbjbpaaDoorBase
import Derived.WalkArith
import Derived.Lib.SmallJoins
namespace Go.Proofs.YtlaijghfcbjbpaaDoor
open Go.RowKit Go.Joins

/-- The low 32 bits. -/
def low (s : Int) : Int := bits .and .i64 s 4294967295
theorem low_bd (x : Int) : 0 ≤ low x ∧ low x ≤ 4294967295 := by
  unfold low
  simp only [bits, BitVec.toNat_and]
  have h : (BitVec.ofInt IntKind.i64.bits x).toNat &&& (BitVec.ofInt IntKind.i64.bits 4294967295).toNat ≤ 4294967295 := Nat.le_trans Nat.and_le_right (by decide)
  generalize (BitVec.ofInt IntKind.i64.bits x).toNat &&& (BitVec.ofInt IntKind.i64.bits 4294967295).toNat = n at *
  rw [IntKind.wrap_i64]
  omega

/-- The state behind a state. -/
def nextS (s : Int) : Int := low (wrap64 (wrap64 (s * 1664525) + 1013904223))
theorem nextS_bd (x : Int) : 0 ≤ nextS x ∧ nextS x ≤ 4294967295 := low_bd _
/-- The number below n that a state tells. -/
def nextV (s n : Int) : Int := if n < 1 then 0 else (nextS s / 256).tmod n
theorem nextV_bd (s n : Int) (hn : 1 ≤ n) : 0 ≤ nextV s n ∧ nextV s n < n := by
  unfold nextV
  rw [if_neg (by omega)]
  have h := nextS_bd s
  have h0 : 0 ≤ nextS s / 256 := by omega
  rw [Int.tmod_eq_emod_of_nonneg h0]
  exact ⟨Int.emod_nonneg _ (by omega), Int.emod_lt_of_pos _ (by omega)⟩

/-- A lot in block b. -/
def LotAt (w : World) (b : Nat) (s : Int) : Prop := ∃ T, w.heap[b]? = some (.cells #[.int .i64 s] T (0, 0))
theorem LotAt.cell {w : World} {b : Nat} {s : Int} (h : LotAt w b s) : w.cell? ⟨b, 0, none⟩ = some (.int .i64 s) := by
  obtain ⟨T, h⟩ := h
  simp [World.cell?, h]
theorem LotAt.frozen {w : World} {b : Nat} {s : Int} (h : LotAt w b s) : w.frozen? ⟨b, 0, none⟩ = false := by
  obtain ⟨T, h⟩ := h
  simp [World.frozen?, h]
theorem LotAt.lt {w : World} {b : Nat} {s : Int} (h : LotAt w b s) : b < w.heap.size := by
  obtain ⟨T, h⟩ := h
  exact (Array.getElem?_eq_some_iff.1 h).1
theorem LotAt.set {w : World} {b : Nat} {s : Int} (h : LotAt w b s) (t : Int) : LotAt (w.setCell ⟨b, 0, none⟩ (.int .i64 t)) b t := by
  obtain ⟨T, h⟩ := h
  refine ⟨T, ?_⟩
  simp [World.setCell, Array.getElem?_modify, h]
theorem LotAt.other {w : World} {b c : Nat} {s : Int} (h : LotAt w b s) (hne : b ≠ c) (v : Value) : LotAt (w.setCell ⟨c, 0, none⟩ v) b s := by
  obtain ⟨T, h⟩ := h
  exact ⟨T, (Below.heap_setCell _ _ _ _ (fun e => hne e)).trans h⟩
theorem LotAt.below {w w' : World} {B b : Nat} {s : Int} (h : LotAt w b s) (hb : Below B w w') (hlt : b < B) : LotAt w' b s := by
  obtain ⟨T, h⟩ := h
  exact ⟨T, (hb.block b hlt).trans h⟩
theorem LotAt.new (w : World) (s : Int) (T : TypeId) : LotAt (w.alloc (.cells #[.int .i64 s] T)) w.heap.size s := ⟨T, heap_alloc_new w _⟩
theorem LotAt.alloc {w : World} {b : Nat} {s : Int} (h : LotAt w b s) (o : Obj) : LotAt (w.alloc o) b s := by
  have hl := h.lt
  obtain ⟨T, h⟩ := h
  exact ⟨T, (heap_alloc_old w o hl).trans h⟩

def NextPost (w : World) (b : Nat) (s n : Int) (e : Ending) (w' : World) : Prop := e = .returned (.int .i64 (nextV s n)) ∧ w' = w.setCell ⟨b, 0, none⟩ (.int .i64 (nextS s))

theorem next_any (b : Nat) (s n : Int) (w : World) (h : LotAt w b s) :
    Calls Tryd.prog 14 #[.pointer (some ⟨b, 0, none⟩), .int .i64 n] w (NextPost w b s n) := by
  have hc := h.cell
  have hf := h.frozen
  clear h
  by_cases hn : n < 1
  · go_enter Tryd.func14, Tryd.ntmps14
    go_wp2
    go_ret
    exact ⟨by rw [nextV, if_pos hn]; rfl, rfl⟩
  · go_enter Tryd.func14, Tryd.ntmps14
    go_wp2
    go_ret
    exact ⟨by rw [nextV, if_neg (by omega)]; rfl, rfl⟩
theorem rnext_any (b : Nat) (s n : Int) (w : World) (h : LotAt w b s) :
    Calls Tryd.prog 15 #[.pointer (some ⟨b, 0, none⟩), .int .i64 n] w (NextPost w b s n) := by
  have hc := h.cell
  have hf := h.frozen
  clear h
  by_cases hn : n < 1
  · go_enter Tryd.func15, Tryd.ntmps15
    go_wp2
    go_ret
    exact ⟨by rw [nextV, if_pos hn]; rfl, rfl⟩
  · go_enter Tryd.func15, Tryd.ntmps15
    go_wp2
    go_ret
    exact ⟨by rw [nextV, if_neg (by omega)]; rfl, rfl⟩
def NewPost (w : World) (s : Int) (e : Ending) (w' : World) : Prop := e = .returned (.pointer (some ⟨w.heap.size, 0, none⟩)) ∧ ∃ T, w' = w.alloc (.cells #[.int .i64 (low s)] T)
theorem new_any (s : Int) (w : World) : Calls Tryd.prog 12 #[.int .i64 s] w (NewPost w s) := by
  go_enter Tryd.func12, Tryd.ntmps12
  go_wp2
  go_ret
  exact ⟨rfl, _, rfl⟩
theorem rnew_any (s : Int) (w : World) : Calls Tryd.prog 13 #[.int .i64 s] w (NewPost w s) := by
  go_enter Tryd.func13, Tryd.ntmps13
  go_wp2
  go_ret
  exact ⟨rfl, _, rfl⟩
end Go.Proofs.YtlaijghfcbjbpaaDoor
