/-
  The contracts of strings.Builder at this dump.
-/
import Derived.Test.YtlaijghfcbjbpaaDoorBase
import Derived.Test.YtlaijghfcbjbpaaDoorShelf
import Derived.Shelf.Strings.Builder1
namespace Go.Proofs.YtlaijghfcbjbpaaDoor
open Go.RowKit

theorem lays166 : Go.Proofs.Lays.n166 Tryd.prog Tryd.lays156_ren := { Tryd.lays156 with }

theorem write_str (B b : Nat) (l : List UInt8) (s : ByteArray) (w : World) (h : Lib.IsBuilder 57 5 B b (Lib.byteCells l) w) (hlen : l.length + s.size ≤ 140737488355328) (hBw : B ≤ w.heap.size) :
    Calls Tryd.prog 37 #[.pointer (some ⟨b, 0, none⟩), .string s] w fun e w' => e = .returned (.tuple #[.int .i64 s.size, .nilIface]) ∧ Lib.IsBuilder 57 5 B b (Lib.byteCells (l ++ s.data.toList)) w' ∧ Below B w w' := by
  refine (Any.Builder_WriteString lays166 Tryd.Builder_Extra_156 B b (Lib.byteCells l) s w h (by rw [Lib.byteCells_length]; exact hlen) hBw).mono ?_
  rintro e w' ⟨rfl, h1, h2⟩
  rw [Lib.strCells_eq, ← Lib.byteCells_append] at h1
  exact ⟨rfl, Or.inr h1, h2⟩
end Go.Proofs.YtlaijghfcbjbpaaDoor
