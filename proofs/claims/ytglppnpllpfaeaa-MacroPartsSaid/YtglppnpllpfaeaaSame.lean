/-
  Small words for slices that a call makes.
-/
import Derived.Test.YtglppnpllpfaeaaRefB
import Derived.Test.YtglppnpllpfaeaaSlices
import Derived.Deep.QuietTactic
import Derived.BigQuiet
import Derived.Lib.SmallJoins
namespace Go.Proofs.Ytglppnpllpfaeaa
open Go.RowKit

theorem bytes_ne {x y : ByteArray} (h : x ≠ y) : (x.toList == y.toList) = false := by
  rw [Lib.toList_data, Lib.toList_data, beq_eq_false_iff_ne]
  intro e
  exact h (by rw [← Lib.mk_data x, e, Lib.mk_data y])

def RetQuiet (v : Value) (w : World) (e : Ending) (w' : World) : Prop := e = .returned v ∧ ∃ q, w' = w.drewN q

end Go.Proofs.Ytglppnpllpfaeaa
