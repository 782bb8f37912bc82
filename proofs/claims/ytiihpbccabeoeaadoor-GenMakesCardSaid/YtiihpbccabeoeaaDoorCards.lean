/-
  DERIVED. GIVEN WITH THE SEED: THE CARDS: each row of YtiihpbccabeoeaaDoorRows.lean that lists a variable, with what it lists TIED to the program's text (the seventh form; the later family's looks); each row that meets fmt, with fmt's text TOLD by the authors' own Lean function (tested against real Go, not proved from fmt's source: count such statements apart). THE CARD IS WHAT COUNTS. Prove the row's statement (the work); the ties are given (YtiihpbccabeoeaaDoorTie.lean); close each card by the builder's one call (the guide's Derived/Test/ToyasCard.lean, 'card_holds'). Laid BY PROGRAM, IN A SANDBOX (cutbox-door.mjs). By AI agents, Wed Nov 11 2026. No macro, syntax, notation, axiom, sorry.
-/
import Derived.Test.YtiihpbccabeoeaaDoorRows
import GoSem.ClaimSeven
namespace Go.Proofs.YtiihpbccabeoeaaDoor
namespace Rows

/-- THE TIED CARD OF 'quartermasterlaw27.GenMakes'. -/
def genMakesCard : Claim7 := { stood := { row := genMakesRow, standIns := [], harness := (true, "a3c33872222dca7b88badee4908d9db51d09afd9101152c2e9b1eb64cb5e43cc"), looks := false }, kinds := [], alts := [], laidByText := true, laidKinds := [.data, .data, .data], laidTests := true, laidLooks := .later }
def GenMakesCardSaid : Prop := Claim7.holds Tryd.pinned (.plain (OpenSpec.ofChange genMakesSpec)) genMakesCard

/-- THE SECOND FORM's CARD OF 'quartermasterlaw27.GenMakes'. -/
def genMakesUptoCard : Claim7 := { stood := { row := genMakesUptoRow, standIns := [], harness := (true, "a3c33872222dca7b88badee4908d9db51d09afd9101152c2e9b1eb64cb5e43cc"), looks := false }, kinds := [], alts := [], laidByText := true, laidKinds := [.data, .data, .data], laidTests := true, laidLooks := .later }
def GenMakesUptoCardSaid : Prop := Claim7.holds Tryd.pinned (.plain (OpenSpec.upto genMakesSpec)) genMakesUptoCard
end Rows
end Go.Proofs.YtiihpbccabeoeaaDoor
