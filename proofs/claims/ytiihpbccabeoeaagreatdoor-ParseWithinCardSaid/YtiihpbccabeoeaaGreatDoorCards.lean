/-
  DERIVED. GIVEN WITH THE SEED: THE CARDS: each row of YtiihpbccabeoeaaGreatDoorRows.lean that lists a variable, with what it lists TIED to the program's text (the seventh form; the later family's looks); each row that meets fmt, with fmt's text TOLD by the authors' own Lean function (tested against real Go, not proved from fmt's source: count such statements apart). THE CARD IS WHAT COUNTS. Prove the row's statement (the work); the ties are given (YtiihpbccabeoeaaGreatDoorTie.lean); close each card by the builder's one call (the guide's Derived/Test/ToyasCard.lean, 'card_holds'). Laid BY PROGRAM, IN A SANDBOX (cutbox-door.mjs). By AI agents, Wed Nov 11 2026. No macro, syntax, notation, axiom, sorry.
-/
import Derived.Test.YtiihpbccabeoeaaGreatDoorRows
import GoSem.ClaimSeven
namespace Go.Proofs.YtiihpbccabeoeaaGreatDoor
namespace Rows

/-- THE TIED CARD OF 'quartermasterlaw10.ShowScripts'. -/
def showScriptsCard : Claim7 := { stood := { row := showScriptsRow, standIns := [], harness := (true, "43c98ced0c77b08f14e54690c21682160271f2b2ed43e3b2cee2bda313293542"), looks := true }, kinds := [], alts := [], laidByText := true, laidKinds := [.data, .pinned], laidTests := true, laidLooks := .later }
def ShowScriptsCardSaid : Prop := Claim7.holds Tryz.pinned (.plain (OpenSpec.ofChange showScriptsSpec)) showScriptsCard

/-- THE TIED CARD OF 'quartermasterlaw10.ShowWords'. -/
def showWordsCard : Claim7 := { stood := { row := showWordsRow, standIns := [], harness := (true, "43c98ced0c77b08f14e54690c21682160271f2b2ed43e3b2cee2bda313293542"), looks := true }, kinds := [], alts := [], laidByText := true, laidKinds := [.data, .pinned], laidTests := true, laidLooks := .later }
def ShowWordsCardSaid : Prop := Claim7.holds Tryz.pinned (.plain (OpenSpec.ofChange showWordsSpec)) showWordsCard

/-- THE TIED CARD OF 'quartermasterlaw10.ShowSame'. -/
def showSameCard : Claim7 := { stood := { row := showSameRow, standIns := [], harness := (true, "43c98ced0c77b08f14e54690c21682160271f2b2ed43e3b2cee2bda313293542"), looks := true }, kinds := [], alts := [], laidByText := true, laidKinds := [.data, .pinned], laidTests := true, laidLooks := .later }
def ShowSameCardSaid : Prop := Claim7.holds Tryz.pinned (.plain (OpenSpec.ofChange showSameSpec)) showSameCard

/-- THE TIED CARD OF 'quartermasterlaw9.ParseLists'. -/
def parseListsCard : Claim7 := { stood := { row := parseListsRow, standIns := [], harness := (true, "43c98ced0c77b08f14e54690c21682160271f2b2ed43e3b2cee2bda313293542"), looks := true }, kinds := [], alts := [], laidByText := true, laidKinds := [.listed, .data], laidTests := true, laidLooks := .later }
def ParseListsCardSaid : Prop := Claim7.holds Tryz.pinned (.plain (OpenSpec.ofChange parseListsSpec)) parseListsCard

/-- THE TIED CARD OF 'quartermasterlaw9.ParseWithin'. -/
def parseWithinCard : Claim7 := { stood := { row := parseWithinRow, standIns := [], harness := (true, "43c98ced0c77b08f14e54690c21682160271f2b2ed43e3b2cee2bda313293542"), looks := true }, kinds := [], alts := [], laidByText := true, laidKinds := [.listed, .data], laidTests := true, laidLooks := .later }
def ParseWithinCardSaid : Prop := Claim7.holds Tryz.pinned (.plain (OpenSpec.ofChange parseWithinSpec)) parseWithinCard

/-- THE SECOND FORM's CARD OF 'quartermasterlaw10.ShowScripts'. -/
def showScriptsUptoCard : Claim7 := { stood := { row := showScriptsUptoRow, standIns := [], harness := (true, "43c98ced0c77b08f14e54690c21682160271f2b2ed43e3b2cee2bda313293542"), looks := true }, kinds := [], alts := [], laidByText := true, laidKinds := [.data, .pinned], laidTests := true, laidLooks := .later }
def ShowScriptsUptoCardSaid : Prop := Claim7.holds Tryz.pinned (.plain (OpenSpec.upto showScriptsSpec)) showScriptsUptoCard

/-- THE SECOND FORM's CARD OF 'quartermasterlaw10.ShowWords'. -/
def showWordsUptoCard : Claim7 := { stood := { row := showWordsUptoRow, standIns := [], harness := (true, "43c98ced0c77b08f14e54690c21682160271f2b2ed43e3b2cee2bda313293542"), looks := true }, kinds := [], alts := [], laidByText := true, laidKinds := [.data, .pinned], laidTests := true, laidLooks := .later }
def ShowWordsUptoCardSaid : Prop := Claim7.holds Tryz.pinned (.plain (OpenSpec.upto showWordsSpec)) showWordsUptoCard

/-- THE SECOND FORM's CARD OF 'quartermasterlaw10.ShowSame'. -/
def showSameUptoCard : Claim7 := { stood := { row := showSameUptoRow, standIns := [], harness := (true, "43c98ced0c77b08f14e54690c21682160271f2b2ed43e3b2cee2bda313293542"), looks := true }, kinds := [], alts := [], laidByText := true, laidKinds := [.data, .pinned], laidTests := true, laidLooks := .later }
def ShowSameUptoCardSaid : Prop := Claim7.holds Tryz.pinned (.plain (OpenSpec.upto showSameSpec)) showSameUptoCard

/-- THE SECOND FORM's CARD OF 'quartermasterlaw9.ParseLists'. -/
def parseListsUptoCard : Claim7 := { stood := { row := parseListsUptoRow, standIns := [], harness := (true, "43c98ced0c77b08f14e54690c21682160271f2b2ed43e3b2cee2bda313293542"), looks := true }, kinds := [], alts := [], laidByText := true, laidKinds := [.listed, .data], laidTests := true, laidLooks := .later }
def ParseListsUptoCardSaid : Prop := Claim7.holds Tryz.pinned (.plain (OpenSpec.upto parseListsSpec)) parseListsUptoCard

/-- THE SECOND FORM's CARD OF 'quartermasterlaw9.ParseWithin'. -/
def parseWithinUptoCard : Claim7 := { stood := { row := parseWithinUptoRow, standIns := [], harness := (true, "43c98ced0c77b08f14e54690c21682160271f2b2ed43e3b2cee2bda313293542"), looks := true }, kinds := [], alts := [], laidByText := true, laidKinds := [.listed, .data], laidTests := true, laidLooks := .later }
def ParseWithinUptoCardSaid : Prop := Claim7.holds Tryz.pinned (.plain (OpenSpec.upto parseWithinSpec)) parseWithinUptoCard
end Rows
end Go.Proofs.YtiihpbccabeoeaaGreatDoor
