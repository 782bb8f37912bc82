/-
  DERIVED. GIVEN WITH THE SEED: THE CARDS: each row of YtcahifkiiabioaaDoorRows.lean that lists a variable, with what it lists TIED to the program's text (the seventh form; the later family's looks); each row that meets fmt, with fmt's text TOLD by the authors' own Lean function (tested against real Go, not proved from fmt's source: count such statements apart). THE CARD IS WHAT COUNTS. Prove the row's statement (the work); the ties are given (YtcahifkiiabioaaDoorTie.lean); close each card by the builder's one call (the guide's Derived/Test/ToyasCard.lean, 'card_holds'). Laid BY PROGRAM, IN A SANDBOX (cutbox-door.mjs). By AI agents, Wed Nov 11 2026. No macro, syntax, notation, axiom, sorry.
-/
import Derived.Test.YtcahifkiiabioaaDoorRows
import GoSem.ClaimSeven
namespace Go.Proofs.YtcahifkiiabioaaDoor
namespace Rows

/-- THE TIED CARD OF 'quartermasterlaw9.ParseWrong'. -/
def parseWrongCard : Claim7 := { stood := { row := parseWrongRow, standIns := [], harness := (true, "a06cafd69d68812c0d9d46c6fd5093b312ccf6bc6ddd71e32ff389fe063de48f"), looks := true }, kinds := [], alts := [], laidByText := true, laidKinds := [.listed, .data], laidTests := true, laidLooks := .later }
def ParseWrongCardSaid : Prop := Claim7.holds Tryd.pinned (.plain (OpenSpec.ofChange parseWrongSpec)) parseWrongCard

/-- THE TIED CARD OF 'quartermasterlaw9.ParseDeep'. -/
def parseDeepCard : Claim7 := { stood := { row := parseDeepRow, standIns := [], harness := (true, "a06cafd69d68812c0d9d46c6fd5093b312ccf6bc6ddd71e32ff389fe063de48f"), looks := true }, kinds := [], alts := [], laidByText := true, laidKinds := [.listed, .data], laidTests := true, laidLooks := .later }
def ParseDeepCardSaid : Prop := Claim7.holds Tryd.pinned (.plain (OpenSpec.ofChange parseDeepSpec)) parseDeepCard

/-- THE TIED CARD OF 'quartermasterlaw9.ParseChains'. -/
def parseChainsCard : Claim7 := { stood := { row := parseChainsRow, standIns := [], harness := (true, "a06cafd69d68812c0d9d46c6fd5093b312ccf6bc6ddd71e32ff389fe063de48f"), looks := true }, kinds := [], alts := [], laidByText := true, laidKinds := [.listed, .data], laidTests := true, laidLooks := .later }
def ParseChainsCardSaid : Prop := Claim7.holds Tryd.pinned (.plain (OpenSpec.ofChange parseChainsSpec)) parseChainsCard

/-- THE TIED CARD OF 'quartermasterlaw9.ParseSimple'. -/
def parseSimpleCard : Claim7 := { stood := { row := parseSimpleRow, standIns := [], harness := (true, "a06cafd69d68812c0d9d46c6fd5093b312ccf6bc6ddd71e32ff389fe063de48f"), looks := true }, kinds := [], alts := [], laidByText := true, laidKinds := [.listed, .data], laidTests := true, laidLooks := .later }
def ParseSimpleCardSaid : Prop := Claim7.holds Tryd.pinned (.plain (OpenSpec.ofChange parseSimpleSpec)) parseSimpleCard

/-- THE TIED CARD OF 'quartermasterlaw9.ParseWords'. -/
def parseWordsCard : Claim7 := { stood := { row := parseWordsRow, standIns := [], harness := (true, "a06cafd69d68812c0d9d46c6fd5093b312ccf6bc6ddd71e32ff389fe063de48f"), looks := true }, kinds := [], alts := [], laidByText := true, laidKinds := [.listed, .data], laidTests := true, laidLooks := .later }
def ParseWordsCardSaid : Prop := Claim7.holds Tryd.pinned (.plain (OpenSpec.ofChange parseWordsSpec)) parseWordsCard

/-- THE TIED CARD OF 'quartermasterlaw9.ParseEmpty'. -/
def parseEmptyCard : Claim7 := { stood := { row := parseEmptyRow, standIns := [], harness := (true, "a06cafd69d68812c0d9d46c6fd5093b312ccf6bc6ddd71e32ff389fe063de48f"), looks := true }, kinds := [], alts := [], laidByText := true, laidKinds := [.listed, .data], laidTests := true, laidLooks := .later }
def ParseEmptyCardSaid : Prop := Claim7.holds Tryd.pinned (.plain (OpenSpec.ofChange parseEmptySpec)) parseEmptyCard

/-- THE SECOND FORM's CARD OF 'quartermasterlaw9.ParseWrong'. -/
def parseWrongUptoCard : Claim7 := { stood := { row := parseWrongUptoRow, standIns := [], harness := (true, "a06cafd69d68812c0d9d46c6fd5093b312ccf6bc6ddd71e32ff389fe063de48f"), looks := true }, kinds := [], alts := [], laidByText := true, laidKinds := [.listed, .data], laidTests := true, laidLooks := .later }
def ParseWrongUptoCardSaid : Prop := Claim7.holds Tryd.pinned (.plain (OpenSpec.upto parseWrongSpec)) parseWrongUptoCard

/-- THE SECOND FORM's CARD OF 'quartermasterlaw9.ParseDeep'. -/
def parseDeepUptoCard : Claim7 := { stood := { row := parseDeepUptoRow, standIns := [], harness := (true, "a06cafd69d68812c0d9d46c6fd5093b312ccf6bc6ddd71e32ff389fe063de48f"), looks := true }, kinds := [], alts := [], laidByText := true, laidKinds := [.listed, .data], laidTests := true, laidLooks := .later }
def ParseDeepUptoCardSaid : Prop := Claim7.holds Tryd.pinned (.plain (OpenSpec.upto parseDeepSpec)) parseDeepUptoCard

/-- THE SECOND FORM's CARD OF 'quartermasterlaw9.ParseChains'. -/
def parseChainsUptoCard : Claim7 := { stood := { row := parseChainsUptoRow, standIns := [], harness := (true, "a06cafd69d68812c0d9d46c6fd5093b312ccf6bc6ddd71e32ff389fe063de48f"), looks := true }, kinds := [], alts := [], laidByText := true, laidKinds := [.listed, .data], laidTests := true, laidLooks := .later }
def ParseChainsUptoCardSaid : Prop := Claim7.holds Tryd.pinned (.plain (OpenSpec.upto parseChainsSpec)) parseChainsUptoCard

/-- THE SECOND FORM's CARD OF 'quartermasterlaw9.ParseSimple'. -/
def parseSimpleUptoCard : Claim7 := { stood := { row := parseSimpleUptoRow, standIns := [], harness := (true, "a06cafd69d68812c0d9d46c6fd5093b312ccf6bc6ddd71e32ff389fe063de48f"), looks := true }, kinds := [], alts := [], laidByText := true, laidKinds := [.listed, .data], laidTests := true, laidLooks := .later }
def ParseSimpleUptoCardSaid : Prop := Claim7.holds Tryd.pinned (.plain (OpenSpec.upto parseSimpleSpec)) parseSimpleUptoCard

/-- THE SECOND FORM's CARD OF 'quartermasterlaw9.ParseWords'. -/
def parseWordsUptoCard : Claim7 := { stood := { row := parseWordsUptoRow, standIns := [], harness := (true, "a06cafd69d68812c0d9d46c6fd5093b312ccf6bc6ddd71e32ff389fe063de48f"), looks := true }, kinds := [], alts := [], laidByText := true, laidKinds := [.listed, .data], laidTests := true, laidLooks := .later }
def ParseWordsUptoCardSaid : Prop := Claim7.holds Tryd.pinned (.plain (OpenSpec.upto parseWordsSpec)) parseWordsUptoCard

/-- THE SECOND FORM's CARD OF 'quartermasterlaw9.ParseEmpty'. -/
def parseEmptyUptoCard : Claim7 := { stood := { row := parseEmptyUptoRow, standIns := [], harness := (true, "a06cafd69d68812c0d9d46c6fd5093b312ccf6bc6ddd71e32ff389fe063de48f"), looks := true }, kinds := [], alts := [], laidByText := true, laidKinds := [.listed, .data], laidTests := true, laidLooks := .later }
def ParseEmptyUptoCardSaid : Prop := Claim7.holds Tryd.pinned (.plain (OpenSpec.upto parseEmptySpec)) parseEmptyUptoCard
end Rows
end Go.Proofs.YtcahifkiiabioaaDoor
