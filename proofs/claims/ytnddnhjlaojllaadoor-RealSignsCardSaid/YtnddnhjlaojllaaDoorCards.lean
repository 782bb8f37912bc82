/-
  DERIVED. GIVEN WITH THE SEED: THE CARDS: each row of YtnddnhjlaojllaaDoorRows.lean that lists a variable, with what it lists TIED to the program's text (the seventh form; the later family's looks); each row that meets fmt, with fmt's text TOLD by the authors' own Lean function (tested against real Go, not proved from fmt's source: count such statements apart). THE CARD IS WHAT COUNTS. Prove the row's statement (the work); the ties are given (YtnddnhjlaojllaaDoorTie.lean); close each card by the builder's one call (the guide's Derived/Test/ToyasCard.lean, 'card_holds'). Laid BY PROGRAM, IN A SANDBOX (cutbox-door.mjs). By AI agents, Wed Nov 11 2026. No macro, syntax, notation, axiom, sorry.
-/
import Derived.Test.YtnddnhjlaojllaaDoorRows
import GoSem.ClaimSeven
namespace Go.Proofs.YtnddnhjlaojllaaDoor
namespace Rows

/-- THE TIED CARD OF 'quartermasterlaw5.RealReads'. -/
def realReadsCard : Claim7 := { stood := { row := realReadsRow, standIns := [], harness := (true, "be7f613cc8f317e8cd18a7c9bf164c25dca5349f95ae5733d05fbcddd5ee1be2"), looks := true }, kinds := [], alts := [], laidByText := true, laidKinds := [.data, .data, .data, .sentinel, .sentinel], laidTests := true, laidLooks := .later }
def RealReadsCardSaid : Prop := Claim7.holds Tryd.pinned (.plain (OpenSpec.ofChange realReadsSpec)) realReadsCard

/-- THE TIED CARD OF 'quartermasterlaw5.RealTexts'. -/
def realTextsCard : Claim7 := { stood := { row := realTextsRow, standIns := [], harness := (true, "be7f613cc8f317e8cd18a7c9bf164c25dca5349f95ae5733d05fbcddd5ee1be2"), looks := true }, kinds := [], alts := [], laidByText := true, laidKinds := [.data, .data, .data, .sentinel, .sentinel], laidTests := true, laidLooks := .later }
def RealTextsCardSaid : Prop := Claim7.holds Tryd.pinned (.plain (OpenSpec.ofChange realTextsSpec)) realTextsCard

/-- THE TIED CARD OF 'quartermasterlaw5.RealSigns'. -/
def realSignsCard : Claim7 := { stood := { row := realSignsRow, standIns := [], harness := (true, "be7f613cc8f317e8cd18a7c9bf164c25dca5349f95ae5733d05fbcddd5ee1be2"), looks := true }, kinds := [], alts := [], laidByText := true, laidKinds := [.data, .data, .data, .sentinel, .sentinel], laidTests := true, laidLooks := .later }
def RealSignsCardSaid : Prop := Claim7.holds Tryd.pinned (.plain (OpenSpec.ofChange realSignsSpec)) realSignsCard

/-- THE TIED CARD OF 'quartermasterlaw5.RealOnes'. -/
def realOnesCard : Claim7 := { stood := { row := realOnesRow, standIns := [], harness := (true, "be7f613cc8f317e8cd18a7c9bf164c25dca5349f95ae5733d05fbcddd5ee1be2"), looks := true }, kinds := [], alts := [], laidByText := true, laidKinds := [.data, .data, .data, .sentinel, .sentinel], laidTests := true, laidLooks := .later }
def RealOnesCardSaid : Prop := Claim7.holds Tryd.pinned (.plain (OpenSpec.ofChange realOnesSpec)) realOnesCard

/-- THE TIED CARD OF 'quartermasterlaw5.RealOps'. -/
def realOpsCard : Claim7 := { stood := { row := realOpsRow, standIns := [], harness := (true, "be7f613cc8f317e8cd18a7c9bf164c25dca5349f95ae5733d05fbcddd5ee1be2"), looks := true }, kinds := [], alts := [], laidByText := true, laidKinds := [.data, .data, .data, .sentinel, .sentinel], laidTests := true, laidLooks := .later }
def RealOpsCardSaid : Prop := Claim7.holds Tryd.pinned (.plain (OpenSpec.ofChange realOpsSpec)) realOpsCard

/-- THE TIED CARD OF 'quartermasterlaw5.RealWhole'. -/
def realWholeCard : Claim7 := { stood := { row := realWholeRow, standIns := [], harness := (true, "be7f613cc8f317e8cd18a7c9bf164c25dca5349f95ae5733d05fbcddd5ee1be2"), looks := true }, kinds := [], alts := [], laidByText := true, laidKinds := [.data, .data, .data, .sentinel, .sentinel], laidTests := true, laidLooks := .later }
def RealWholeCardSaid : Prop := Claim7.holds Tryd.pinned (.plain (OpenSpec.ofChange realWholeSpec)) realWholeCard

/-- THE TIED CARD OF 'quartermasterlaw5.RealNaN'. -/
def realNaNCard : Claim7 := { stood := { row := realNaNRow, standIns := [], harness := (true, "be7f613cc8f317e8cd18a7c9bf164c25dca5349f95ae5733d05fbcddd5ee1be2"), looks := true }, kinds := [], alts := [], laidByText := true, laidKinds := [.data, .data, .data, .sentinel, .sentinel], laidTests := true, laidLooks := .later }
def RealNaNCardSaid : Prop := Claim7.holds Tryd.pinned (.plain (OpenSpec.ofChange realNaNSpec)) realNaNCard

/-- THE TIED CARD OF 'quartermasterlaw5.RealNought'. -/
def realNoughtCard : Claim7 := { stood := { row := realNoughtRow, standIns := [], harness := (true, "be7f613cc8f317e8cd18a7c9bf164c25dca5349f95ae5733d05fbcddd5ee1be2"), looks := true }, kinds := [], alts := [], laidByText := true, laidKinds := [.data, .data, .data, .sentinel, .sentinel], laidTests := true, laidLooks := .later }
def RealNoughtCardSaid : Prop := Claim7.holds Tryd.pinned (.plain (OpenSpec.ofChange realNoughtSpec)) realNoughtCard

/-- THE TIED CARD OF 'quartermasterlaw5.RealOrder'. -/
def realOrderCard : Claim7 := { stood := { row := realOrderRow, standIns := [], harness := (true, "be7f613cc8f317e8cd18a7c9bf164c25dca5349f95ae5733d05fbcddd5ee1be2"), looks := true }, kinds := [], alts := [], laidByText := true, laidKinds := [.data, .data, .data, .sentinel, .sentinel], laidTests := true, laidLooks := .later }
def RealOrderCardSaid : Prop := Claim7.holds Tryd.pinned (.plain (OpenSpec.ofChange realOrderSpec)) realOrderCard

/-- THE TIED CARD OF 'quartermasterlaw5.RealSwaps'. -/
def realSwapsCard : Claim7 := { stood := { row := realSwapsRow, standIns := [], harness := (true, "be7f613cc8f317e8cd18a7c9bf164c25dca5349f95ae5733d05fbcddd5ee1be2"), looks := true }, kinds := [], alts := [], laidByText := true, laidKinds := [.data, .data, .data, .sentinel, .sentinel], laidTests := true, laidLooks := .later }
def RealSwapsCardSaid : Prop := Claim7.holds Tryd.pinned (.plain (OpenSpec.ofChange realSwapsSpec)) realSwapsCard

/-- THE SECOND FORM's CARD OF 'quartermasterlaw5.RealReads'. -/
def realReadsUptoCard : Claim7 := { stood := { row := realReadsUptoRow, standIns := [], harness := (true, "be7f613cc8f317e8cd18a7c9bf164c25dca5349f95ae5733d05fbcddd5ee1be2"), looks := true }, kinds := [], alts := [], laidByText := true, laidKinds := [.data, .data, .data, .sentinel, .sentinel], laidTests := true, laidLooks := .later }
def RealReadsUptoCardSaid : Prop := Claim7.holds Tryd.pinned (.plain (OpenSpec.upto realReadsSpec)) realReadsUptoCard

/-- THE SECOND FORM's CARD OF 'quartermasterlaw5.RealTexts'. -/
def realTextsUptoCard : Claim7 := { stood := { row := realTextsUptoRow, standIns := [], harness := (true, "be7f613cc8f317e8cd18a7c9bf164c25dca5349f95ae5733d05fbcddd5ee1be2"), looks := true }, kinds := [], alts := [], laidByText := true, laidKinds := [.data, .data, .data, .sentinel, .sentinel], laidTests := true, laidLooks := .later }
def RealTextsUptoCardSaid : Prop := Claim7.holds Tryd.pinned (.plain (OpenSpec.upto realTextsSpec)) realTextsUptoCard

/-- THE SECOND FORM's CARD OF 'quartermasterlaw5.RealSigns'. -/
def realSignsUptoCard : Claim7 := { stood := { row := realSignsUptoRow, standIns := [], harness := (true, "be7f613cc8f317e8cd18a7c9bf164c25dca5349f95ae5733d05fbcddd5ee1be2"), looks := true }, kinds := [], alts := [], laidByText := true, laidKinds := [.data, .data, .data, .sentinel, .sentinel], laidTests := true, laidLooks := .later }
def RealSignsUptoCardSaid : Prop := Claim7.holds Tryd.pinned (.plain (OpenSpec.upto realSignsSpec)) realSignsUptoCard

/-- THE SECOND FORM's CARD OF 'quartermasterlaw5.RealOnes'. -/
def realOnesUptoCard : Claim7 := { stood := { row := realOnesUptoRow, standIns := [], harness := (true, "be7f613cc8f317e8cd18a7c9bf164c25dca5349f95ae5733d05fbcddd5ee1be2"), looks := true }, kinds := [], alts := [], laidByText := true, laidKinds := [.data, .data, .data, .sentinel, .sentinel], laidTests := true, laidLooks := .later }
def RealOnesUptoCardSaid : Prop := Claim7.holds Tryd.pinned (.plain (OpenSpec.upto realOnesSpec)) realOnesUptoCard

/-- THE SECOND FORM's CARD OF 'quartermasterlaw5.RealOps'. -/
def realOpsUptoCard : Claim7 := { stood := { row := realOpsUptoRow, standIns := [], harness := (true, "be7f613cc8f317e8cd18a7c9bf164c25dca5349f95ae5733d05fbcddd5ee1be2"), looks := true }, kinds := [], alts := [], laidByText := true, laidKinds := [.data, .data, .data, .sentinel, .sentinel], laidTests := true, laidLooks := .later }
def RealOpsUptoCardSaid : Prop := Claim7.holds Tryd.pinned (.plain (OpenSpec.upto realOpsSpec)) realOpsUptoCard

/-- THE SECOND FORM's CARD OF 'quartermasterlaw5.RealWhole'. -/
def realWholeUptoCard : Claim7 := { stood := { row := realWholeUptoRow, standIns := [], harness := (true, "be7f613cc8f317e8cd18a7c9bf164c25dca5349f95ae5733d05fbcddd5ee1be2"), looks := true }, kinds := [], alts := [], laidByText := true, laidKinds := [.data, .data, .data, .sentinel, .sentinel], laidTests := true, laidLooks := .later }
def RealWholeUptoCardSaid : Prop := Claim7.holds Tryd.pinned (.plain (OpenSpec.upto realWholeSpec)) realWholeUptoCard

/-- THE SECOND FORM's CARD OF 'quartermasterlaw5.RealNaN'. -/
def realNaNUptoCard : Claim7 := { stood := { row := realNaNUptoRow, standIns := [], harness := (true, "be7f613cc8f317e8cd18a7c9bf164c25dca5349f95ae5733d05fbcddd5ee1be2"), looks := true }, kinds := [], alts := [], laidByText := true, laidKinds := [.data, .data, .data, .sentinel, .sentinel], laidTests := true, laidLooks := .later }
def RealNaNUptoCardSaid : Prop := Claim7.holds Tryd.pinned (.plain (OpenSpec.upto realNaNSpec)) realNaNUptoCard

/-- THE SECOND FORM's CARD OF 'quartermasterlaw5.RealNought'. -/
def realNoughtUptoCard : Claim7 := { stood := { row := realNoughtUptoRow, standIns := [], harness := (true, "be7f613cc8f317e8cd18a7c9bf164c25dca5349f95ae5733d05fbcddd5ee1be2"), looks := true }, kinds := [], alts := [], laidByText := true, laidKinds := [.data, .data, .data, .sentinel, .sentinel], laidTests := true, laidLooks := .later }
def RealNoughtUptoCardSaid : Prop := Claim7.holds Tryd.pinned (.plain (OpenSpec.upto realNoughtSpec)) realNoughtUptoCard

/-- THE SECOND FORM's CARD OF 'quartermasterlaw5.RealOrder'. -/
def realOrderUptoCard : Claim7 := { stood := { row := realOrderUptoRow, standIns := [], harness := (true, "be7f613cc8f317e8cd18a7c9bf164c25dca5349f95ae5733d05fbcddd5ee1be2"), looks := true }, kinds := [], alts := [], laidByText := true, laidKinds := [.data, .data, .data, .sentinel, .sentinel], laidTests := true, laidLooks := .later }
def RealOrderUptoCardSaid : Prop := Claim7.holds Tryd.pinned (.plain (OpenSpec.upto realOrderSpec)) realOrderUptoCard

/-- THE SECOND FORM's CARD OF 'quartermasterlaw5.RealSwaps'. -/
def realSwapsUptoCard : Claim7 := { stood := { row := realSwapsUptoRow, standIns := [], harness := (true, "be7f613cc8f317e8cd18a7c9bf164c25dca5349f95ae5733d05fbcddd5ee1be2"), looks := true }, kinds := [], alts := [], laidByText := true, laidKinds := [.data, .data, .data, .sentinel, .sentinel], laidTests := true, laidLooks := .later }
def RealSwapsUptoCardSaid : Prop := Claim7.holds Tryd.pinned (.plain (OpenSpec.upto realSwapsSpec)) realSwapsUptoCard
end Rows
end Go.Proofs.YtnddnhjlaojllaaDoor
