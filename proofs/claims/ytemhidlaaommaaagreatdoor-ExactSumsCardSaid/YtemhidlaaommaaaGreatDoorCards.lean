/-
  DERIVED. GIVEN WITH THE SEED: THE CARDS: each row of YtemhidlaaommaaaGreatDoorRows.lean that lists a variable, with what it lists TIED to the program's text (the seventh form; the later family's looks); each row that meets fmt, with fmt's text TOLD by the authors' own Lean function (tested against real Go, not proved from fmt's source: count such statements apart). THE CARD IS WHAT COUNTS. Prove the row's statement (the work); the ties are given (YtemhidlaaommaaaGreatDoorTie.lean); close each card by the builder's one call (the guide's Derived/Test/ToyasCard.lean, 'card_holds'). Laid BY PROGRAM, IN A SANDBOX (cutbox-door.mjs). By AI agents, Wed Nov 11 2026. No macro, syntax, notation, axiom, sorry.
-/
import Derived.Test.YtemhidlaaommaaaGreatDoorRows
import GoSem.ClaimSeven
namespace Go.Proofs.YtemhidlaaommaaaGreatDoor
namespace Rows

/-- THE TIED CARD OF 'tesseractlaw01.ExactMakes'. -/
def exactMakesCard : Claim7 := { stood := { row := exactMakesRow, standIns := [], harness := (true, "809b572891b9333a6a30660ebd4fd9e1d6dd2fee4dfd047182ce4d6822e7f58a"), looks := false }, kinds := [], alts := [], laidByText := true, laidKinds := [.data, .pinned], laidTests := true, laidLooks := .later }
def ExactMakesCardSaid : Prop := Claim7.holds Tryz.pinned (.plain (OpenSpec.ofChange exactMakesSpec)) exactMakesCard

/-- THE TIED CARD OF 'tesseractlaw01.ExactParses'. -/
def exactParsesCard : Claim7 := { stood := { row := exactParsesRow, standIns := [], harness := (true, "809b572891b9333a6a30660ebd4fd9e1d6dd2fee4dfd047182ce4d6822e7f58a"), looks := false }, kinds := [], alts := [], laidByText := true, laidKinds := [.data, .pinned], laidTests := true, laidLooks := .later }
def ExactParsesCardSaid : Prop := Claim7.holds Tryz.pinned (.plain (OpenSpec.ofChange exactParsesSpec)) exactParsesCard

/-- THE TIED CARD OF 'tesseractlaw01.ExactComputes'. -/
def exactComputesCard : Claim7 := { stood := { row := exactComputesRow, standIns := [], harness := (true, "809b572891b9333a6a30660ebd4fd9e1d6dd2fee4dfd047182ce4d6822e7f58a"), looks := false }, kinds := [], alts := [], laidByText := true, laidKinds := [.data, .pinned], laidTests := true, laidLooks := .later }
def ExactComputesCardSaid : Prop := Claim7.holds Tryz.pinned (.plain (OpenSpec.ofChange exactComputesSpec)) exactComputesCard

/-- THE TIED CARD OF 'tesseractlaw01.ExactReads'. -/
def exactReadsCard : Claim7 := { stood := { row := exactReadsRow, standIns := [], harness := (true, "809b572891b9333a6a30660ebd4fd9e1d6dd2fee4dfd047182ce4d6822e7f58a"), looks := false }, kinds := [], alts := [], laidByText := true, laidKinds := [.data, .pinned], laidTests := true, laidLooks := .later }
def ExactReadsCardSaid : Prop := Claim7.holds Tryz.pinned (.plain (OpenSpec.ofChange exactReadsSpec)) exactReadsCard

/-- THE TIED CARD OF 'tesseractlaw01.ExactDoes'. -/
def exactDoesCard : Claim7 := { stood := { row := exactDoesRow, standIns := [], harness := (true, "809b572891b9333a6a30660ebd4fd9e1d6dd2fee4dfd047182ce4d6822e7f58a"), looks := false }, kinds := [], alts := [], laidByText := true, laidKinds := [.data, .pinned], laidTests := true, laidLooks := .later }
def ExactDoesCardSaid : Prop := Claim7.holds Tryz.pinned (.plain (OpenSpec.ofChange exactDoesSpec)) exactDoesCard

/-- THE TIED CARD OF 'tesseractlaw01.ExactTypes'. -/
def exactTypesCard : Claim7 := { stood := { row := exactTypesRow, standIns := [], harness := (true, "809b572891b9333a6a30660ebd4fd9e1d6dd2fee4dfd047182ce4d6822e7f58a"), looks := false }, kinds := [], alts := [], laidByText := true, laidKinds := [.data, .pinned], laidTests := true, laidLooks := .later }
def ExactTypesCardSaid : Prop := Claim7.holds Tryz.pinned (.plain (OpenSpec.ofChange exactTypesSpec)) exactTypesCard

/-- THE TIED CARD OF 'tesseractlaw01.ExactRing'. -/
def exactRingCard : Claim7 := { stood := { row := exactRingRow, standIns := [], harness := (true, "809b572891b9333a6a30660ebd4fd9e1d6dd2fee4dfd047182ce4d6822e7f58a"), looks := false }, kinds := [], alts := [], laidByText := true, laidKinds := [.data, .pinned], laidTests := true, laidLooks := .later }
def ExactRingCardSaid : Prop := Claim7.holds Tryz.pinned (.plain (OpenSpec.ofChange exactRingSpec)) exactRingCard

/-- THE TIED CARD OF 'tesseractlaw01.ExactOrders'. -/
def exactOrdersCard : Claim7 := { stood := { row := exactOrdersRow, standIns := [], harness := (true, "809b572891b9333a6a30660ebd4fd9e1d6dd2fee4dfd047182ce4d6822e7f58a"), looks := false }, kinds := [], alts := [], laidByText := true, laidKinds := [.data, .pinned], laidTests := true, laidLooks := .later }
def ExactOrdersCardSaid : Prop := Claim7.holds Tryz.pinned (.plain (OpenSpec.ofChange exactOrdersSpec)) exactOrdersCard

/-- THE TIED CARD OF 'tesseractlaw01.ExactLogic'. -/
def exactLogicCard : Claim7 := { stood := { row := exactLogicRow, standIns := [], harness := (true, "809b572891b9333a6a30660ebd4fd9e1d6dd2fee4dfd047182ce4d6822e7f58a"), looks := false }, kinds := [], alts := [], laidByText := true, laidKinds := [.data, .pinned], laidTests := true, laidLooks := .later }
def ExactLogicCardSaid : Prop := Claim7.holds Tryz.pinned (.plain (OpenSpec.ofChange exactLogicSpec)) exactLogicCard

/-- THE TIED CARD OF 'tesseractlaw01.ExactBack'. -/
def exactBackCard : Claim7 := { stood := { row := exactBackRow, standIns := [], harness := (true, "809b572891b9333a6a30660ebd4fd9e1d6dd2fee4dfd047182ce4d6822e7f58a"), looks := false }, kinds := [], alts := [], laidByText := true, laidKinds := [.data, .pinned], laidTests := true, laidLooks := .later }
def ExactBackCardSaid : Prop := Claim7.holds Tryz.pinned (.plain (OpenSpec.ofChange exactBackSpec)) exactBackCard

/-- THE TIED CARD OF 'tesseractlaw01.ExactTyped'. -/
def exactTypedCard : Claim7 := { stood := { row := exactTypedRow, standIns := [], harness := (true, "809b572891b9333a6a30660ebd4fd9e1d6dd2fee4dfd047182ce4d6822e7f58a"), looks := false }, kinds := [], alts := [], laidByText := true, laidKinds := [.data, .pinned], laidTests := true, laidLooks := .later }
def ExactTypedCardSaid : Prop := Claim7.holds Tryz.pinned (.plain (OpenSpec.ofChange exactTypedSpec)) exactTypedCard

/-- THE TIED CARD OF 'tesseractlaw01.ExactSums'. -/
def exactSumsCard : Claim7 := { stood := { row := exactSumsRow, standIns := [], harness := (true, "809b572891b9333a6a30660ebd4fd9e1d6dd2fee4dfd047182ce4d6822e7f58a"), looks := false }, kinds := [], alts := [], laidByText := true, laidKinds := [.data, .pinned], laidTests := true, laidLooks := .later }
def ExactSumsCardSaid : Prop := Claim7.holds Tryz.pinned (.plain (OpenSpec.ofChange exactSumsSpec)) exactSumsCard

/-- THE TIED CARD OF 'tesseractlaw01.ExactNil'. -/
def exactNilCard : Claim7 := { stood := { row := exactNilRow, standIns := [], harness := (true, "809b572891b9333a6a30660ebd4fd9e1d6dd2fee4dfd047182ce4d6822e7f58a"), looks := false }, kinds := [], alts := [], laidByText := true, laidKinds := [.data, .pinned], laidTests := true, laidLooks := .later }
def ExactNilCardSaid : Prop := Claim7.holds Tryz.pinned (.plain (OpenSpec.ofChange exactNilSpec)) exactNilCard

/-- THE TIED CARD OF 'tesseractlaw01.ExactParts'. -/
def exactPartsCard : Claim7 := { stood := { row := exactPartsRow, standIns := [], harness := (true, "809b572891b9333a6a30660ebd4fd9e1d6dd2fee4dfd047182ce4d6822e7f58a"), looks := false }, kinds := [], alts := [], laidByText := true, laidKinds := [.data, .pinned], laidTests := true, laidLooks := .later }
def ExactPartsCardSaid : Prop := Claim7.holds Tryz.pinned (.plain (OpenSpec.ofChange exactPartsSpec)) exactPartsCard

/-- THE TIED CARD OF 'tesseractlaw01.ExactValues'. -/
def exactValuesCard : Claim7 := { stood := { row := exactValuesRow, standIns := [], harness := (true, "809b572891b9333a6a30660ebd4fd9e1d6dd2fee4dfd047182ce4d6822e7f58a"), looks := false }, kinds := [], alts := [], laidByText := true, laidKinds := [.data, .pinned], laidTests := true, laidLooks := .later }
def ExactValuesCardSaid : Prop := Claim7.holds Tryz.pinned (.plain (OpenSpec.ofChange exactValuesSpec)) exactValuesCard

/-- THE SECOND FORM's CARD OF 'tesseractlaw01.ExactMakes'. -/
def exactMakesUptoCard : Claim7 := { stood := { row := exactMakesUptoRow, standIns := [], harness := (true, "809b572891b9333a6a30660ebd4fd9e1d6dd2fee4dfd047182ce4d6822e7f58a"), looks := false }, kinds := [], alts := [], laidByText := true, laidKinds := [.data, .pinned], laidTests := true, laidLooks := .later }
def ExactMakesUptoCardSaid : Prop := Claim7.holds Tryz.pinned (.plain (OpenSpec.upto exactMakesSpec)) exactMakesUptoCard

/-- THE SECOND FORM's CARD OF 'tesseractlaw01.ExactParses'. -/
def exactParsesUptoCard : Claim7 := { stood := { row := exactParsesUptoRow, standIns := [], harness := (true, "809b572891b9333a6a30660ebd4fd9e1d6dd2fee4dfd047182ce4d6822e7f58a"), looks := false }, kinds := [], alts := [], laidByText := true, laidKinds := [.data, .pinned], laidTests := true, laidLooks := .later }
def ExactParsesUptoCardSaid : Prop := Claim7.holds Tryz.pinned (.plain (OpenSpec.upto exactParsesSpec)) exactParsesUptoCard

/-- THE SECOND FORM's CARD OF 'tesseractlaw01.ExactComputes'. -/
def exactComputesUptoCard : Claim7 := { stood := { row := exactComputesUptoRow, standIns := [], harness := (true, "809b572891b9333a6a30660ebd4fd9e1d6dd2fee4dfd047182ce4d6822e7f58a"), looks := false }, kinds := [], alts := [], laidByText := true, laidKinds := [.data, .pinned], laidTests := true, laidLooks := .later }
def ExactComputesUptoCardSaid : Prop := Claim7.holds Tryz.pinned (.plain (OpenSpec.upto exactComputesSpec)) exactComputesUptoCard

/-- THE SECOND FORM's CARD OF 'tesseractlaw01.ExactReads'. -/
def exactReadsUptoCard : Claim7 := { stood := { row := exactReadsUptoRow, standIns := [], harness := (true, "809b572891b9333a6a30660ebd4fd9e1d6dd2fee4dfd047182ce4d6822e7f58a"), looks := false }, kinds := [], alts := [], laidByText := true, laidKinds := [.data, .pinned], laidTests := true, laidLooks := .later }
def ExactReadsUptoCardSaid : Prop := Claim7.holds Tryz.pinned (.plain (OpenSpec.upto exactReadsSpec)) exactReadsUptoCard

/-- THE SECOND FORM's CARD OF 'tesseractlaw01.ExactDoes'. -/
def exactDoesUptoCard : Claim7 := { stood := { row := exactDoesUptoRow, standIns := [], harness := (true, "809b572891b9333a6a30660ebd4fd9e1d6dd2fee4dfd047182ce4d6822e7f58a"), looks := false }, kinds := [], alts := [], laidByText := true, laidKinds := [.data, .pinned], laidTests := true, laidLooks := .later }
def ExactDoesUptoCardSaid : Prop := Claim7.holds Tryz.pinned (.plain (OpenSpec.upto exactDoesSpec)) exactDoesUptoCard

/-- THE SECOND FORM's CARD OF 'tesseractlaw01.ExactTypes'. -/
def exactTypesUptoCard : Claim7 := { stood := { row := exactTypesUptoRow, standIns := [], harness := (true, "809b572891b9333a6a30660ebd4fd9e1d6dd2fee4dfd047182ce4d6822e7f58a"), looks := false }, kinds := [], alts := [], laidByText := true, laidKinds := [.data, .pinned], laidTests := true, laidLooks := .later }
def ExactTypesUptoCardSaid : Prop := Claim7.holds Tryz.pinned (.plain (OpenSpec.upto exactTypesSpec)) exactTypesUptoCard

/-- THE SECOND FORM's CARD OF 'tesseractlaw01.ExactRing'. -/
def exactRingUptoCard : Claim7 := { stood := { row := exactRingUptoRow, standIns := [], harness := (true, "809b572891b9333a6a30660ebd4fd9e1d6dd2fee4dfd047182ce4d6822e7f58a"), looks := false }, kinds := [], alts := [], laidByText := true, laidKinds := [.data, .pinned], laidTests := true, laidLooks := .later }
def ExactRingUptoCardSaid : Prop := Claim7.holds Tryz.pinned (.plain (OpenSpec.upto exactRingSpec)) exactRingUptoCard

/-- THE SECOND FORM's CARD OF 'tesseractlaw01.ExactOrders'. -/
def exactOrdersUptoCard : Claim7 := { stood := { row := exactOrdersUptoRow, standIns := [], harness := (true, "809b572891b9333a6a30660ebd4fd9e1d6dd2fee4dfd047182ce4d6822e7f58a"), looks := false }, kinds := [], alts := [], laidByText := true, laidKinds := [.data, .pinned], laidTests := true, laidLooks := .later }
def ExactOrdersUptoCardSaid : Prop := Claim7.holds Tryz.pinned (.plain (OpenSpec.upto exactOrdersSpec)) exactOrdersUptoCard

/-- THE SECOND FORM's CARD OF 'tesseractlaw01.ExactLogic'. -/
def exactLogicUptoCard : Claim7 := { stood := { row := exactLogicUptoRow, standIns := [], harness := (true, "809b572891b9333a6a30660ebd4fd9e1d6dd2fee4dfd047182ce4d6822e7f58a"), looks := false }, kinds := [], alts := [], laidByText := true, laidKinds := [.data, .pinned], laidTests := true, laidLooks := .later }
def ExactLogicUptoCardSaid : Prop := Claim7.holds Tryz.pinned (.plain (OpenSpec.upto exactLogicSpec)) exactLogicUptoCard

/-- THE SECOND FORM's CARD OF 'tesseractlaw01.ExactBack'. -/
def exactBackUptoCard : Claim7 := { stood := { row := exactBackUptoRow, standIns := [], harness := (true, "809b572891b9333a6a30660ebd4fd9e1d6dd2fee4dfd047182ce4d6822e7f58a"), looks := false }, kinds := [], alts := [], laidByText := true, laidKinds := [.data, .pinned], laidTests := true, laidLooks := .later }
def ExactBackUptoCardSaid : Prop := Claim7.holds Tryz.pinned (.plain (OpenSpec.upto exactBackSpec)) exactBackUptoCard

/-- THE SECOND FORM's CARD OF 'tesseractlaw01.ExactTyped'. -/
def exactTypedUptoCard : Claim7 := { stood := { row := exactTypedUptoRow, standIns := [], harness := (true, "809b572891b9333a6a30660ebd4fd9e1d6dd2fee4dfd047182ce4d6822e7f58a"), looks := false }, kinds := [], alts := [], laidByText := true, laidKinds := [.data, .pinned], laidTests := true, laidLooks := .later }
def ExactTypedUptoCardSaid : Prop := Claim7.holds Tryz.pinned (.plain (OpenSpec.upto exactTypedSpec)) exactTypedUptoCard

/-- THE SECOND FORM's CARD OF 'tesseractlaw01.ExactSums'. -/
def exactSumsUptoCard : Claim7 := { stood := { row := exactSumsUptoRow, standIns := [], harness := (true, "809b572891b9333a6a30660ebd4fd9e1d6dd2fee4dfd047182ce4d6822e7f58a"), looks := false }, kinds := [], alts := [], laidByText := true, laidKinds := [.data, .pinned], laidTests := true, laidLooks := .later }
def ExactSumsUptoCardSaid : Prop := Claim7.holds Tryz.pinned (.plain (OpenSpec.upto exactSumsSpec)) exactSumsUptoCard

/-- THE SECOND FORM's CARD OF 'tesseractlaw01.ExactNil'. -/
def exactNilUptoCard : Claim7 := { stood := { row := exactNilUptoRow, standIns := [], harness := (true, "809b572891b9333a6a30660ebd4fd9e1d6dd2fee4dfd047182ce4d6822e7f58a"), looks := false }, kinds := [], alts := [], laidByText := true, laidKinds := [.data, .pinned], laidTests := true, laidLooks := .later }
def ExactNilUptoCardSaid : Prop := Claim7.holds Tryz.pinned (.plain (OpenSpec.upto exactNilSpec)) exactNilUptoCard

/-- THE SECOND FORM's CARD OF 'tesseractlaw01.ExactParts'. -/
def exactPartsUptoCard : Claim7 := { stood := { row := exactPartsUptoRow, standIns := [], harness := (true, "809b572891b9333a6a30660ebd4fd9e1d6dd2fee4dfd047182ce4d6822e7f58a"), looks := false }, kinds := [], alts := [], laidByText := true, laidKinds := [.data, .pinned], laidTests := true, laidLooks := .later }
def ExactPartsUptoCardSaid : Prop := Claim7.holds Tryz.pinned (.plain (OpenSpec.upto exactPartsSpec)) exactPartsUptoCard

/-- THE SECOND FORM's CARD OF 'tesseractlaw01.ExactValues'. -/
def exactValuesUptoCard : Claim7 := { stood := { row := exactValuesUptoRow, standIns := [], harness := (true, "809b572891b9333a6a30660ebd4fd9e1d6dd2fee4dfd047182ce4d6822e7f58a"), looks := false }, kinds := [], alts := [], laidByText := true, laidKinds := [.data, .pinned], laidTests := true, laidLooks := .later }
def ExactValuesUptoCardSaid : Prop := Claim7.holds Tryz.pinned (.plain (OpenSpec.upto exactValuesSpec)) exactValuesUptoCard
end Rows
end Go.Proofs.YtemhidlaaommaaaGreatDoor
