/-
  DERIVED. GIVEN WITH THE SEED: THE CARDS: each row of YtpdhlgkcjakcgaaGreatDoorRows.lean that lists a variable, with what it lists TIED to the program's text (the seventh form; the later family's looks); each row that meets fmt, with fmt's text TOLD by the authors' own Lean function (tested against real Go, not proved from fmt's source: count such statements apart). THE CARD IS WHAT COUNTS. Prove the row's statement (the work); the ties are given (YtpdhlgkcjakcgaaGreatDoorTie.lean); close each card by the builder's one call (the guide's Derived/Test/ToyasCard.lean, 'card_holds'). Laid BY PROGRAM, IN A SANDBOX (cutbox-door.mjs). By AI agents, Wed Nov 11 2026. No macro, syntax, notation, axiom, sorry.
-/
import Derived.Test.YtpdhlgkcjakcgaaGreatDoorRows
import GoSem.ClaimSeven
namespace Go.Proofs.YtpdhlgkcjakcgaaGreatDoor
namespace Rows

/-- THE TIED CARD OF 'tesseractlaw02.SpaceSchema'. -/
def spaceSchemaCard : Claim7 := { stood := { row := spaceSchemaRow, standIns := [], harness := (true, "53149152d319acac200d5315a58e6f69fbcafb36b103f7485ce48b1f0a54d45d"), looks := false }, kinds := [], alts := [], laidByText := true, laidKinds := [.data, .data, .data, .data, .pinned], laidTests := true, laidLooks := .later }
def SpaceSchemaCardSaid : Prop := Claim7.holds Tryz.pinned (.plain (OpenSpec.ofChange spaceSchemaSpec)) spaceSchemaCard

/-- THE TIED CARD OF 'tesseractlaw02.SpaceCheck'. -/
def spaceCheckCard : Claim7 := { stood := { row := spaceCheckRow, standIns := [], harness := (true, "53149152d319acac200d5315a58e6f69fbcafb36b103f7485ce48b1f0a54d45d"), looks := false }, kinds := [], alts := [], laidByText := true, laidKinds := [.data, .data, .data, .data, .pinned], laidTests := true, laidLooks := .later }
def SpaceCheckCardSaid : Prop := Claim7.holds Tryz.pinned (.plain (OpenSpec.ofChange spaceCheckSpec)) spaceCheckCard

/-- THE TIED CARD OF 'tesseractlaw02.SpaceLayout'. -/
def spaceLayoutCard : Claim7 := { stood := { row := spaceLayoutRow, standIns := [], harness := (true, "53149152d319acac200d5315a58e6f69fbcafb36b103f7485ce48b1f0a54d45d"), looks := false }, kinds := [], alts := [], laidByText := true, laidKinds := [.data, .data, .data, .data, .pinned], laidTests := true, laidLooks := .later }
def SpaceLayoutCardSaid : Prop := Claim7.holds Tryz.pinned (.plain (OpenSpec.ofChange spaceLayoutSpec)) spaceLayoutCard

/-- THE TIED CARD OF 'tesseractlaw02.SpaceChunks'. -/
def spaceChunksCard : Claim7 := { stood := { row := spaceChunksRow, standIns := [], harness := (true, "53149152d319acac200d5315a58e6f69fbcafb36b103f7485ce48b1f0a54d45d"), looks := false }, kinds := [], alts := [], laidByText := true, laidKinds := [.data, .data, .data, .data, .pinned], laidTests := true, laidLooks := .later }
def SpaceChunksCardSaid : Prop := Claim7.holds Tryz.pinned (.plain (OpenSpec.ofChange spaceChunksSpec)) spaceChunksCard

/-- THE TIED CARD OF 'tesseractlaw02.SpaceBoxes'. -/
def spaceBoxesCard : Claim7 := { stood := { row := spaceBoxesRow, standIns := [], harness := (true, "53149152d319acac200d5315a58e6f69fbcafb36b103f7485ce48b1f0a54d45d"), looks := false }, kinds := [], alts := [], laidByText := true, laidKinds := [.data, .data, .data, .data, .pinned], laidTests := true, laidLooks := .later }
def SpaceBoxesCardSaid : Prop := Claim7.holds Tryz.pinned (.plain (OpenSpec.ofChange spaceBoxesSpec)) spaceBoxesCard

/-- THE TIED CARD OF 'tesseractlaw02.SpaceDatabase'. -/
def spaceDatabaseCard : Claim7 := { stood := { row := spaceDatabaseRow, standIns := [], harness := (true, "53149152d319acac200d5315a58e6f69fbcafb36b103f7485ce48b1f0a54d45d"), looks := false }, kinds := [], alts := [], laidByText := true, laidKinds := [.data, .data, .data, .data, .pinned], laidTests := true, laidLooks := .later }
def SpaceDatabaseCardSaid : Prop := Claim7.holds Tryz.pinned (.plain (OpenSpec.ofChange spaceDatabaseSpec)) spaceDatabaseCard

/-- THE TIED CARD OF 'tesseractlaw02.SpaceGets'. -/
def spaceGetsCard : Claim7 := { stood := { row := spaceGetsRow, standIns := [], harness := (true, "53149152d319acac200d5315a58e6f69fbcafb36b103f7485ce48b1f0a54d45d"), looks := false }, kinds := [], alts := [], laidByText := true, laidKinds := [.data, .data, .data, .data, .pinned], laidTests := true, laidLooks := .later }
def SpaceGetsCardSaid : Prop := Claim7.holds Tryz.pinned (.plain (OpenSpec.ofChange spaceGetsSpec)) spaceGetsCard

/-- THE TIED CARD OF 'tesseractlaw02.SpaceCut'. -/
def spaceCutCard : Claim7 := { stood := { row := spaceCutRow, standIns := [], harness := (true, "53149152d319acac200d5315a58e6f69fbcafb36b103f7485ce48b1f0a54d45d"), looks := false }, kinds := [], alts := [], laidByText := true, laidKinds := [.data, .data, .data, .data, .pinned], laidTests := true, laidLooks := .later }
def SpaceCutCardSaid : Prop := Claim7.holds Tryz.pinned (.plain (OpenSpec.ofChange spaceCutSpec)) spaceCutCard

/-- THE TIED CARD OF 'tesseractlaw02.SpaceIndex'. -/
def spaceIndexCard : Claim7 := { stood := { row := spaceIndexRow, standIns := [], harness := (true, "53149152d319acac200d5315a58e6f69fbcafb36b103f7485ce48b1f0a54d45d"), looks := false }, kinds := [], alts := [], laidByText := true, laidKinds := [.data, .data, .data, .data, .pinned], laidTests := true, laidLooks := .later }
def SpaceIndexCardSaid : Prop := Claim7.holds Tryz.pinned (.plain (OpenSpec.ofChange spaceIndexSpec)) spaceIndexCard

/-- THE TIED CARD OF 'tesseractlaw02.SpaceInverse'. -/
def spaceInverseCard : Claim7 := { stood := { row := spaceInverseRow, standIns := [], harness := (true, "53149152d319acac200d5315a58e6f69fbcafb36b103f7485ce48b1f0a54d45d"), looks := false }, kinds := [], alts := [], laidByText := true, laidKinds := [.data, .data, .data, .data, .pinned], laidTests := true, laidLooks := .later }
def SpaceInverseCardSaid : Prop := Claim7.holds Tryz.pinned (.plain (OpenSpec.ofChange spaceInverseSpec)) spaceInverseCard

/-- THE SECOND FORM's CARD OF 'tesseractlaw02.SpaceSchema'. -/
def spaceSchemaUptoCard : Claim7 := { stood := { row := spaceSchemaUptoRow, standIns := [], harness := (true, "53149152d319acac200d5315a58e6f69fbcafb36b103f7485ce48b1f0a54d45d"), looks := false }, kinds := [], alts := [], laidByText := true, laidKinds := [.data, .data, .data, .data, .pinned], laidTests := true, laidLooks := .later }
def SpaceSchemaUptoCardSaid : Prop := Claim7.holds Tryz.pinned (.plain (OpenSpec.upto spaceSchemaSpec)) spaceSchemaUptoCard

/-- THE SECOND FORM's CARD OF 'tesseractlaw02.SpaceCheck'. -/
def spaceCheckUptoCard : Claim7 := { stood := { row := spaceCheckUptoRow, standIns := [], harness := (true, "53149152d319acac200d5315a58e6f69fbcafb36b103f7485ce48b1f0a54d45d"), looks := false }, kinds := [], alts := [], laidByText := true, laidKinds := [.data, .data, .data, .data, .pinned], laidTests := true, laidLooks := .later }
def SpaceCheckUptoCardSaid : Prop := Claim7.holds Tryz.pinned (.plain (OpenSpec.upto spaceCheckSpec)) spaceCheckUptoCard

/-- THE SECOND FORM's CARD OF 'tesseractlaw02.SpaceLayout'. -/
def spaceLayoutUptoCard : Claim7 := { stood := { row := spaceLayoutUptoRow, standIns := [], harness := (true, "53149152d319acac200d5315a58e6f69fbcafb36b103f7485ce48b1f0a54d45d"), looks := false }, kinds := [], alts := [], laidByText := true, laidKinds := [.data, .data, .data, .data, .pinned], laidTests := true, laidLooks := .later }
def SpaceLayoutUptoCardSaid : Prop := Claim7.holds Tryz.pinned (.plain (OpenSpec.upto spaceLayoutSpec)) spaceLayoutUptoCard

/-- THE SECOND FORM's CARD OF 'tesseractlaw02.SpaceChunks'. -/
def spaceChunksUptoCard : Claim7 := { stood := { row := spaceChunksUptoRow, standIns := [], harness := (true, "53149152d319acac200d5315a58e6f69fbcafb36b103f7485ce48b1f0a54d45d"), looks := false }, kinds := [], alts := [], laidByText := true, laidKinds := [.data, .data, .data, .data, .pinned], laidTests := true, laidLooks := .later }
def SpaceChunksUptoCardSaid : Prop := Claim7.holds Tryz.pinned (.plain (OpenSpec.upto spaceChunksSpec)) spaceChunksUptoCard

/-- THE SECOND FORM's CARD OF 'tesseractlaw02.SpaceBoxes'. -/
def spaceBoxesUptoCard : Claim7 := { stood := { row := spaceBoxesUptoRow, standIns := [], harness := (true, "53149152d319acac200d5315a58e6f69fbcafb36b103f7485ce48b1f0a54d45d"), looks := false }, kinds := [], alts := [], laidByText := true, laidKinds := [.data, .data, .data, .data, .pinned], laidTests := true, laidLooks := .later }
def SpaceBoxesUptoCardSaid : Prop := Claim7.holds Tryz.pinned (.plain (OpenSpec.upto spaceBoxesSpec)) spaceBoxesUptoCard

/-- THE SECOND FORM's CARD OF 'tesseractlaw02.SpaceDatabase'. -/
def spaceDatabaseUptoCard : Claim7 := { stood := { row := spaceDatabaseUptoRow, standIns := [], harness := (true, "53149152d319acac200d5315a58e6f69fbcafb36b103f7485ce48b1f0a54d45d"), looks := false }, kinds := [], alts := [], laidByText := true, laidKinds := [.data, .data, .data, .data, .pinned], laidTests := true, laidLooks := .later }
def SpaceDatabaseUptoCardSaid : Prop := Claim7.holds Tryz.pinned (.plain (OpenSpec.upto spaceDatabaseSpec)) spaceDatabaseUptoCard

/-- THE SECOND FORM's CARD OF 'tesseractlaw02.SpaceGets'. -/
def spaceGetsUptoCard : Claim7 := { stood := { row := spaceGetsUptoRow, standIns := [], harness := (true, "53149152d319acac200d5315a58e6f69fbcafb36b103f7485ce48b1f0a54d45d"), looks := false }, kinds := [], alts := [], laidByText := true, laidKinds := [.data, .data, .data, .data, .pinned], laidTests := true, laidLooks := .later }
def SpaceGetsUptoCardSaid : Prop := Claim7.holds Tryz.pinned (.plain (OpenSpec.upto spaceGetsSpec)) spaceGetsUptoCard

/-- THE SECOND FORM's CARD OF 'tesseractlaw02.SpaceCut'. -/
def spaceCutUptoCard : Claim7 := { stood := { row := spaceCutUptoRow, standIns := [], harness := (true, "53149152d319acac200d5315a58e6f69fbcafb36b103f7485ce48b1f0a54d45d"), looks := false }, kinds := [], alts := [], laidByText := true, laidKinds := [.data, .data, .data, .data, .pinned], laidTests := true, laidLooks := .later }
def SpaceCutUptoCardSaid : Prop := Claim7.holds Tryz.pinned (.plain (OpenSpec.upto spaceCutSpec)) spaceCutUptoCard

/-- THE SECOND FORM's CARD OF 'tesseractlaw02.SpaceIndex'. -/
def spaceIndexUptoCard : Claim7 := { stood := { row := spaceIndexUptoRow, standIns := [], harness := (true, "53149152d319acac200d5315a58e6f69fbcafb36b103f7485ce48b1f0a54d45d"), looks := false }, kinds := [], alts := [], laidByText := true, laidKinds := [.data, .data, .data, .data, .pinned], laidTests := true, laidLooks := .later }
def SpaceIndexUptoCardSaid : Prop := Claim7.holds Tryz.pinned (.plain (OpenSpec.upto spaceIndexSpec)) spaceIndexUptoCard

/-- THE SECOND FORM's CARD OF 'tesseractlaw02.SpaceInverse'. -/
def spaceInverseUptoCard : Claim7 := { stood := { row := spaceInverseUptoRow, standIns := [], harness := (true, "53149152d319acac200d5315a58e6f69fbcafb36b103f7485ce48b1f0a54d45d"), looks := false }, kinds := [], alts := [], laidByText := true, laidKinds := [.data, .data, .data, .data, .pinned], laidTests := true, laidLooks := .later }
def SpaceInverseUptoCardSaid : Prop := Claim7.holds Tryz.pinned (.plain (OpenSpec.upto spaceInverseSpec)) spaceInverseUptoCard
end Rows
end Go.Proofs.YtpdhlgkcjakcgaaGreatDoor
