/-
  DERIVED. GIVEN WITH THE SEED: THE CARDS: each row of YthlkcppbljpooaaGreatDoorRows.lean that lists a variable, with what it lists TIED to the program's text (the seventh form; the later family's looks); each row that meets fmt, with fmt's text TOLD by the authors' own Lean function (tested against real Go, not proved from fmt's source: count such statements apart). THE CARD IS WHAT COUNTS. Prove the row's statement (the work); the ties are given (YthlkcppbljpooaaGreatDoorTie.lean); close each card by the builder's one call (the guide's Derived/Test/ToyasCard.lean, 'card_holds'). Laid BY PROGRAM, IN A SANDBOX (cutbox-door.mjs). By AI agents, Wed Nov 11 2026. No macro, syntax, notation, axiom, sorry.
-/
import Derived.Test.YthlkcppbljpooaaGreatDoorRows
import GoSem.ClaimSeven
namespace Go.Proofs.YthlkcppbljpooaaGreatDoor
namespace Rows

/-- THE TIED CARD OF 'tesseractlaw02.SpaceMake'. -/
def spaceMakeCard : Claim7 := { stood := { row := spaceMakeRow, standIns := [], harness := (true, "8c138fd0369edb2047a4102fccbee6d350329b9f4c74f5a587bb3bce70705ee2"), looks := false }, kinds := [], alts := [], laidByText := true, laidKinds := [.data, .data, .data, .data, .pinned], laidTests := true, laidLooks := .later }
def SpaceMakeCardSaid : Prop := Claim7.holds Tryz.pinned (.plain (OpenSpec.ofChange spaceMakeSpec)) spaceMakeCard

/-- THE TIED CARD OF 'tesseractlaw02.SpaceMany'. -/
def spaceManyCard : Claim7 := { stood := { row := spaceManyRow, standIns := [], harness := (true, "8c138fd0369edb2047a4102fccbee6d350329b9f4c74f5a587bb3bce70705ee2"), looks := false }, kinds := [], alts := [], laidByText := true, laidKinds := [.data, .data, .data, .data, .pinned], laidTests := true, laidLooks := .later }
def SpaceManyCardSaid : Prop := Claim7.holds Tryz.pinned (.plain (OpenSpec.ofChange spaceManySpec)) spaceManyCard

/-- THE SECOND FORM's CARD OF 'tesseractlaw02.SpaceMake'. -/
def spaceMakeUptoCard : Claim7 := { stood := { row := spaceMakeUptoRow, standIns := [], harness := (true, "8c138fd0369edb2047a4102fccbee6d350329b9f4c74f5a587bb3bce70705ee2"), looks := false }, kinds := [], alts := [], laidByText := true, laidKinds := [.data, .data, .data, .data, .pinned], laidTests := true, laidLooks := .later }
def SpaceMakeUptoCardSaid : Prop := Claim7.holds Tryz.pinned (.plain (OpenSpec.upto spaceMakeSpec)) spaceMakeUptoCard

/-- THE SECOND FORM's CARD OF 'tesseractlaw02.SpaceMany'. -/
def spaceManyUptoCard : Claim7 := { stood := { row := spaceManyUptoRow, standIns := [], harness := (true, "8c138fd0369edb2047a4102fccbee6d350329b9f4c74f5a587bb3bce70705ee2"), looks := false }, kinds := [], alts := [], laidByText := true, laidKinds := [.data, .data, .data, .data, .pinned], laidTests := true, laidLooks := .later }
def SpaceManyUptoCardSaid : Prop := Claim7.holds Tryz.pinned (.plain (OpenSpec.upto spaceManySpec)) spaceManyUptoCard
end Rows
end Go.Proofs.YthlkcppbljpooaaGreatDoor
