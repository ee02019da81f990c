/-
  DERIVED. GIVEN WITH THE SEED: THE CARDS: each row of YtebpfbgaafchjaaGreatDoorRows.lean that lists a variable, with what it lists TIED to the program's text (the seventh form; the later family's looks); each row that meets fmt, with fmt's text TOLD by the authors' own Lean function (tested against real Go, not proved from fmt's source: count such statements apart). THE CARD IS WHAT COUNTS. Prove the row's statement (the work); the ties are given (YtebpfbgaafchjaaGreatDoorTie.lean); close each card by the builder's one call (the guide's Derived/Test/ToyasCard.lean, 'card_holds'). Laid BY PROGRAM, IN A SANDBOX (cutbox-door.mjs). By AI agents, Wed Nov 11 2026. No macro, syntax, notation, axiom, sorry.
-/
import Derived.Test.YtebpfbgaafchjaaGreatDoorRows
import GoSem.ClaimSeven
namespace Go.Proofs.YtebpfbgaafchjaaGreatDoor
namespace Rows

/-- THE TIED CARD OF 'tesseractlaw02.SpaceHilbert'. -/
def spaceHilbertCard : Claim7 := { stood := { row := spaceHilbertRow, standIns := [], harness := (true, "71ca82ae61c68dd221d19c567d02b2408336d0387a0e54eaca1d6a52eb4d5362"), looks := true }, kinds := [], alts := [], laidByText := true, laidKinds := [.data, .data, .data, .data, .pinned], laidTests := true, laidLooks := .later }
def SpaceHilbertCardSaid : Prop := Claim7.holds Tryz.pinned (.plain (OpenSpec.ofChange spaceHilbertSpec)) spaceHilbertCard

/-- THE TIED CARD OF 'tesseractlaw02.SpaceMake'. -/
def spaceMakeCard : Claim7 := { stood := { row := spaceMakeRow, standIns := [], harness := (true, "71ca82ae61c68dd221d19c567d02b2408336d0387a0e54eaca1d6a52eb4d5362"), looks := true }, kinds := [], alts := [], laidByText := true, laidKinds := [.data, .data, .data, .data, .pinned], laidTests := true, laidLooks := .later }
def SpaceMakeCardSaid : Prop := Claim7.holds Tryz.pinned (.plain (OpenSpec.ofChange spaceMakeSpec)) spaceMakeCard

/-- THE TIED CARD OF 'tesseractlaw02.SpaceOrder'. -/
def spaceOrderCard : Claim7 := { stood := { row := spaceOrderRow, standIns := [], harness := (true, "71ca82ae61c68dd221d19c567d02b2408336d0387a0e54eaca1d6a52eb4d5362"), looks := true }, kinds := [], alts := [], laidByText := true, laidKinds := [.data, .data, .data, .data, .pinned], laidTests := true, laidLooks := .later }
def SpaceOrderCardSaid : Prop := Claim7.holds Tryz.pinned (.plain (OpenSpec.ofChange spaceOrderSpec)) spaceOrderCard

/-- THE TIED CARD OF 'tesseractlaw02.SpaceRanks'. -/
def spaceRanksCard : Claim7 := { stood := { row := spaceRanksRow, standIns := [], harness := (true, "71ca82ae61c68dd221d19c567d02b2408336d0387a0e54eaca1d6a52eb4d5362"), looks := true }, kinds := [], alts := [], laidByText := true, laidKinds := [.data, .data, .data, .data, .pinned], laidTests := true, laidLooks := .later }
def SpaceRanksCardSaid : Prop := Claim7.holds Tryz.pinned (.plain (OpenSpec.ofChange spaceRanksSpec)) spaceRanksCard

/-- THE TIED CARD OF 'tesseractlaw02.SpaceCut'. -/
def spaceCutCard : Claim7 := { stood := { row := spaceCutRow, standIns := [], harness := (true, "71ca82ae61c68dd221d19c567d02b2408336d0387a0e54eaca1d6a52eb4d5362"), looks := true }, kinds := [], alts := [], laidByText := true, laidKinds := [.data, .data, .data, .data, .pinned], laidTests := true, laidLooks := .later }
def SpaceCutCardSaid : Prop := Claim7.holds Tryz.pinned (.plain (OpenSpec.ofChange spaceCutSpec)) spaceCutCard

/-- THE TIED CARD OF 'tesseractlaw02.SpaceMany'. -/
def spaceManyCard : Claim7 := { stood := { row := spaceManyRow, standIns := [], harness := (true, "71ca82ae61c68dd221d19c567d02b2408336d0387a0e54eaca1d6a52eb4d5362"), looks := true }, kinds := [], alts := [], laidByText := true, laidKinds := [.data, .data, .data, .data, .pinned], laidTests := true, laidLooks := .later }
def SpaceManyCardSaid : Prop := Claim7.holds Tryz.pinned (.plain (OpenSpec.ofChange spaceManySpec)) spaceManyCard

/-- THE TIED CARD OF 'tesseractlaw02.SpaceHull'. -/
def spaceHullCard : Claim7 := { stood := { row := spaceHullRow, standIns := [], harness := (true, "71ca82ae61c68dd221d19c567d02b2408336d0387a0e54eaca1d6a52eb4d5362"), looks := true }, kinds := [], alts := [], laidByText := true, laidKinds := [.data, .data, .data, .data, .pinned], laidTests := true, laidLooks := .later }
def SpaceHullCardSaid : Prop := Claim7.holds Tryz.pinned (.plain (OpenSpec.ofChange spaceHullSpec)) spaceHullCard

/-- THE TIED CARD OF 'tesseractlaw02.SpaceText'. -/
def spaceTextCard : Claim7 := { stood := { row := spaceTextRow, standIns := [], harness := (true, "71ca82ae61c68dd221d19c567d02b2408336d0387a0e54eaca1d6a52eb4d5362"), looks := true }, kinds := [], alts := [], laidByText := true, laidKinds := [.data, .data, .data, .data, .sentinel, .sentinel, .pinned], laidTests := true, laidLooks := .later }
def SpaceTextCardSaid : Prop := Claim7.holds Tryz.pinned (.plain (OpenSpec.ofChange spaceTextSpec)) spaceTextCard

/-- THE TIED CARD OF 'tesseractlaw02.SpaceKnown'. -/
def spaceKnownCard : Claim7 := { stood := { row := spaceKnownRow, standIns := [], harness := (true, "71ca82ae61c68dd221d19c567d02b2408336d0387a0e54eaca1d6a52eb4d5362"), looks := true }, kinds := [], alts := [], laidByText := true, laidKinds := [.data, .data, .data, .data, .sentinel, .sentinel, .pinned], laidTests := true, laidLooks := .later }
def SpaceKnownCardSaid : Prop := Claim7.holds Tryz.pinned (.plain (OpenSpec.ofChange spaceKnownSpec)) spaceKnownCard

/-- THE SECOND FORM's CARD OF 'tesseractlaw02.SpaceHilbert'. -/
def spaceHilbertUptoCard : Claim7 := { stood := { row := spaceHilbertUptoRow, standIns := [], harness := (true, "71ca82ae61c68dd221d19c567d02b2408336d0387a0e54eaca1d6a52eb4d5362"), looks := true }, kinds := [], alts := [], laidByText := true, laidKinds := [.data, .data, .data, .data, .pinned], laidTests := true, laidLooks := .later }
def SpaceHilbertUptoCardSaid : Prop := Claim7.holds Tryz.pinned (.plain (OpenSpec.upto spaceHilbertSpec)) spaceHilbertUptoCard

/-- THE SECOND FORM's CARD OF 'tesseractlaw02.SpaceMake'. -/
def spaceMakeUptoCard : Claim7 := { stood := { row := spaceMakeUptoRow, standIns := [], harness := (true, "71ca82ae61c68dd221d19c567d02b2408336d0387a0e54eaca1d6a52eb4d5362"), looks := true }, kinds := [], alts := [], laidByText := true, laidKinds := [.data, .data, .data, .data, .pinned], laidTests := true, laidLooks := .later }
def SpaceMakeUptoCardSaid : Prop := Claim7.holds Tryz.pinned (.plain (OpenSpec.upto spaceMakeSpec)) spaceMakeUptoCard

/-- THE SECOND FORM's CARD OF 'tesseractlaw02.SpaceOrder'. -/
def spaceOrderUptoCard : Claim7 := { stood := { row := spaceOrderUptoRow, standIns := [], harness := (true, "71ca82ae61c68dd221d19c567d02b2408336d0387a0e54eaca1d6a52eb4d5362"), looks := true }, kinds := [], alts := [], laidByText := true, laidKinds := [.data, .data, .data, .data, .pinned], laidTests := true, laidLooks := .later }
def SpaceOrderUptoCardSaid : Prop := Claim7.holds Tryz.pinned (.plain (OpenSpec.upto spaceOrderSpec)) spaceOrderUptoCard

/-- THE SECOND FORM's CARD OF 'tesseractlaw02.SpaceRanks'. -/
def spaceRanksUptoCard : Claim7 := { stood := { row := spaceRanksUptoRow, standIns := [], harness := (true, "71ca82ae61c68dd221d19c567d02b2408336d0387a0e54eaca1d6a52eb4d5362"), looks := true }, kinds := [], alts := [], laidByText := true, laidKinds := [.data, .data, .data, .data, .pinned], laidTests := true, laidLooks := .later }
def SpaceRanksUptoCardSaid : Prop := Claim7.holds Tryz.pinned (.plain (OpenSpec.upto spaceRanksSpec)) spaceRanksUptoCard

/-- THE SECOND FORM's CARD OF 'tesseractlaw02.SpaceCut'. -/
def spaceCutUptoCard : Claim7 := { stood := { row := spaceCutUptoRow, standIns := [], harness := (true, "71ca82ae61c68dd221d19c567d02b2408336d0387a0e54eaca1d6a52eb4d5362"), looks := true }, kinds := [], alts := [], laidByText := true, laidKinds := [.data, .data, .data, .data, .pinned], laidTests := true, laidLooks := .later }
def SpaceCutUptoCardSaid : Prop := Claim7.holds Tryz.pinned (.plain (OpenSpec.upto spaceCutSpec)) spaceCutUptoCard

/-- THE SECOND FORM's CARD OF 'tesseractlaw02.SpaceMany'. -/
def spaceManyUptoCard : Claim7 := { stood := { row := spaceManyUptoRow, standIns := [], harness := (true, "71ca82ae61c68dd221d19c567d02b2408336d0387a0e54eaca1d6a52eb4d5362"), looks := true }, kinds := [], alts := [], laidByText := true, laidKinds := [.data, .data, .data, .data, .pinned], laidTests := true, laidLooks := .later }
def SpaceManyUptoCardSaid : Prop := Claim7.holds Tryz.pinned (.plain (OpenSpec.upto spaceManySpec)) spaceManyUptoCard

/-- THE SECOND FORM's CARD OF 'tesseractlaw02.SpaceHull'. -/
def spaceHullUptoCard : Claim7 := { stood := { row := spaceHullUptoRow, standIns := [], harness := (true, "71ca82ae61c68dd221d19c567d02b2408336d0387a0e54eaca1d6a52eb4d5362"), looks := true }, kinds := [], alts := [], laidByText := true, laidKinds := [.data, .data, .data, .data, .pinned], laidTests := true, laidLooks := .later }
def SpaceHullUptoCardSaid : Prop := Claim7.holds Tryz.pinned (.plain (OpenSpec.upto spaceHullSpec)) spaceHullUptoCard

/-- THE SECOND FORM's CARD OF 'tesseractlaw02.SpaceText'. -/
def spaceTextUptoCard : Claim7 := { stood := { row := spaceTextUptoRow, standIns := [], harness := (true, "71ca82ae61c68dd221d19c567d02b2408336d0387a0e54eaca1d6a52eb4d5362"), looks := true }, kinds := [], alts := [], laidByText := true, laidKinds := [.data, .data, .data, .data, .sentinel, .sentinel, .pinned], laidTests := true, laidLooks := .later }
def SpaceTextUptoCardSaid : Prop := Claim7.holds Tryz.pinned (.plain (OpenSpec.upto spaceTextSpec)) spaceTextUptoCard

/-- THE SECOND FORM's CARD OF 'tesseractlaw02.SpaceKnown'. -/
def spaceKnownUptoCard : Claim7 := { stood := { row := spaceKnownUptoRow, standIns := [], harness := (true, "71ca82ae61c68dd221d19c567d02b2408336d0387a0e54eaca1d6a52eb4d5362"), looks := true }, kinds := [], alts := [], laidByText := true, laidKinds := [.data, .data, .data, .data, .sentinel, .sentinel, .pinned], laidTests := true, laidLooks := .later }
def SpaceKnownUptoCardSaid : Prop := Claim7.holds Tryz.pinned (.plain (OpenSpec.upto spaceKnownSpec)) spaceKnownUptoCard
end Rows
end Go.Proofs.YtebpfbgaafchjaaGreatDoor
