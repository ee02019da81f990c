/-
  DERIVED. GIVEN WITH THE SEED: THE CARDS: each row of YtdbnebhehiiakaaGreatDoorRows.lean that lists a variable, with what it lists TIED to the program's text (the seventh form; the later family's looks); each row that meets fmt, with fmt's text TOLD by the authors' own Lean function (tested against real Go, not proved from fmt's source: count such statements apart). THE CARD IS WHAT COUNTS. Prove the row's statement (the work); the ties are given (YtdbnebhehiiakaaGreatDoorTie.lean); close each card by the builder's one call (the guide's Derived/Test/ToyasCard.lean, 'card_holds'). Laid BY PROGRAM, IN A SANDBOX (cutbox-door.mjs). By AI agents, Wed Nov 11 2026. No macro, syntax, notation, axiom, sorry.
-/
import Derived.Test.YtdbnebhehiiakaaGreatDoorRows
import GoSem.ClaimSeven
namespace Go.Proofs.YtdbnebhehiiakaaGreatDoor
namespace Rows

/-- THE TIED CARD OF 'tesseractlaw02.SpaceText'. -/
def spaceTextCard : Claim7 := { stood := { row := spaceTextRow, standIns := [], harness := (true, "93e2c91a6d3b85b382d868485c8c1263effbb65947d3eafdd0282376ef415edd"), looks := true }, kinds := [], alts := [], laidByText := true, laidKinds := [.data, .data, .data, .data, .sentinel, .sentinel, .pinned], laidTests := true, laidLooks := .later }
def SpaceTextCardSaid : Prop := Claim7.holds Tryz.pinned (.plain (OpenSpec.ofChange spaceTextSpec)) spaceTextCard

/-- THE TIED CARD OF 'tesseractlaw02.SpaceKnown'. -/
def spaceKnownCard : Claim7 := { stood := { row := spaceKnownRow, standIns := [], harness := (true, "93e2c91a6d3b85b382d868485c8c1263effbb65947d3eafdd0282376ef415edd"), looks := true }, kinds := [], alts := [], laidByText := true, laidKinds := [.data, .data, .data, .data, .sentinel, .sentinel, .pinned], laidTests := true, laidLooks := .later }
def SpaceKnownCardSaid : Prop := Claim7.holds Tryz.pinned (.plain (OpenSpec.ofChange spaceKnownSpec)) spaceKnownCard

/-- THE SECOND FORM's CARD OF 'tesseractlaw02.SpaceText'. -/
def spaceTextUptoCard : Claim7 := { stood := { row := spaceTextUptoRow, standIns := [], harness := (true, "93e2c91a6d3b85b382d868485c8c1263effbb65947d3eafdd0282376ef415edd"), looks := true }, kinds := [], alts := [], laidByText := true, laidKinds := [.data, .data, .data, .data, .sentinel, .sentinel, .pinned], laidTests := true, laidLooks := .later }
def SpaceTextUptoCardSaid : Prop := Claim7.holds Tryz.pinned (.plain (OpenSpec.upto spaceTextSpec)) spaceTextUptoCard

/-- THE SECOND FORM's CARD OF 'tesseractlaw02.SpaceKnown'. -/
def spaceKnownUptoCard : Claim7 := { stood := { row := spaceKnownUptoRow, standIns := [], harness := (true, "93e2c91a6d3b85b382d868485c8c1263effbb65947d3eafdd0282376ef415edd"), looks := true }, kinds := [], alts := [], laidByText := true, laidKinds := [.data, .data, .data, .data, .sentinel, .sentinel, .pinned], laidTests := true, laidLooks := .later }
def SpaceKnownUptoCardSaid : Prop := Claim7.holds Tryz.pinned (.plain (OpenSpec.upto spaceKnownSpec)) spaceKnownUptoCard
end Rows
end Go.Proofs.YtdbnebhehiiakaaGreatDoor
