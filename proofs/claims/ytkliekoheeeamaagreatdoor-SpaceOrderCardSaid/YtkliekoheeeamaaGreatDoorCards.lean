/-
  DERIVED. GIVEN WITH THE SEED: THE CARDS: each row of YtkliekoheeeamaaGreatDoorRows.lean that lists a variable, with what it lists TIED to the program's text (the seventh form; the later family's looks); each row that meets fmt, with fmt's text TOLD by the authors' own Lean function (tested against real Go, not proved from fmt's source: count such statements apart). THE CARD IS WHAT COUNTS. Prove the row's statement (the work); the ties are given (YtkliekoheeeamaaGreatDoorTie.lean); close each card by the builder's one call (the guide's Derived/Test/ToyasCard.lean, 'card_holds'). Laid BY PROGRAM, IN A SANDBOX (cutbox-door.mjs). By AI agents, Wed Nov 11 2026. No macro, syntax, notation, axiom, sorry.
-/
import Derived.Test.YtkliekoheeeamaaGreatDoorRows
import GoSem.ClaimSeven
namespace Go.Proofs.YtkliekoheeeamaaGreatDoor
namespace Rows

/-- THE TIED CARD OF 'tesseractlaw02.SpaceHilbert'. -/
def spaceHilbertCard : Claim7 := { stood := { row := spaceHilbertRow, standIns := [], harness := (true, "675d9732a2fbd23e991b4ee1f970b9c6c9c9eb6f9ef1b908594ce9515fe52df1"), looks := false }, kinds := [], alts := [], laidByText := true, laidKinds := [.data, .data, .data, .data, .pinned], laidTests := true, laidLooks := .later }
def SpaceHilbertCardSaid : Prop := Claim7.holds Tryz.pinned (.plain (OpenSpec.ofChange spaceHilbertSpec)) spaceHilbertCard

/-- THE TIED CARD OF 'tesseractlaw02.SpaceOrder'. -/
def spaceOrderCard : Claim7 := { stood := { row := spaceOrderRow, standIns := [], harness := (true, "675d9732a2fbd23e991b4ee1f970b9c6c9c9eb6f9ef1b908594ce9515fe52df1"), looks := false }, kinds := [], alts := [], laidByText := true, laidKinds := [.data, .data, .data, .data, .pinned], laidTests := true, laidLooks := .later }
def SpaceOrderCardSaid : Prop := Claim7.holds Tryz.pinned (.plain (OpenSpec.ofChange spaceOrderSpec)) spaceOrderCard

/-- THE TIED CARD OF 'tesseractlaw02.SpaceRanks'. -/
def spaceRanksCard : Claim7 := { stood := { row := spaceRanksRow, standIns := [], harness := (true, "675d9732a2fbd23e991b4ee1f970b9c6c9c9eb6f9ef1b908594ce9515fe52df1"), looks := false }, kinds := [], alts := [], laidByText := true, laidKinds := [.data, .data, .data, .data, .pinned], laidTests := true, laidLooks := .later }
def SpaceRanksCardSaid : Prop := Claim7.holds Tryz.pinned (.plain (OpenSpec.ofChange spaceRanksSpec)) spaceRanksCard

/-- THE TIED CARD OF 'tesseractlaw02.SpaceHull'. -/
def spaceHullCard : Claim7 := { stood := { row := spaceHullRow, standIns := [], harness := (true, "675d9732a2fbd23e991b4ee1f970b9c6c9c9eb6f9ef1b908594ce9515fe52df1"), looks := false }, kinds := [], alts := [], laidByText := true, laidKinds := [.data, .data, .data, .data, .pinned], laidTests := true, laidLooks := .later }
def SpaceHullCardSaid : Prop := Claim7.holds Tryz.pinned (.plain (OpenSpec.ofChange spaceHullSpec)) spaceHullCard

/-- THE SECOND FORM's CARD OF 'tesseractlaw02.SpaceHilbert'. -/
def spaceHilbertUptoCard : Claim7 := { stood := { row := spaceHilbertUptoRow, standIns := [], harness := (true, "675d9732a2fbd23e991b4ee1f970b9c6c9c9eb6f9ef1b908594ce9515fe52df1"), looks := false }, kinds := [], alts := [], laidByText := true, laidKinds := [.data, .data, .data, .data, .pinned], laidTests := true, laidLooks := .later }
def SpaceHilbertUptoCardSaid : Prop := Claim7.holds Tryz.pinned (.plain (OpenSpec.upto spaceHilbertSpec)) spaceHilbertUptoCard

/-- THE SECOND FORM's CARD OF 'tesseractlaw02.SpaceOrder'. -/
def spaceOrderUptoCard : Claim7 := { stood := { row := spaceOrderUptoRow, standIns := [], harness := (true, "675d9732a2fbd23e991b4ee1f970b9c6c9c9eb6f9ef1b908594ce9515fe52df1"), looks := false }, kinds := [], alts := [], laidByText := true, laidKinds := [.data, .data, .data, .data, .pinned], laidTests := true, laidLooks := .later }
def SpaceOrderUptoCardSaid : Prop := Claim7.holds Tryz.pinned (.plain (OpenSpec.upto spaceOrderSpec)) spaceOrderUptoCard

/-- THE SECOND FORM's CARD OF 'tesseractlaw02.SpaceRanks'. -/
def spaceRanksUptoCard : Claim7 := { stood := { row := spaceRanksUptoRow, standIns := [], harness := (true, "675d9732a2fbd23e991b4ee1f970b9c6c9c9eb6f9ef1b908594ce9515fe52df1"), looks := false }, kinds := [], alts := [], laidByText := true, laidKinds := [.data, .data, .data, .data, .pinned], laidTests := true, laidLooks := .later }
def SpaceRanksUptoCardSaid : Prop := Claim7.holds Tryz.pinned (.plain (OpenSpec.upto spaceRanksSpec)) spaceRanksUptoCard

/-- THE SECOND FORM's CARD OF 'tesseractlaw02.SpaceHull'. -/
def spaceHullUptoCard : Claim7 := { stood := { row := spaceHullUptoRow, standIns := [], harness := (true, "675d9732a2fbd23e991b4ee1f970b9c6c9c9eb6f9ef1b908594ce9515fe52df1"), looks := false }, kinds := [], alts := [], laidByText := true, laidKinds := [.data, .data, .data, .data, .pinned], laidTests := true, laidLooks := .later }
def SpaceHullUptoCardSaid : Prop := Claim7.holds Tryz.pinned (.plain (OpenSpec.upto spaceHullSpec)) spaceHullUptoCard
end Rows
end Go.Proofs.YtkliekoheeeamaaGreatDoor
