/- Boxes: Has, of the program and of the reference. -/
import Derived.BigQuiet
import Derived.Test.YtkliekoheeeamaaGreatDoorS10
namespace Go.Proofs.YtkliekoheeeamaaGreatDoor
open Go.RowKit

end Go.Proofs.YtkliekoheeeamaaGreatDoor
