/- Lemmas and contracts, each under its own condition: The reference of layer 2, contract: Compare. The reference of layer 2, contract: Cell. The reference of layer 2, contract: Check. -/
import Derived.BigQuiet
import Derived.IntWalk
import Derived.Test.YtkliekoheeeamaaGreatDoorS18
import Derived.Test.YtkliekoheeeamaaGreatDoorS4
import Derived.Test.YtkliekoheeeamaaGreatDoorS5
import Derived.Test.YtkliekoheeeamaaGreatDoorS50
/- The reference of layer 2, contract: Compare. -/
namespace Go.Proofs.YtkliekoheeeamaaGreatDoor
open Go.RowKit

end Go.Proofs.YtkliekoheeeamaaGreatDoor
/- The reference of layer 2, contract: Cell. -/
namespace Go.Proofs.YtkliekoheeeamaaGreatDoor
open Go.RowKit

end Go.Proofs.YtkliekoheeeamaaGreatDoor
/- The reference of layer 2, contract: Check. -/
namespace Go.Proofs.YtkliekoheeeamaaGreatDoor
open Go.RowKit

end Go.Proofs.YtkliekoheeeamaaGreatDoor
