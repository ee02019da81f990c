/- Lemmas and contracts, each under its own condition: The reference of layer 2, contracts: letter, further, Name, bounds, Last. The reference of layer 2, contracts: Dims, taken. The reference of layer 2, contracts: taken, Schema. The reference of layer 2, contracts: Of, Cell. -/
import Derived.BigQuiet
import Derived.Test.YtkliekoheeeamaaGreatDoorS3
import Derived.Test.YtkliekoheeeamaaGreatDoorS4
import Derived.Test.YtkliekoheeeamaaGreatDoorS5
/- The reference of layer 2, contracts: letter, further, Name, bounds, Last. -/
namespace Go.Proofs.YtkliekoheeeamaaGreatDoor
open Go.RowKit

end Go.Proofs.YtkliekoheeeamaaGreatDoor
/- The reference of layer 2, contracts: Dims, taken. -/
namespace Go.Proofs.YtkliekoheeeamaaGreatDoor
open Go.RowKit

end Go.Proofs.YtkliekoheeeamaaGreatDoor
/- The reference of layer 2, contracts: taken, Schema. -/
namespace Go.Proofs.YtkliekoheeeamaaGreatDoor
open Go.RowKit

end Go.Proofs.YtkliekoheeeamaaGreatDoor
/- The reference of layer 2, contracts: Of, Cell. -/

namespace Go.Proofs.YtkliekoheeeamaaGreatDoor
open Go.RowKit

end Go.Proofs.YtkliekoheeeamaaGreatDoor
