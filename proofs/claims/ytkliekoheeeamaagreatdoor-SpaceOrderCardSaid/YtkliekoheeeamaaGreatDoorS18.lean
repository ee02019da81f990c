/- Lemmas and contracts, each under its own condition: The reference of layer 2, contracts: letter, further, Name, bounds, Last. The reference of layer 2, contracts: Dims, taken. -/
import Derived.BigQuiet
import Derived.Test.YtkliekoheeeamaaGreatDoorS3
/- The reference of layer 2, contracts: letter, further, Name, bounds, Last. -/
namespace Go.Proofs.YtkliekoheeeamaaGreatDoor
open Go.RowKit

end Go.Proofs.YtkliekoheeeamaaGreatDoor
/- The reference of layer 2, contracts: Dims, taken. -/
namespace Go.Proofs.YtkliekoheeeamaaGreatDoor
open Go.RowKit

end Go.Proofs.YtkliekoheeeamaaGreatDoor
