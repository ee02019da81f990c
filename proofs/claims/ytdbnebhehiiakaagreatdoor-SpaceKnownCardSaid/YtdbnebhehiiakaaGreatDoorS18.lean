/- Lemmas and contracts, each under its own condition: The reference of layer 2, contracts: letter, further, Name, bounds, Last. The reference of layer 2, contracts: Dims, taken. The reference of layer 2, contracts: taken, Schema. The reference of layer 2, contracts: Of, Cell. -/
import Derived.BigQuiet
import Derived.Test.YtdbnebhehiiakaaGreatDoorS3
import Derived.Test.YtdbnebhehiiakaaGreatDoorS4
import Derived.Test.YtdbnebhehiiakaaGreatDoorS5
namespace Go.Proofs.YtdbnebhehiiakaaGreatDoor
open Go.RowKit
end Go.Proofs.YtdbnebhehiiakaaGreatDoor
