/- Lemmas and contracts, each under its own condition: The laws of layer 2: short, schema. The laws of layer 2: cells, Few. -/
import Derived.Test.YtdbnebhehiiakaaGreatDoorS4
import Derived.Test.YtdbnebhehiiakaaGreatDoorS5
namespace Go.Proofs.YtdbnebhehiiakaaGreatDoor
open Go.RowKit
end Go.Proofs.YtdbnebhehiiakaaGreatDoor
