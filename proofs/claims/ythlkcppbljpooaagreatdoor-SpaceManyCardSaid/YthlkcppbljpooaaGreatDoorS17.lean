/- Lemmas and contracts, each under its own condition: The laws of layer 2: short, schema. The laws of layer 2: cells, Few. -/
import Derived.Test.YthlkcppbljpooaaGreatDoorS4
import Derived.Test.YthlkcppbljpooaaGreatDoorS5
/- The laws of layer 2: short, schema. -/
namespace Go.Proofs.YthlkcppbljpooaaGreatDoor
open Go.RowKit

end Go.Proofs.YthlkcppbljpooaaGreatDoor
/- The laws of layer 2: cells, Few. -/
namespace Go.Proofs.YthlkcppbljpooaaGreatDoor
open Go.RowKit

end Go.Proofs.YthlkcppbljpooaaGreatDoor
