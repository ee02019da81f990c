/- Lemmas and contracts, each under its own condition: The reference of layer 2, contracts: letter, further, Name, bounds, Last. The reference of layer 2, contracts: Dims, taken. The reference of layer 2, contracts: taken, Schema. The reference of layer 2, contracts: Of, Cell. -/
import Derived.BigQuiet
import Derived.Test.YthlkcppbljpooaaGreatDoorS3
import Derived.Test.YthlkcppbljpooaaGreatDoorS4
import Derived.Test.YthlkcppbljpooaaGreatDoorS5
/- The reference of layer 2, contracts: letter, further, Name, bounds, Last. -/
namespace Go.Proofs.YthlkcppbljpooaaGreatDoor
open Go.RowKit

end Go.Proofs.YthlkcppbljpooaaGreatDoor
/- The reference of layer 2, contracts: Dims, taken. -/
namespace Go.Proofs.YthlkcppbljpooaaGreatDoor
open Go.RowKit

end Go.Proofs.YthlkcppbljpooaaGreatDoor
/- The reference of layer 2, contracts: taken, Schema. -/
namespace Go.Proofs.YthlkcppbljpooaaGreatDoor
open Go.RowKit

end Go.Proofs.YthlkcppbljpooaaGreatDoor
/- The reference of layer 2, contracts: Of, Cell. -/

namespace Go.Proofs.YthlkcppbljpooaaGreatDoor
open Go.RowKit

end Go.Proofs.YthlkcppbljpooaaGreatDoor
