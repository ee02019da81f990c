/- Lemmas and contracts, each under its own condition: The reference of layer 2, contract: Cell. The reference of layer 2, contract: Check. -/
import Derived.BigQuiet
import Derived.IntWalk
import Derived.Test.YthlkcppbljpooaaGreatDoorS18
import Derived.Test.YthlkcppbljpooaaGreatDoorS5
import Derived.Test.YthlkcppbljpooaaGreatDoorS50
import Derived.Test.YthlkcppbljpooaaGreatDoorS58
/- The reference of layer 2, contract: Cell. -/
namespace Go.Proofs.YthlkcppbljpooaaGreatDoor
open Go.RowKit

end Go.Proofs.YthlkcppbljpooaaGreatDoor
/- The reference of layer 2, contract: Check. -/
namespace Go.Proofs.YthlkcppbljpooaaGreatDoor
open Go.RowKit

end Go.Proofs.YthlkcppbljpooaaGreatDoor
