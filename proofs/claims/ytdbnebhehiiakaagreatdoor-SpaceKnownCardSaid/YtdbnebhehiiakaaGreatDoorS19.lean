/- Lemmas and contracts, each under its own condition: The reference of layer 2, contract: Cell. The reference of layer 2, contract: Check. -/
import Derived.BigQuiet
import Derived.IntWalk
import Derived.Test.YtdbnebhehiiakaaGreatDoorS18
import Derived.Test.YtdbnebhehiiakaaGreatDoorS5
import Derived.Test.YtdbnebhehiiakaaGreatDoorS50
import Derived.Test.YtdbnebhehiiakaaGreatDoorS58
namespace Go.Proofs.YtdbnebhehiiakaaGreatDoor
open Go.RowKit
end Go.Proofs.YtdbnebhehiiakaaGreatDoor
