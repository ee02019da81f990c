/- The reference of layer 2, contract: Compare. -/
import Derived.BigQuiet
import Derived.Test.YtdbnebhehiiakaaGreatDoorS18
import Derived.Test.YtdbnebhehiiakaaGreatDoorS4
namespace Go.Proofs.YtdbnebhehiiakaaGreatDoor
open Go.RowKit
end Go.Proofs.YtdbnebhehiiakaaGreatDoor
