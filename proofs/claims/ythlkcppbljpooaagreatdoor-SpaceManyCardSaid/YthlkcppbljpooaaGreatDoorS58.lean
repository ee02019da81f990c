/- The reference of layer 2, contract: Compare. -/
import Derived.BigQuiet
import Derived.Test.YthlkcppbljpooaaGreatDoorS18
import Derived.Test.YthlkcppbljpooaaGreatDoorS4
namespace Go.Proofs.YthlkcppbljpooaaGreatDoor
open Go.RowKit

end Go.Proofs.YthlkcppbljpooaaGreatDoor
