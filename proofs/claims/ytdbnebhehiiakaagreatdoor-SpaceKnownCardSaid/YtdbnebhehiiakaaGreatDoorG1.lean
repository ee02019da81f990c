/- Lemmas and contracts, each under its own condition: The reference's natural numbers, contracts: trim, natural, digit, short, compare. The reference's natural numbers, contracts: plus, minus. The reference's natural numbers, contracts: times. The reference's natural numbers, contracts: compare, over. The reference's natural numbers, contracts: over (the long way), common, length. The reference's natural numbers, contracts: common, length. The reference's natural numbers, contract: decimal. The reference's rational numbers, contracts: reduced, size, Of. The reference's rational numbers, contracts: Text, Bits, Sign, Whole, Floor. The reference's rational numbers, contracts: Bits, Sign, Whole, Floor, word, Value. The reference's rational numbers, contracts: Floor, word, Missing, Truth, Value. The reference's rational numbers, contract: Value. -/
import Derived.Deep.RegionHeld3
import Derived.Deep.AppendLies
import Derived.Deep.Upon
import Derived.Laws.IdiomStrings
import Derived.Test.YtdbnebhehiiakaaGreatDoorN2
import Derived.Test.YtdbnebhehiiakaaGreatDoorN3
import Derived.Test.YtdbnebhehiiakaaGreatDoorR1
import Derived.Test.YtdbnebhehiiakaaGreatDoorT1
import Derived.Test.YtdbnebhehiiakaaGreatDoorV2
namespace Go.Proofs.YtdbnebhehiiakaaGreatDoor
open Go.RowKit
theorem Sm.small {n:Nat} (h:n≤999999999):Sm n:=Sm.of_bits (k:=30) (by omega) (by omega)
end Go.Proofs.YtdbnebhehiiakaaGreatDoor
