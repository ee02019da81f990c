/- A drawn region of reads and calls whose last steps are: a list of one element is built, appended to the second list of a box, and stored. -/
import Derived.Test.YtdbnebhehiiakaaGreatDoorS13
namespace Go.Proofs.YtdbnebhehiiakaaGreatDoor
open Go.RowKit
section
variable {VL:List (Option Value)} {jb ja js n₀ g:Nat} {W0:World} {v1 v2:Value} {lo hi:List Int} {M:Int} {dn:Nat→Bool} {vals:Nat→Value} {w:World}
end
end Go.Proofs.YtdbnebhehiiakaaGreatDoor
