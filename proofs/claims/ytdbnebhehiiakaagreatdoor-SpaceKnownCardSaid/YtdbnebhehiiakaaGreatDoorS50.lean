/- Lemmas and contracts, each under its own condition: The reference's rational numbers, contracts: Mul, Quo, Add, Neg, Sub, Cmp. The reference's rational numbers, contracts: Neg, Sub, Cmp. The reference's values, contracts: Check, Fits, Number. The reference's values, contracts: Check of any value, Number, Fits. -/
import Derived.Deep.QuietTactic
import Derived.Deep.RegionHeld3
import Derived.Test.YtdbnebhehiiakaaGreatDoorG1
import Derived.Test.YtdbnebhehiiakaaGreatDoorV2
namespace Go.Proofs.YtdbnebhehiiakaaGreatDoor
open Go.RowKit
theorem neg_num (q:Rat):qnum (-q)=qnum q:=by unfold qnum; rw [Rat.neg_num,Int.natAbs_neg]
theorem neg_den (q:Rat):(-q).den=q.den:=Rat.neg_den q
theorem Bd.neg {k:Nat} {q:Rat} (h:Bd k q):Bd k (-q):=⟨by rw [neg_num]; exact h.num,by rw [neg_den]; exact h.den⟩
end Go.Proofs.YtdbnebhehiiakaaGreatDoor
